/- The bodies of the functions, resolved, checked by the kernel. Conditions: none. -/
import Derived.Test.YtiipnbnkikmlgaaGreatDoorProg
import Derived.KernelRfl
import Derived.Test.YtiipnbnkikmlgaaGreatDoorBodies
set_option linter.all false
namespace Go.Proofs.YtiipnbnkikmlgaaGreatDoor
open Go Go.Cn
def s112 : S := (.seq (.keep [0] (.ops [⟨some 2,.move (.const (.bool false)),none,[]⟩])) (.seq (.keep [2] (.ops [⟨some 3,.move (.tmp 0),none,[]⟩,⟨some 4,.bin .geq (.tmp 3) (.const (.int .i64 0)),none,[]⟩,⟨some 5,.move (.tmp 4),none,[]⟩,⟨some 6,.move (.tmp 0),(some (5, true)),[]⟩,⟨some 7,.bin .lss (.tmp 6) (.const (.int .i64 4)),(some (5, true)),[]⟩,⟨some 8,.pick (.tmp 5) (.tmp 7) (.const (.bool false)),none,[]⟩,⟨some 2,.move (.tmp 8),none,[]⟩])) .ret))
theorem t112 : trF Tryz.prog Tryz.f112 s112 = some s112 := by kernel_rfl
theorem k112 : okS s112 = true := by kernel_rfl
theorem r112 : resT Tryz.prog Tryz.f112.results.toList = some [.t 2] := by kernel_rfl
end Go.Proofs.YtiipnbnkikmlgaaGreatDoor
