/- Walks of the functions that the claim reaches. Conditions: none. -/
import Derived.Test.YtiipnbnkikmlgaaGreatDoorTa
set_option linter.all false
set_option maxRecDepth 100000
namespace Go.Proofs.YtiipnbnkikmlgaaGreatDoor
open Go Go.Cn
noncomputable def okV (b : Bool) : Option (Value × T) → Bool
 |some (.bool a, _) => a == b
 |_ => false
theorem run_ok : okV true (callF mm 40 [] (.func (.func 4) #[] #[]) [] ⟨4, .e⟩) = true := by kernel_rfl
end Go.Proofs.YtiipnbnkikmlgaaGreatDoor
