/- Walks of the functions that the claim reaches. Conditions: none. -/
import Derived.Test.YtianomelnpiffaaPf
import Derived.Test.YtianomelnpiffaaRows
import Derived.ProofKit
set_option linter.all false
set_option linter.unusedSimpArgs false
namespace Go.Proofs.Ytianomelnpiffaa
open Go Go.Cn Go.RowKit Go.ChangeShapes Go.WideShapes

theorem own : ownKnob Try.prog.godebug = none := by kernel_rfl
theorem laidOut : laidOutB Try.prog = true := by kernel_rfl
theorem globs : ∀ W : World, W.ShapedOpen Try.checked.prog → Try.checked.prog.globals.size ≤ W.heap.size := shaped_globals (.inr (by kernel_rfl))

end Go.Proofs.Ytianomelnpiffaa
