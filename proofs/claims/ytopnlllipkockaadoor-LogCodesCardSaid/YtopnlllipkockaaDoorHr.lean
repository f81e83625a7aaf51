/- Walks of the functions that the claim reaches. Conditions: none. -/
import Derived.Test.YtopnlllipkockaaDoorGe
import Derived.Test.YtopnlllipkockaaDoorRows
import Derived.Test.YtopnlllipkockaaDoorTie
import Derived.Test.YtopnlllipkockaaDoorCards
import Derived.ProofKit
import Derived.LaidMore
import Derived.SevenTiedAt
import Derived.Stop.Joined
set_option linter.all false
namespace Go.Proofs.YtopnlllipkockaaDoor
open Go Go.Cn Go.RowKit Go.ChangeShapes Go.WideShapes
abbrev laidA : List (String × DataW Unit) := [("simulacrum/hash.constants", Rows.laid_simulacrum_hash_constants)]
abbrev laidB : List (String × DataW Unit) := ("simulacrum/simulacrumref02.constants", Rows.laid_simulacrum_simulacrumref02_constants) :: laidA
theorem gRef : Tryd.prog.globalNamed "simulacrum/simulacrumref02.constants" = some 1 := by kernel_rfl
theorem gCon : Tryd.prog.globalNamed "simulacrum/hash.constants" = some 0 := by kernel_rfl
theorem vars_A {W : World} {ps : List MemPlace} (h : DataW.LaidVars Tryd.prog W laidA ps) : HGlob (abs W) := by
 obtain ⟨c1, c2, _⟩ := laid_rd (t := 122) (e := 98) (n := 64) (k := .u32) (ls := roundK) h gCon (by kernel_rfl) (by kernel_rfl) (by kernel_rfl) (by kernel_rfl) (by kernel_rfl) (by kernel_rfl) rfl
 exact c2
theorem met_B {W : World} (h : laidMetH Tryd.prog laidB W) : HGlob (abs W) ∧ Glob (abs W) := by
 rw [MakeChecks.laidMetH_plain _ _ _ (by kernel_rfl)] at h
 obtain ⟨ps, h, _⟩ := h
 obtain ⟨_, c2, q, hq⟩ := laid_rd (t := 122) (e := 98) (n := 64) (k := .u32) (ls := roundK) h gRef (by kernel_rfl) (by kernel_rfl) (by kernel_rfl) (by kernel_rfl) (by kernel_rfl) (by kernel_rfl) rfl
 exact ⟨vars_A hq, c2⟩
theorem globs (W : World) (h : W.ShapedOpen Tryd.prog) : Tryd.prog.globals.size ≤ W.heap.size := shaped_globals (.inl (by kernel_rfl)) W h
theorem own : ownKnob Tryd.prog.godebug = none := by kernel_rfl
theorem laidOut : laidOutB Tryd.prog = true := by kernel_rfl
theorem door_metB (os : Os) (args : Array Value) : laidMetH Tryd.prog laidB ((World.doorLaid Tryd.prog 400 os).forCall (fun _ _ => 0) ⟨#[], args, []⟩).memory :=
 laidMetH_of_parts3 (fuel := 8) (laidMet_of_run' 8 (by kernel_rfl) (by kernel_rfl)) (by kernel_rfl) (by kernel_rfl)
def logZ : Value := .agg #[.int .u8 0, .int .u8 0, .int .u8 0, .int .u8 0, .int .u8 0, .int .u8 0, .int .u8 0, .int .u8 0, .int .u8 0, .int .u8 0, .int .u8 0, .int .u8 0, .int .u8 0, .int .u8 0, .int .u8 0, .int .u8 0, .int .i64 0, .slice none 0 0, .slice none 0 0]
end Go.Proofs.YtopnlllipkockaaDoor
