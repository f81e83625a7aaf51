/- Walks of the functions that the claim reaches. Conditions: none. -/
import Derived.Test.YtajchhghjjlahaaDoorIe
import Derived.Test.YtajchhghjjlahaaDoorRows
import Derived.Test.YtajchhghjjlahaaDoorTie
import Derived.Test.YtajchhghjjlahaaDoorCards
import Derived.ProofKit
import Derived.LaidMore
import Derived.Lay
import Derived.SevenTiedAt
import Derived.Stop.Joined
set_option linter.all false
namespace Go.Proofs.YtajchhghjjlahaaDoor
open Go Go.Cn Go.RowKit Go.ChangeShapes Go.WideShapes
abbrev laidA : List (String × DataW Unit) := [("unicode/utf8.acceptRanges", Rows.laid_unicode_utf8_acceptRanges), ("simulacrum/hash.constants", Rows.laid_simulacrum_hash_constants), ("unicode/utf8.first", Rows.laid_unicode_utf8_first)]
theorem gCon : Tryd.prog.globalNamed "simulacrum/hash.constants" = some 0 := by kernel_rfl
theorem vars_A {W : World} {ps : List MemPlace} (h : DataW.LaidVars Tryd.prog W laidA ps) : HGlob (abs W) := by
 obtain ⟨_, _, _, _, _, q, _, _, _, _, hr, _⟩ := h
 obtain ⟨c1, c2, _⟩ := laid_rd (t := 148) (e := 61) (n := 64) (k := .u32) (ls := roundK) hr gCon (by kernel_rfl) (by kernel_rfl) (by kernel_rfl) (by kernel_rfl) (by kernel_rfl) (by kernel_rfl) rfl
 exact c2
theorem met_A {W : World} (h : laidMetH Tryd.prog laidA W) : HGlob (abs W) := by
 rw [MakeChecks.laidMetH_plain _ _ _ (by kernel_rfl)] at h
 obtain ⟨ps, h, _⟩ := h
 exact vars_A h
theorem globs (W : World) (h : W.ShapedOpen Tryd.prog) : Tryd.prog.globals.size ≤ W.heap.size := shaped_globals (.inl (by kernel_rfl)) W h
theorem own : ownKnob Tryd.prog.godebug = none := by kernel_rfl
theorem laidOut : laidOutB Tryd.prog = true := by kernel_rfl
theorem door_metA (os : Os) (args : Array Value) : laidMetH Tryd.prog laidA ((World.laidAll Tryd.prog os laidA).forCall (fun _ _ => 0) ⟨#[], args, []⟩).memory := by
 rw [MakeChecks.laidMetH_plain _ _ _ (by kernel_rfl)]
 exact laidMet_laidAll _ (by kernel_rfl) (by kernel_rfl)
def memZ : Value := .agg #[.slice none 0 0]
end Go.Proofs.YtajchhghjjlahaaDoor
