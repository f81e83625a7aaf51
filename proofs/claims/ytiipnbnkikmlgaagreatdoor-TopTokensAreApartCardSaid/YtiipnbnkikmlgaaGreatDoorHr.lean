/- Walks of the functions that the claim reaches. Conditions: none. -/
import Derived.Test.YtiipnbnkikmlgaaGreatDoorUc
import Derived.Test.YtiipnbnkikmlgaaGreatDoorRows
import Derived.Test.YtiipnbnkikmlgaaGreatDoorTie
import Derived.Test.YtiipnbnkikmlgaaGreatDoorCards
import Derived.ProofKit
import Derived.LaidMore
import Derived.Lay
import Derived.SevenTiedAt
import Derived.Stop.Joined
set_option linter.all false
set_option maxRecDepth 10000
set_option maxHeartbeats 1000000
namespace Go.Proofs.YtiipnbnkikmlgaaGreatDoor
open Go Go.Cn Go.RowKit
variable {σ : H}
theorem cellsI : Tryz.prog.cellsOf 3 = 1 := by kernel_rfl
end Go.Proofs.YtiipnbnkikmlgaaGreatDoor
set_option maxRecDepth 10000
namespace Go.Proofs.YtiipnbnkikmlgaaGreatDoor
open Go Go.Cn Go.RowKit Go.ChangeShapes Go.WideShapes
section
variable {σ : H}
theorem cellsPlea : Tryz.prog.cellsOf 28 = 5 := by kernel_rfl
theorem bytesPlea : Tryz.prog.bytesOf 28 = 40 := by kernel_rfl
theorem rd_plea {f : Nat} {cs : List Value} (h : RdS Tryz.prog σ f 28 cs) : ∃ p : Pl, True ∧ cs = pC p := by
 cases f with
 |zero => exact h.elim
 |succ f =>
  simp only [RdS, Tryz.underlying28, cellsPlea, List.forall_mem_cons, cellsI] at h
  obtain ⟨hl, h1, h2, h3, h4, h5, _⟩ := h
  obtain ⟨n1, g1, _⟩ := rd_int Tryz.underlying3 (rds_rd h1)
  obtain ⟨n2, g2, _⟩ := rd_int Tryz.underlying3 (rds_rd h2)
  obtain ⟨n3, g3, _⟩ := rd_int Tryz.underlying3 (rds_rd h3)
  obtain ⟨n4, g4, _⟩ := rd_int Tryz.underlying3 (rds_rd h4)
  obtain ⟨n5, g5, _⟩ := rd_int Tryz.underlying3 (rds_rd h5)
  refine ⟨⟨n1, n2, n3, n4, n5⟩, trivial, ?_⟩
  match cs, hl with
  |[a, b, c, d, e], _ =>
   simp at g1 g2 g3 g4 g5
   rw [g1, g2, g3, g4, g5]
   rfl
theorem dat_pleas {v : Value} (h : DatS Tryz.prog σ 22 v) : ∃ L : List Pl, Row σ 5 v (L.map pC) ∧ L.length < 20000000000000 := by
 simp only [DatS, Tryz.underlying22] at h
 obtain ⟨f, h⟩ := h
 cases f with
 |zero => exact h.elim
 |succ f =>
  simp only [RdS, Tryz.underlying22] at h
  obtain ⟨a, c, D, g, okD, rD, cD, wD⟩ := rds_slice (V := pC) (ok := fun _ => True) cellsPlea (fun l hl => rd_plea hl) h
  rw [bytesPlea] at wD
  have hr : reachBytes = 140737488351232 := rfl
  injection g with g
  exact ⟨D, g ▸ rD, by omega⟩
end
abbrev laidA : List (String × DataW Unit) := [("unicode/utf8.acceptRanges", Rows.laid_unicode_utf8_acceptRanges), ("simulacrum/hash.constants", Rows.laid_simulacrum_hash_constants), ("unicode/utf8.first", Rows.laid_unicode_utf8_first)]
theorem globs (W : World) (h : W.ShapedOpen Tryz.prog) : Tryz.prog.globals.size ≤ W.heap.size := shaped_globals (.inl (by kernel_rfl)) W h
theorem own : ownKnob Tryz.prog.godebug = none := by kernel_rfl
theorem laidOut : laidOutB Tryz.prog = true := by kernel_rfl
theorem door_metA (os : Os) (args : Array Value) : laidMetH Tryz.prog laidA ((World.laidAll Tryz.prog os laidA).forCall (fun _ _ => 0) ⟨#[], args, []⟩).memory := by
 rw [MakeChecks.laidMetH_plain _ _ _ (by kernel_rfl)]
 exact laidMet_laidAll _ (by kernel_rfl) (by kernel_rfl)
end Go.Proofs.YtiipnbnkikmlgaaGreatDoor
