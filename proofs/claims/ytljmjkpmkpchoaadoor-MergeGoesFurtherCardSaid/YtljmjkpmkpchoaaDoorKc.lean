/- Walks and plain laws. Conditions: none. -/
import Derived.Test.YtljmjkpmkpchoaaDoorWn
import Derived.Test.YtljmjkpmkpchoaaDoorRows
import Derived.Test.YtljmjkpmkpchoaaDoorTie
import Derived.Test.YtljmjkpmkpchoaaDoorCards
import Derived.ProofKit
import Derived.LaidMore
import Derived.SevenTiedAt
import Derived.Stop.Joined
set_option linter.all false
set_option linter.unusedSimpArgs false
namespace Go.Proofs.YtljmjkpmkpchoaaDoor
open Go Go.Cn Go.RowKit Go.ChangeShapes Go.WideShapes

theorem own : ownKnob Tryd.prog.godebug = none := by kernel_rfl
theorem laidOut : laidOutB Tryd.prog = true := by kernel_rfl
theorem door_met (os : Os) (args : Array Value) : laidMetH Tryd.prog laid0 ((World.doorLaid Tryd.prog 400 os).forCall (fun _ _ => 0) ⟨#[], args, []⟩).memory :=
  laidMetH_of_parts3 (fuel := 8) (laidMet_of_run' 8 (by kernel_rfl) (by kernel_rfl)) (by kernel_rfl) (by kernel_rfl)
theorem laid_heap {W : World} (h : laidMetH Tryd.prog laid0 W) : Tryd.prog.globals.size ≤ W.heap.size := by
  rw [MakeChecks.laidMetH_plain _ _ _ (by kernel_rfl)] at h
  obtain ⟨ps, ⟨g0, t0, cs0, f0, p0, q0, hg0, ht0, hv0, hd0, _, _⟩, _⟩ := h
  obtain rfl := Option.some.inj (gConst.symm.trans hg0)
  have := World.var?_cell hg0 hv0 0
  show 1 ≤ W.heap.size
  unfold World.var? at hv0
  rw [hg0] at hv0
  simp only [Option.bind_some] at hv0
  cases hh : W.heap[0]? with
  | none => rw [hh] at hv0; cases hv0
  | some o => exact (Array.getElem?_eq_some_iff.1 hh).1

def logZ : Value := .agg #[.int .u8 0, .int .u8 0, .int .u8 0, .int .u8 0, .int .u8 0, .int .u8 0, .int .u8 0, .int .u8 0, .int .u8 0, .int .u8 0, .int .u8 0, .int .u8 0, .int .u8 0, .int .u8 0, .int .u8 0, .int .u8 0, .int .i64 0, .slice none 0 0, .slice none 0 0]


theorem dat_u8 {σ : H} {v : Value} (h : Dat Tryd.prog σ 5 v) : ∃ n, v = .int .u8 n ∧ 0 ≤ n ∧ n ≤ 255 := by
  simp only [Dat, Tryd.underlying5] at h
  obtain ⟨f, h⟩ := h
  cases f with
  | zero => exact h.elim
  | succ f =>
    simp only [Rd, Tryd.underlying5] at h
    obtain ⟨n, h, h1, h2⟩ := h
    injection h with h
    exact ⟨n, h, h1, h2⟩
theorem dat_u16 {σ : H} {v : Value} (h : Dat Tryd.prog σ 51 v) : ∃ n, v = .int .u16 n ∧ 0 ≤ n ∧ n ≤ 65535 := by
  simp only [Dat, Tryd.underlying51] at h
  obtain ⟨f, h⟩ := h
  cases f with
  | zero => exact h.elim
  | succ f =>
    simp only [Rd, Tryd.underlying51] at h
    obtain ⟨n, h, h1, h2⟩ := h
    injection h with h
    exact ⟨n, h, h1, h2⟩
end Go.Proofs.YtljmjkpmkpchoaaDoor
