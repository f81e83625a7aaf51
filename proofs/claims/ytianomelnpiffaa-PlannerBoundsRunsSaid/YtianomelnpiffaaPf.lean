/- Walks of the functions that the claim reaches. Conditions: none. -/
import Derived.Test.YtianomelnpiffaaPe
set_option linter.all false
set_option linter.unusedSimpArgs false
set_option linter.unusedVariables false
set_option maxRecDepth 10000
set_option maxHeartbeats 1000000
namespace Go.Proofs.Ytianomelnpiffaa
open Go Go.Cn Go.RowKit

theorem cells3 : Try.prog.cellsOf 3 = 1 := by kernel_rfl
theorem cells5 : Try.prog.cellsOf 5 = 1 := by kernel_rfl
theorem cells23 : Try.prog.cellsOf 23 = 4 := by kernel_rfl
theorem cells25 : Try.prog.cellsOf 25 = 2 := by kernel_rfl
theorem cells27 : Try.prog.cellsOf 27 = 2 := by kernel_rfl
theorem cells29 : Try.prog.cellsOf 29 = 3 := by kernel_rfl
variable {σ : H}
theorem rdi {f : Nat} {cs : List Value} (h : Rd Try.prog σ f 3 cs) : ∃ n, cs = [.int .i64 n] := let ⟨n, h, _⟩ := rd_int Try.underlying3 h; ⟨n, h⟩
theorem cut2 {cs : List Value} (h : cs.length = 2) : cs = (cs.drop 0).take 1 ++ (cs.drop 1).take 1 := by
  match cs, h with
  | [a, b], _ => rfl
theorem cut3 {cs : List Value} (h : cs.length = 3) : cs = (cs.drop 0).take 1 ++ (cs.drop 1).take 1 ++ (cs.drop 2).take 1 := by
  match cs, h with
  | [a, b, c], _ => rfl
theorem cut4 {cs : List Value} (h : cs.length = 4) : cs = (cs.drop 0).take 1 ++ (cs.drop 1).take 1 ++ (cs.drop 2).take 1 ++ (cs.drop 3).take 1 := by
  match cs, h with
  | [a, b, c, d], _ => rfl
theorem dat_int {v : Value} (h : Dat Try.prog σ 3 v) : ∃ n, v = .int .i64 n := by
  simp only [Dat, Try.underlying3] at h
  obtain ⟨f, h⟩ := h
  obtain ⟨n, h⟩ := rdi h
  injection h with h
  exact ⟨n, h⟩
theorem dat_u8 {v : Value} (h : Dat Try.prog σ 5 v) : ∃ n, v = .int .u8 n ∧ 0 ≤ n ∧ n ≤ 255 := by
  simp only [Dat, Try.underlying5] at h
  obtain ⟨f, h⟩ := h
  obtain ⟨n, h, h1, h2⟩ := rd_int Try.underlying5 h
  injection h with h
  exact ⟨n, h, h1, h2⟩
theorem dat_ld {v : Value} (h : Dat Try.prog σ 23 v) : ∃ g : Ld, v = .agg (ldV g).toArray := by
  simp only [Dat, Try.underlying23] at h
  obtain ⟨cs, f, rfl, h⟩ := h
  cases f with
  | zero => exact h.elim
  | succ f =>
    simp only [Rd, Try.underlying23, cells23, List.forall_mem_cons, cells3] at h
    obtain ⟨hl, h1, h2, h3, h4, _⟩ := h
    obtain ⟨n1, h1⟩ := rdi h1
    obtain ⟨n2, h2⟩ := rdi h2
    obtain ⟨n3, h3⟩ := rdi h3
    obtain ⟨n4, h4⟩ := rdi h4
    refine ⟨⟨n1, n2, n3, n4⟩, ?_⟩
    have := cut4 (cs := cs.toList) (by simpa using hl)
    rw [h1, h2, h3, h4] at this
    rw [← Array.toArray_toList (xs := cs), this]
    rfl
theorem dat_ln {v : Value} (h : Dat Try.prog σ 25 v) : ∃ g : Ln, v = .agg (lnV g).toArray := by
  simp only [Dat, Try.underlying25] at h
  obtain ⟨cs, f, rfl, h⟩ := h
  cases f with
  | zero => exact h.elim
  | succ f =>
    simp only [Rd, Try.underlying25, cells25, List.forall_mem_cons, cells3] at h
    obtain ⟨hl, h1, h2, _⟩ := h
    obtain ⟨n1, h1⟩ := rdi h1
    obtain ⟨n2, h2⟩ := rdi h2
    refine ⟨⟨n1, n2⟩, ?_⟩
    have := cut2 (cs := cs.toList) (by simpa using hl)
    rw [h1, h2] at this
    rw [← Array.toArray_toList (xs := cs), this]
    rfl
theorem dat_pl {v : Value} (h : Dat Try.prog σ 27 v) : ∃ g : Pl, v = .agg (plV g).toArray := by
  simp only [Dat, Try.underlying27] at h
  obtain ⟨cs, f, rfl, h⟩ := h
  cases f with
  | zero => exact h.elim
  | succ f =>
    simp only [Rd, Try.underlying27, cells27, List.forall_mem_cons, cells3] at h
    obtain ⟨hl, h1, h2, _⟩ := h
    obtain ⟨n1, h1⟩ := rdi h1
    obtain ⟨n2, h2⟩ := rdi h2
    refine ⟨⟨n1, n2⟩, ?_⟩
    have := cut2 (cs := cs.toList) (by simpa using hl)
    rw [h1, h2] at this
    rw [← Array.toArray_toList (xs := cs), this]
    rfl
theorem dat_bd {v : Value} (h : Dat Try.prog σ 29 v) : ∃ g : Bd, v = .agg (bdV g).toArray := by
  simp only [Dat, Try.underlying29] at h
  obtain ⟨cs, f, rfl, h⟩ := h
  cases f with
  | zero => exact h.elim
  | succ f =>
    simp only [Rd, Try.underlying29, cells29, List.forall_mem_cons, cells3] at h
    obtain ⟨hl, h1, h2, h3, _⟩ := h
    obtain ⟨n1, h1⟩ := rdi h1
    obtain ⟨n2, h2⟩ := rdi h2
    obtain ⟨n3, h3⟩ := rdi h3
    refine ⟨⟨n1, n2, n3⟩, ?_⟩
    have := cut3 (cs := cs.toList) (by simpa using hl)
    rw [h1, h2, h3] at this
    rw [← Array.toArray_toList (xs := cs), this]
    rfl
theorem dat_u8s {v : Value} (h : Dat Try.prog σ 55 v) : ∃ l : List Int, (∀ x ∈ l, 0 ≤ x ∧ x ≤ 255) ∧ Row σ 1 v (l.map fun x => [.int .u8 x]) := by
  simp only [Dat, Try.underlying55] at h
  obtain ⟨f, h⟩ := h
  cases f with
  | zero => exact h.elim
  | succ f =>
    simp only [Rd, Try.underlying55] at h
    obtain ⟨a, c, xs, g, ok, r, _⟩ := rd_slice (V := fun x => [.int .u8 x]) (ok := fun x => 0 ≤ x ∧ x ≤ 255) cells5 (fun l hl => let ⟨e, he, h1, h2⟩ := rd_int Try.underlying5 hl; ⟨e, ⟨h1, h2⟩, he⟩) h
    injection g with g
    exact ⟨xs, ok, g ▸ r⟩
end Go.Proofs.Ytianomelnpiffaa
