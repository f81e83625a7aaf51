/- Walks of the functions that the claim reaches. Conditions: none. -/
import Derived.Test.YtimcgoghjebalaaVe
set_option linter.all false
set_option linter.unusedSimpArgs false
set_option maxRecDepth 10000
set_option maxHeartbeats 1000000
namespace Go.Proofs.Ytimcgoghjebalaa
open Go Go.Cn Go.RowKit

theorem cells3 : Try.prog.cellsOf 3 = 1 := by kernel_rfl
theorem cells30 : Try.prog.cellsOf 30 = 3 := by kernel_rfl
theorem cells40 : Try.prog.cellsOf 40 = 3 := by kernel_rfl
theorem cells44 : Try.prog.cellsOf 44 = 1 := by kernel_rfl
theorem cells46 : Try.prog.cellsOf 46 = 3 := by kernel_rfl
theorem cells48 : Try.prog.cellsOf 48 = 7 := by kernel_rfl

variable {σ : H}

theorem rd_int {f : Nat} {cs : List Value} (h : Rd Try.prog σ f 3 cs) : ∃ n, cs = [.int .i64 n] := by
  cases f with
  | zero => exact h.elim
  | succ f => simp only [Rd, Try.underlying3] at h; obtain ⟨n, h, _⟩ := h; exact ⟨n, h⟩
theorem parts3 {cs : List Value} (h : cs.length = 3) : cs = (cs.drop 0).take 1 ++ (cs.drop 1).take 1 ++ (cs.drop 2).take 1 := by
  match cs, h with
  | [a, b, c], _ => rfl
theorem parts7 {cs : List Value} (h : cs.length = 7) : cs = (cs.drop 0).take 1 ++ (cs.drop 1).take 3 ++ (cs.drop 4).take 3 := by
  match cs, h with
  | [a, b, c, d, e, f, g], _ => rfl
theorem rd_ctr {f : Nat} {cs : List Value} (h : Rd Try.prog σ f 40 cs) : ∃ e, cs = ctrV e := by
  cases f with
  | zero => exact h.elim
  | succ f =>
    simp only [Rd, Try.underlying40, cells40, List.forall_mem_cons, cells3] at h
    obtain ⟨hl, h1, h2, h3, _⟩ := h
    obtain ⟨n1, h1⟩ := rd_int h1
    obtain ⟨n2, h2⟩ := rd_int h2
    obtain ⟨n3, h3⟩ := rd_int h3
    refine ⟨⟨n1, n2, n3⟩, ?_⟩
    rw [parts3 hl, h1, h2, h3]
    rfl
theorem rd_por {f : Nat} {cs : List Value} (h : Rd Try.prog σ f 30 cs) : ∃ e, cs = porV e := by
  cases f with
  | zero => exact h.elim
  | succ f =>
    simp only [Rd, Try.underlying30, cells30, List.forall_mem_cons, cells3] at h
    obtain ⟨hl, h1, h2, h3, _⟩ := h
    obtain ⟨n1, h1⟩ := rd_int h1
    obtain ⟨n2, h2⟩ := rd_int h2
    obtain ⟨n3, h3⟩ := rd_int h3
    refine ⟨⟨n1, n2, n3⟩, ?_⟩
    rw [parts3 hl, h1, h2, h3]
    rfl
theorem rd_ten {f : Nat} {cs : List Value} (h : Rd Try.prog σ f 48 cs) : ∃ e, cs = tenV e := by
  cases f with
  | zero => exact h.elim
  | succ f =>
    simp only [Rd, Try.underlying48, cells48, List.forall_mem_cons, cells3, cells40] at h
    obtain ⟨hl, h1, h2, h3, _⟩ := h
    obtain ⟨n1, h1⟩ := rd_int h1
    obtain ⟨n2, h2⟩ := rd_ctr h2
    obtain ⟨n3, h3⟩ := rd_ctr h3
    refine ⟨⟨n1, n2, n3⟩, ?_⟩
    rw [parts7 hl, h1, h2, h3]
    rfl

/-- A slice of data, read. -/
theorem rd_slice {α : Type} {f e s : Nat} {cs : List Value} {V : α → List Value} {ok : α → Prop} (hs : Try.prog.cellsOf e = s) (hV : ∀ l, Rd Try.prog σ f e l → ∃ x, ok x ∧ l = V x)
    (h : cs = [.slice none 0 0] ∨ (∃ b off len cap, cs = [.slice (some ⟨b, off, none⟩) len cap] ∧ 0 < cap ∧ len ≤ cap ∧ cap ≤ maxLen ∧ b < σ.size ∧
        (∀ i, i < cap → ∃ es, rdN σ ⟨b, off + i * Try.prog.cellsOf e, none⟩ (Try.prog.cellsOf e) = some es ∧ Rd Try.prog σ f e es)) ∨ ∃ a, cs = [.slice (some a) 0 0]) :
    ∃ (a : Option Addr) (c : Nat) (xs : List α), cs = [.slice a xs.length c] ∧ (∀ x ∈ xs, ok x) ∧ Row σ s (.slice a xs.length c) (xs.map V) ∧ CapOk s (.slice a xs.length c) := by
  subst hs
  rcases h with rfl | ⟨b, off, len, cap, rfl, h1, h2, h3, h4, h5⟩ | ⟨a, rfl⟩
  · exact ⟨none, 0, [], rfl, fun x hx => by simp at hx, ⟨none, 0, rfl, fun i x hx => by simp at hx⟩, none, 0, 0, rfl, by decide, .inl rfl⟩
  · have key : ∀ n, n ≤ cap → ∃ xs : List α, xs.length = n ∧ (∀ x ∈ xs, ok x) ∧ ∀ i x, (xs.map V)[i]? = some x → rdN σ ⟨b, off + i * Try.prog.cellsOf e, none⟩ (Try.prog.cellsOf e) = some x := by
      intro n
      induction n with
      | zero => intro _; exact ⟨[], rfl, fun x hx => by simp at hx, fun i x hx => by simp at hx⟩
      | succ n ih =>
        intro hn
        obtain ⟨xs, q1, q2, q3⟩ := ih (by omega)
        obtain ⟨es, r1, r2⟩ := h5 n (by omega)
        obtain ⟨x, r3, rfl⟩ := hV es r2
        refine ⟨xs ++ [x], by simp [q1], fun y hy => ?_, fun i y hy => ?_⟩
        · rcases List.mem_append.1 hy with hy | hy
          · exact q2 y hy
          · simp at hy; subst hy; exact r3
        · rw [List.map_append, List.getElem?_append] at hy
          split at hy
          · exact q3 i y hy
          · rename_i hi
            simp only [List.length_map, q1] at hi hy
            have : i = n := by
              by_cases hin : i - n = 0
              · omega
              · have : i - n ≥ 1 := by omega
                simp at hy
                rw [List.getElem?_eq_none (by simp; omega)] at hy
                cases hy
            subst this
            simp at hy
            rw [← hy]; exact r1
    obtain ⟨xs, q1, q2, q3⟩ := key len h2
    have hm : maxLen < big := by decide
    subst q1
    exact ⟨some ⟨b, off, none⟩, cap, xs, rfl, q2, ⟨some ⟨b, off, none⟩, cap, by simp, fun i x hx => ⟨b, off, rfl, q3 i x hx⟩⟩, _, _, _, rfl, by rw [capLow_small (by omega)]; exact h2, .inl (csz_small (by omega))⟩
  · exact ⟨some a, 0, [], rfl, fun x hx => by simp at hx, ⟨some a, 0, rfl, fun i x hx => by simp at hx⟩, _, _, _, rfl, Nat.zero_le _, .inl rfl⟩


theorem dat_int {v : Value} (h : Dat Try.prog σ 3 v) : ∃ n, v = .int .i64 n := by
  simp only [Dat, Try.underlying3] at h
  obtain ⟨f, h⟩ := h
  obtain ⟨n, h⟩ := rd_int h
  injection h with h
  exact ⟨n, h⟩
theorem dat_u32 {v : Value} (h : Dat Try.prog σ 41 v) : ∃ n, v = .int .u32 n ∧ 0 ≤ n ∧ n ≤ 4294967295 := by
  simp only [Dat, Try.underlying41] at h
  obtain ⟨f, h⟩ := h
  cases f with
  | zero => exact h.elim
  | succ f =>
    simp only [Rd, Try.underlying41] at h
    obtain ⟨n, h, h1, h2⟩ := h
    injection h with h
    exact ⟨n, h, h1, h2⟩
theorem dat_ints {v : Value} (h : Dat Try.prog σ 36 v) : ∃ l : List Int, Row σ 1 v (l.map intV) := by
  simp only [Dat, Try.underlying36] at h
  obtain ⟨f, h⟩ := h
  cases f with
  | zero => exact h.elim
  | succ f =>
    simp only [Rd, Try.underlying36] at h
    obtain ⟨a, c, xs, g, _, r, _⟩ := rd_slice (V := intV) (ok := fun _ => True) cells3 (fun l hl => let ⟨e, he⟩ := rd_int hl; ⟨e, trivial, he⟩) h
    injection g with g
    exact ⟨xs, g ▸ r⟩
theorem dat_ctrs {v : Value} (h : Dat Try.prog σ 35 v) : ∃ l : List Ctr, Row σ 3 v (l.map ctrV) := by
  simp only [Dat, Try.underlying35] at h
  obtain ⟨f, h⟩ := h
  cases f with
  | zero => exact h.elim
  | succ f =>
    simp only [Rd, Try.underlying35] at h
    obtain ⟨a, c, xs, g, _, r, _⟩ := rd_slice (V := ctrV) (ok := fun _ => True) cells40 (fun l hl => let ⟨e, he⟩ := rd_ctr hl; ⟨e, trivial, he⟩) h
    injection g with g
    exact ⟨xs, g ▸ r⟩
theorem dat_pors {v : Value} (h : Dat Try.prog σ 22 v) : ∃ l : List Por, Row σ 3 v (l.map porV) ∧ CapOk 3 v := by
  simp only [Dat, Try.underlying22] at h
  obtain ⟨f, h⟩ := h
  cases f with
  | zero => exact h.elim
  | succ f =>
    simp only [Rd, Try.underlying22] at h
    obtain ⟨a, c, xs, g, _, r, r2⟩ := rd_slice (V := porV) (ok := fun _ => True) cells30 (fun l hl => let ⟨e, he⟩ := rd_por hl; ⟨e, trivial, he⟩) h
    injection g with g
    exact ⟨xs, g ▸ r, g ▸ r2⟩
theorem dat_tens {v : Value} (h : Dat Try.prog σ 44 v) : ∃ l : List Ten, Row σ 7 v (l.map tenV) ∧ CapOk 7 v := by
  simp only [Dat, Try.underlying44] at h
  obtain ⟨f, h⟩ := h
  cases f with
  | zero => exact h.elim
  | succ f =>
    simp only [Rd, Try.underlying44] at h
    obtain ⟨a, c, xs, g, _, r, r2⟩ := rd_slice (V := tenV) (ok := fun _ => True) cells48 (fun l hl => let ⟨e, he⟩ := rd_ten hl; ⟨e, trivial, he⟩) h
    injection g with g
    exact ⟨xs, g ▸ r, g ▸ r2⟩
theorem dat_ten {v : Value} (h : Dat Try.prog σ 48 v) : ∃ t, v = .agg (tenV t).toArray := by
  simp only [Dat, Try.underlying48] at h
  obtain ⟨cs, f, rfl, h⟩ := h
  obtain ⟨t, ht⟩ := rd_ten h
  exact ⟨t, by rw [← ht]⟩
theorem dat_bud {v : Value} (h : Dat Try.prog σ 46 v) : ∃ l B, v = .agg l.toArray ∧ IsB σ l B := by
  simp only [Dat, Try.underlying46] at h
  obtain ⟨cs, f, rfl, h⟩ := h
  cases f with
  | zero => exact h.elim
  | succ f =>
    simp only [Rd, Try.underlying46, cells46, List.forall_mem_cons, cells3, cells44] at h
    obtain ⟨hl, h1, h2, h3, _⟩ := h
    obtain ⟨n1, g1⟩ := rd_int h1
    obtain ⟨n2, g2⟩ := rd_int h2
    cases f with
    | zero => exact h3.elim
    | succ f =>
      simp only [Rd, Try.underlying44] at h3
      obtain ⟨a, c, xs, g, _, r, r2⟩ := rd_slice (V := tenV) (ok := fun _ => True) cells48 (fun l hl => let ⟨e, he⟩ := rd_ten hl; ⟨e, trivial, he⟩) h3
      refine ⟨cs.toList, ⟨n1, n2, xs⟩, by simp, a, c, ?_, r, r2⟩
      rw [parts3 hl, g1, g2, g]
      rfl
end Go.Proofs.Ytimcgoghjebalaa
