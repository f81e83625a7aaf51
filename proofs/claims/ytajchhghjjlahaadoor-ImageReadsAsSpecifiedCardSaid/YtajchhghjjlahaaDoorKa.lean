/- Walks of the functions that the claim reaches. Conditions: none. -/
import Derived.Test.YtajchhghjjlahaaDoorHd
set_option linter.all false
set_option maxRecDepth 10000
set_option maxHeartbeats 1000000
namespace Go.Proofs.YtajchhghjjlahaaDoor
open Go Go.Cn Go.RowKit
def leadN : Nat → List Int → Nat
 |0, _ => 0
 |_ + 1, [] => 0
 |f + 1, x :: r => if 128 ≤ x then leadN f r + 1 else 0
def valZ : List Int → Int
 |[] => 0
 |x :: r => x % 128 + 128 * valZ r
def unz (z : Int) : Int := if z % 2 = 1 then -1 - z / 2 else z / 2
def getF (b : List Int) : Int × Nat × Int :=
 if leadN 10 b = 10 then (0, 0, 11)
 else if leadN 10 b = b.length then (0, 0, 10)
 else if (leadN 10 b = 9 ∧ 1 < b.getD (leadN 10 b) 0) ∨ (0 < leadN 10 b ∧ b.getD (leadN 10 b) 0 = 0) then (0, 0, 11)
 else (unz (valZ (b.take (leadN 10 b + 1))), leadN 10 b + 1, 0)
theorem leadN_le : ∀ {f : Nat} {b : List Int}, leadN f b ≤ f ∧ leadN f b ≤ b.length
 |0, _ => by simp [leadN]
 |f + 1, [] => by simp [leadN]
 |f + 1, x :: r => by
  rw [leadN]
  have := leadN_le (f := f) (b := r)
  split
  ·simp; omega
  ·simp
theorem leadN_all : ∀ {f : Nat} {b : List Int} {i : Nat} (h : i < b.length), i < leadN f b → 128 ≤ b[i]
 |0, _, i, _, h => by simp [leadN] at h
 |f + 1, [], i, h, _ => by simp at h
 |f + 1, x :: r, 0, _, h => by
  rw [leadN] at h
  split at h
  ·assumption
  ·omega
 |f + 1, x :: r, i + 1, h1, h => by
  rw [leadN] at h
  split at h
  ·have := leadN_all (f := f) (b := r) (i := i) (by simpa using h1) (by omega)
   simpa using this
  ·omega
theorem leadN_at : ∀ {f : Nat} {b : List Int} (h : leadN f b < b.length), leadN f b < f → ¬128 ≤ b[leadN f b]
 |0, _, _, h => by simp [leadN] at h
 |f + 1, [], h, _ => by simp at h
 |f + 1, x :: r, h1, h2 => by
  by_cases hx : 128 ≤ x
  ·have e : leadN (f + 1) (x :: r) = leadN f r + 1 := by rw [leadN, if_pos hx]
   have := leadN_at (f := f) (b := r) (by rw [e] at h1; simpa using h1) (by omega)
   simp only [e, List.getElem_cons_succ]
   exact this
  ·have e : leadN (f + 1) (x :: r) = 0 := by rw [leadN, if_neg hx]
   simp only [e, List.getElem_cons_zero]
   exact hx
theorem valZ_nonneg : ∀ {l : List Int}, 0 ≤ valZ l
 |[] => by simp [valZ]
 |x :: r => by
  rw [valZ]
  have := valZ_nonneg (l := r)
  omega
theorem valZ_lt : ∀ {l : List Int}, valZ l < 128 ^ l.length
 |[] => by simp [valZ]
 |x :: r => by
  rw [valZ, List.length_cons, Int.pow_succ]
  have := valZ_lt (l := r)
  omega
theorem valZ_app : ∀ {l m : List Int}, valZ (l ++ m) = valZ l + 128 ^ l.length * valZ m
 |[], m => by simp [valZ]
 |x :: r, m => by
  rw [List.cons_append, valZ, valZ, valZ_app, List.length_cons, Int.pow_succ, Int.mul_add, ← Int.mul_assoc, Int.mul_comm 128 (128 ^ r.length)]
  omega
theorem valZ_small {l : List Int} {x : Int} (h : l.length ≤ 9) (hx : l.length = 9 → x % 128 ≤ 1) : valZ (l ++ [x]) < 18446744073709551616 := by
 have h1 := valZ_lt (l := l ++ [x])
 rw [List.length_append, List.length_cons, List.length_nil] at h1
 rcases Nat.lt_or_ge l.length 9 with h2 | h2
 ·have h3 : ∀ k : Nat, k < 10 → (128 : Int) ^ k ≤ 9223372036854775808 := by decide
  have := h3 (l.length + (0 + 1)) (by omega)
  omega
 ·have h9 : l.length = 9 := by omega
  have hx := hx h9
  have h4 := valZ_lt (l := l)
  rw [valZ_app, h9, valZ, valZ]
  rw [h9] at h4
  have : (128 : Int) ^ 9 = 9223372036854775808 := by decide
  rw [this] at h4 ⊢
  omega
theorem varF_step {f : Nat} {z : Int} (h0 : 0 ≤ z) (h1 : z < 18446744073709551616) : varF (f + 1) z = if 128 ≤ z then (z % 128 + 128) :: varF f (z / 128) else [z] := by
 rw [varF]
 have e1 : z.tmod 128 = z % 128 := Int.tmod_eq_emod_of_nonneg h0
 have e2 : z.tdiv 128 = z / 128 := Int.tdiv_eq_ediv_of_nonneg h0
 rw [e1, e2, wrap_u8 (n := z % 128) (by omega) (by omega), wrap_u8 (n := z % 128 + 128) (by omega) (by omega), wrap_u64 (by omega) (by omega)]
 split
 ·rfl
 ·rw [wrap_u8 (by omega) (by omega)]
theorem zF_eq {n : Int} (h1 : -9223372036854775808 ≤ n) (h2 : n < 9223372036854775808) : zF n = if n < 0 then (-1 - n) * 2 + 1 else n * 2 := by
 unfold zF
 split
 ·rw [wrap64 (by omega) (by omega), wrap_u64 (n := -1 - n) (by omega) (by omega), wrap_u64 (n := (-1 - n) * 2) (by omega) (by omega), wrap_u64 (by omega) (by omega)]
 ·rw [wrap_u64 (n := n) (by omega) (by omega), wrap_u64 (by omega) (by omega)]
theorem zF_unz {z : Int} (h1 : 0 ≤ z) (h2 : z < 18446744073709551616) : zF (unz z) = z ∧ -9223372036854775808 ≤ unz z ∧ unz z < 9223372036854775808 := by
 have hr : -9223372036854775808 ≤ unz z ∧ unz z < 9223372036854775808 := by unfold unz; split <;> omega
 refine ⟨?_, hr⟩
 rw [zF_eq hr.1 hr.2]
 unfold unz
 split
 ·rw [if_pos (by omega)]; omega
 ·rw [if_neg (by omega)]; omega
theorem varF_val : ∀ {l : List Int} {x : Int} {f : Nat}, (∀ y ∈ l, 128 ≤ y ∧ y ≤ 255) → 0 ≤ x → x < 128 → (l = [] ∨ x ≠ 0) → l.length ≤ f → valZ (l ++ [x]) < 18446744073709551616 → varF (f + 1) (valZ (l ++ [x])) = l ++ [x]
 |[], x, f, _, h1, h2, _, _, _ => by
  have e : valZ ([] ++ [x]) = x := by simp [valZ]; omega
  rw [e, varF_step h1 (by omega), if_neg (by omega)]; rfl
 |y :: l, x, 0, _, _, _, _, hl, _ => by simp at hl
 |y :: l, x, f + 1, hb, h1, h2, h3, hl, h4 => by
  obtain ⟨y1, y2⟩ := hb y List.mem_cons_self
  have hx : x ≠ 0 := h3.elim (fun h => by cases h) id
  rw [List.cons_append, valZ] at h4 ⊢
  have hn := valZ_nonneg (l := l ++ [x])
  have hpos : 0 < valZ (l ++ [x]) := by
   rw [valZ_app, valZ, valZ]
   have h5 := valZ_nonneg (l := l)
   have h6 : (0 : Int) < 128 ^ l.length := Int.pow_pos (by decide)
   have h7 : 0 < 128 ^ l.length * (x % 128 + 128 * 0) := Int.mul_pos h6 (by omega)
   omega
  rw [varF_step (by omega) h4, if_pos (by omega)]
  have e1 : (y % 128 + 128 * valZ (l ++ [x])) % 128 + 128 = y := by omega
  have e2 : (y % 128 + 128 * valZ (l ++ [x])) / 128 = valZ (l ++ [x]) := by omega
  rw [e1, e2, varF_val (fun z hz => hb z (List.mem_cons_of_mem _ hz)) h1 h2 (.inr hx) (by simpa using hl) (by omega)]
theorem getF_canon {b : List Int} {n : Int} {u : Nat} (hb : ∀ x ∈ b, 0 ≤ x ∧ x ≤ 255) (h : getF b = (n, u, 0)) : b.take u = intF n ∧ (-9223372036854775808 ≤ n ∧ n < 9223372036854775808) ∧ 1 ≤ u ∧ u ≤ b.length ∧ u ≤ 10 := by
 unfold getF at h
 split at h
 ·cases h
 split at h
 ·cases h
 split at h
 ·cases h
 rename_i h1 h2 h3
 injection h with e1 h
 injection h with e2 _
 have hle := leadN_le (f := 10) (b := b)
 have hlt : leadN 10 b < b.length := by omega
 have hat := leadN_at hlt (by omega)
 obtain ⟨x0, x1⟩ := hb _ (List.getElem_mem hlt)
 have eg : b.getD (leadN 10 b) 0 = b[leadN 10 b] := (List.getElem_eq_getD (l := b) (i := leadN 10 b) 0 (h := hlt)).symm
 rw [eg] at h3
 have et : b.take (leadN 10 b + 1) = b.take (leadN 10 b) ++ [b[leadN 10 b]] := List.take_succ_eq_append_getElem hlt
 rw [et] at e1
 have hl : (b.take (leadN 10 b)).length = leadN 10 b := by rw [List.length_take]; omega
 have hs : valZ (b.take (leadN 10 b) ++ [b[leadN 10 b]]) < 18446744073709551616 := valZ_small (by omega) (fun h9 => by
  have : ¬(1 < b[leadN 10 b]) := fun h => h3 (.inl ⟨by omega, h⟩)
  omega)
 have hv := varF_val (l := b.take (leadN 10 b)) (x := b[leadN 10 b]) (f := 9) (fun y hy => by
   obtain ⟨i, hi, rfl⟩ := List.mem_iff_getElem.1 hy
   have hi' : i < leadN 10 b := by omega
   rw [List.getElem_take]
   exact ⟨leadN_all _ hi', (hb _ (List.getElem_mem _)).2⟩) x0 (by omega) (by
   rcases Nat.eq_zero_or_pos (leadN 10 b) with h0 | h0
   ·exact .inl (by rw [h0]; rfl)
   ·exact .inr fun h => h3 (.inr ⟨h0, h⟩)) (by omega) hs
 obtain ⟨z1, z2⟩ := zF_unz valZ_nonneg hs
 subst e1 e2
 refine ⟨?_, z2, by omega, by omega, by omega⟩
 rw [et]
 unfold intF
 rw [z1, hv]
set_option maxHeartbeats 4000000
attribute [local irreducible] evL sem onG onI onV
def getV (r : Int × Nat × Int) : Value := .tuple #[.int .i64 r.1, .int .i64 (r.2.1 : Int), .int .i64 r.2.2]
theorem whl_byte {σ : H} {a : Option Addr} {c i : Nat} {b : List Int} (h : Whl σ 1 (.slice a b.length c) b.length (digC b)) (hi : i < b.length) : ∃ k o, a = some ⟨k, o, none⟩ ∧ rd1 σ ⟨k, o + i, none⟩ = some (.int .u8 b[i]) := by
 obtain ⟨k, o, h1, h2⟩ := h.at (by omega)
 exact ⟨k, o, h1, rd1_row h2 (by simp [digC, hi])⟩
theorem getD_eq {b : List Int} {i : Nat} (h : i < b.length) : b.getD i 0 = b[i] := (List.getElem_eq_getD (l := b) (i := i) 0 (h := h)).symm
theorem valZ_drop : ∀ {l : List Int} {k : Nat}, valZ (l.drop k) ≤ valZ l
 |[], k => by simp
 |x :: r, 0 => by simp
 |x :: r, k + 1 => by
  rw [List.drop_succ_cons, valZ]
  have h1 := valZ_drop (l := r) (k := k)
  have h2 := valZ_nonneg (l := r)
  omega
theorem valZ_step {l : List Int} {i : Nat} (h : i < l.length) : valZ (l.drop i) = l[i] % 128 + 128 * valZ (l.drop (i + 1)) := by
 rw [List.drop_eq_getElem_cons h, valZ]
theorem rget_int_app {σ : H} {sl : Value} {b : List Int} (hw : Whl σ 1 sl b.length (digC b)) (hb : Byt b) (hl : b.length < 1000000000000) :
  App Tryd.prog (.func 80) #[] #[sl] σ fun v σ' => σ' = σ ∧ v = getV (getF b) := by
 refine App.of_sem mixed Tryd.func80 t80 k80 r80 (Nat.le_of_ble_eq_true rfl) ?_
 obtain ⟨a, c, rfl⟩ := hw.slice
 unfold s80
 have hK := leadN_le (f := 10) (b := b)
 simp only [↓eD, eZ, ↓reduceIte, Nat.reduceEqDiff, Nat.reduceAdd, Nat.reduceMul, reduceCtorEq, Nat.reduceLeDiff, Int.reduceLT, Int.reduceLE, Int.reduceToNat, Int.reduceEq, Nat.reduceLT]
 refine loop_for (J := fun i e τ => τ = σ ∧ i ≤ leadN 10 b ∧ e = [(0, .slice a b.length c), (5, .int .i64 (i : Int))]) (leadN 10 b) ⟨rfl, by omega, rfl⟩ ?_
 rintro i e τ hi ⟨rfl, _, rfl⟩
 by_cases hlt : i < leadN 10 b
 ·have d1 : decide ((i : Int) < (b.length : Int)) = true := by rw [decide_eq_true]; omega
  have d2 : decide ((i : Int) < 10) = true := by rw [decide_eq_true]; omega
  have hw1 : IntKind.wrap .i64 ((i:Int) + 1) = ((i + 1 : Nat) : Int) := by rw [wrap64' (by omega) (by omega)]; omega
  have bd : (0:Int) ≤ (i:Int) ∧ (i:Int) < (b.length : Int) := by omega
  obtain ⟨k, o, rfl, hr⟩ := whl_byte hw (i := i) (by omega)
  have d3 : decide (128 ≤ b[i]) = true := decide_eq_true (leadN_all _ hlt)
  simp only [↓eD, eZ, ↓reduceIte, Nat.reduceEqDiff, Nat.reduceAdd, Nat.reduceMul, reduceCtorEq, Nat.reduceLeDiff, Int.reduceLT, Int.reduceLE, Int.reduceToNat, Int.reduceEq, Nat.reduceLT, d1, d2, bd, Int.toNat_natCast, hr, d3, hw1, undef_eq]
  omega
 have hik : i = leadN 10 b := by omega
 subst hik
 clear hi
 have hall := fun i (h : i < b.length) (h2 : i < leadN 10 b) => leadN_all (f := 10) (b := b) h h2
 by_cases c10 : leadN 10 b = 10
 ·have hf : getF b = (0, 0, 11) := if_pos c10
  rw [c10] at hK ⊢
  have d4 : decide (((10 : Nat) : Int) < 10) = false := rfl
  have d5 : decide (((10 : Nat) : Int) = 10) = true := rfl
  have hd1 : decide (((10 : Nat) : Int) < (b.length : Int)) = true ∨ decide (((10 : Nat) : Int) < (b.length : Int)) = false := by cases decide (((10 : Nat) : Int) < (b.length : Int)) <;> simp
  rcases hd1 with d1 | d1
  ·simp only [↓eD, eZ, ↓reduceIte, Nat.reduceEqDiff, Nat.reduceAdd, Nat.reduceMul, reduceCtorEq, Nat.reduceLeDiff, Int.reduceLT, Int.reduceLE, Int.reduceToNat, Int.reduceEq, Nat.reduceLT, d1, d4, d5, hf, getV, undef_eq]
   first | rfl | exact ⟨rfl, rfl⟩ | skip
  ·simp only [↓eD, eZ, ↓reduceIte, Nat.reduceEqDiff, Nat.reduceAdd, Nat.reduceMul, reduceCtorEq, Nat.reduceLeDiff, Int.reduceLT, Int.reduceLE, Int.reduceToNat, Int.reduceEq, Nat.reduceLT, d1, d5, hf, getV, undef_eq]
   first | rfl | exact ⟨rfl, rfl⟩ | skip
 have d5 : decide ((leadN 10 b : Int) = 10) = false := by rw [decide_eq_false]; omega
 by_cases cl : leadN 10 b = b.length
 ·have hf : getF b = (0, 0, 10) := by unfold getF; rw [if_neg c10, if_pos cl]
  have d1 : decide ((leadN 10 b : Int) < (b.length : Int)) = false := by rw [decide_eq_false]; omega
  have d6 : decide ((leadN 10 b : Int) = (b.length : Int)) = true := by rw [decide_eq_true]; omega
  simp only [↓eD, eZ, ↓reduceIte, Nat.reduceEqDiff, Nat.reduceAdd, Nat.reduceMul, reduceCtorEq, Nat.reduceLeDiff, Int.reduceLT, Int.reduceLE, Int.reduceToNat, Int.reduceEq, Nat.reduceLT, d1, d5, d6, hf, getV, undef_eq]
  first | rfl | exact ⟨rfl, rfl⟩ | skip
 have hNl : leadN 10 b < b.length := by omega
 have hat := leadN_at hNl (by omega)
 have d1 : decide ((leadN 10 b : Int) < (b.length : Int)) = true := by rw [decide_eq_true]; omega
 have d2 : decide ((leadN 10 b : Int) < 10) = true := by rw [decide_eq_true]; omega
 have d6 : decide ((leadN 10 b : Int) = (b.length : Int)) = false := by rw [decide_eq_false]; omega
 have bd : (0:Int) ≤ (leadN 10 b : Int) ∧ (leadN 10 b : Int) < (b.length : Int) := by omega
 obtain ⟨k, o, hko, hr⟩ := whl_byte hw hNl
 have d3 : decide (128 ≤ b[leadN 10 b]) = false := decide_eq_false hat
 obtain ⟨x0, x1⟩ := hb _ (List.getElem_mem hNl)
 have hgd := getD_eq hNl
 subst hko
 by_cases cbad : (leadN 10 b = 9 ∧ 1 < b[leadN 10 b]) ∨ (0 < leadN 10 b ∧ b[leadN 10 b] = 0)
 ·have hf : getF b = (0, 0, 11) := by unfold getF; rw [if_neg c10, if_neg cl, hgd, if_pos cbad]
  have hcs : (decide ((leadN 10 b : Int) = 9) = true ∧ decide (1 < b[leadN 10 b]) = true) ∨ (decide ((leadN 10 b : Int) = 9) = true ∧ decide (1 < b[leadN 10 b]) = false ∧ decide (0 < (leadN 10 b : Int)) = true ∧ decide (b[leadN 10 b] = 0) = true) ∨ (decide ((leadN 10 b : Int) = 9) = false ∧ decide (0 < (leadN 10 b : Int)) = true ∧ decide (b[leadN 10 b] = 0) = true) := by
   by_cases h9 : leadN 10 b = 9
   ·by_cases h1 : 1 < b[leadN 10 b]
    ·exact .inl ⟨by rw [decide_eq_true]; omega, decide_eq_true h1⟩
    ·have := cbad.elim (fun h => absurd h.2 h1) id
     exact .inr (.inl ⟨by rw [decide_eq_true]; omega, decide_eq_false h1, by rw [decide_eq_true]; omega, decide_eq_true this.2⟩)
   ·have := cbad.elim (fun h => absurd h.1 h9) id
    exact .inr (.inr ⟨by rw [decide_eq_false]; omega, by rw [decide_eq_true]; omega, decide_eq_true this.2⟩)
  rcases hcs with ⟨y1, y2⟩ | ⟨y1, y2, y3, y4⟩ | ⟨y1, y3, y4⟩
  ·simp only [↓eD, eZ, ↓reduceIte, Nat.reduceEqDiff, Nat.reduceAdd, Nat.reduceMul, reduceCtorEq, Nat.reduceLeDiff, Int.reduceLT, Int.reduceLE, Int.reduceToNat, Int.reduceEq, Nat.reduceLT, d1, d2, d3, d5, d6, bd, Int.toNat_natCast, hr, y1, y2, hf, getV, undef_eq]
   first | rfl | exact ⟨rfl, rfl⟩ | skip
  ·simp only [↓eD, eZ, ↓reduceIte, Nat.reduceEqDiff, Nat.reduceAdd, Nat.reduceMul, reduceCtorEq, Nat.reduceLeDiff, Int.reduceLT, Int.reduceLE, Int.reduceToNat, Int.reduceEq, Nat.reduceLT, d1, d2, d3, d5, d6, bd, Int.toNat_natCast, hr, y1, y2, y3, y4, hf, getV, undef_eq]
   first | rfl | exact ⟨rfl, rfl⟩ | skip
  ·simp only [↓eD, eZ, ↓reduceIte, Nat.reduceEqDiff, Nat.reduceAdd, Nat.reduceMul, reduceCtorEq, Nat.reduceLeDiff, Int.reduceLT, Int.reduceLE, Int.reduceToNat, Int.reduceEq, Nat.reduceLT, d1, d2, d3, d5, d6, bd, Int.toNat_natCast, hr, y1, y3, y4, hf, getV, undef_eq]
   first | rfl | exact ⟨rfl, rfl⟩ | skip
 have hf : getF b = (unz (valZ (b.take (leadN 10 b + 1))), leadN 10 b + 1, 0) := by unfold getF; rw [if_neg c10, if_neg cl, hgd, if_neg cbad]
 have hZ : valZ (b.take (leadN 10 b + 1)) < 18446744073709551616 := by
  rw [List.take_succ_eq_append_getElem hNl]
  refine valZ_small (by rw [List.length_take]; omega) fun h9 => ?_
  rw [List.length_take] at h9
  have : ¬1 < b[leadN 10 b] := fun h => cbad (.inl ⟨by omega, h⟩)
  omega
 have hcs : ((decide ((leadN 10 b : Int) = 9) = true ∧ decide (1 < b[leadN 10 b]) = false) ∨ decide ((leadN 10 b : Int) = 9) = false) ∧ ((decide (0 < (leadN 10 b : Int)) = true ∧ decide (b[leadN 10 b] = 0) = false) ∨ decide (0 < (leadN 10 b : Int)) = false) := by
  refine ⟨?_, ?_⟩
  ·by_cases h9 : leadN 10 b = 9
   ·exact .inl ⟨by rw [decide_eq_true]; omega, decide_eq_false fun h => cbad (.inl ⟨h9, h⟩)⟩
   ·exact .inr (by rw [decide_eq_false]; omega)
  ·by_cases h0 : 0 < leadN 10 b
   ·exact .inl ⟨by rw [decide_eq_true]; omega, decide_eq_false fun h => cbad (.inr ⟨h0, h⟩)⟩
   ·exact .inr (by rw [decide_eq_false]; omega)
 generalize hN : leadN 10 b = N at *
 have hT : (b.take (N + 1)).length = N + 1 := by rw [List.length_take]; omega
 obtain ⟨h1, h2⟩ := hcs
 rcases h1 with ⟨y1, y2⟩ | y1 <;> rcases h2 with ⟨y3, y4⟩ | y3
 case' inl.inl => simp only [↓eD, eZ, ↓reduceIte, Nat.reduceEqDiff, Nat.reduceAdd, Nat.reduceMul, reduceCtorEq, Nat.reduceLeDiff, Int.reduceLT, Int.reduceLE, Int.reduceToNat, Int.reduceEq, Nat.reduceLT, d1, d2, d3, d5, d6, bd, Int.toNat_natCast, hr, y1, y2, y3, y4, undef_eq]
 case' inl.inr => simp only [↓eD, eZ, ↓reduceIte, Nat.reduceEqDiff, Nat.reduceAdd, Nat.reduceMul, reduceCtorEq, Nat.reduceLeDiff, Int.reduceLT, Int.reduceLE, Int.reduceToNat, Int.reduceEq, Nat.reduceLT, d1, d2, d3, d5, d6, bd, Int.toNat_natCast, hr, y1, y2, y3, undef_eq]
 case' inr.inl => simp only [↓eD, eZ, ↓reduceIte, Nat.reduceEqDiff, Nat.reduceAdd, Nat.reduceMul, reduceCtorEq, Nat.reduceLeDiff, Int.reduceLT, Int.reduceLE, Int.reduceToNat, Int.reduceEq, Nat.reduceLT, d1, d2, d3, d5, d6, bd, Int.toNat_natCast, hr, y1, y3, y4, undef_eq]
 case' inr.inr => simp only [↓eD, eZ, ↓reduceIte, Nat.reduceEqDiff, Nat.reduceAdd, Nat.reduceMul, reduceCtorEq, Nat.reduceLeDiff, Int.reduceLT, Int.reduceLE, Int.reduceToNat, Int.reduceEq, Nat.reduceLT, d1, d2, d3, d5, d6, bd, Int.toNat_natCast, hr, y1, y3, undef_eq]
 all_goals
  refine loop_for (J := fun i e θ => θ = τ ∧ i ≤ N + 1 ∧ e = [(0, .slice (some ⟨k, o, none⟩) b.length c), (5, .int .i64 (N : Int)), (6, .int .u64 (valZ ((b.take (N + 1)).drop (N + 1 - i)))), (7, .int .i64 ((N : Int) - (i : Int)))]) (N + 1) ⟨rfl, by omega, by rw [Nat.sub_zero, List.drop_of_length_le (by omega)]; simp [valZ]⟩ ?_
  rintro i e θ hi ⟨rfl, _, rfl⟩
  by_cases hlt : i < N + 1
  ·have e1 : decide (0 ≤ (N : Int) - (i : Int)) = true := by rw [decide_eq_true]; omega
   have bd2 : (0:Int) ≤ (N : Int) - (i : Int) ∧ (N : Int) - (i : Int) < (b.length : Int) := by omega
   have hn : ((N : Int) - (i : Int)).toNat = N - i := by omega
   obtain ⟨k', o', hko, hr2⟩ := whl_byte hw (i := N - i) (by omega)
   injection hko with hko
   injection hko with hk1 hk2
   subst hk1 hk2
   obtain ⟨u0, u1⟩ := hb _ (List.getElem_mem (show N - i < b.length by omega))
   have hst := valZ_step (l := b.take (N + 1)) (i := N - i) (by omega)
   rw [List.getElem_take, show N - i + 1 = N + 1 - i by omega] at hst
   have hle := valZ_drop (l := b.take (N + 1)) (k := N - i)
   have hnn := valZ_nonneg (l := (b.take (N + 1)).drop (N + 1 - i))
   have hw2 : IntKind.wrap .i64 ((N : Int) - (i : Int) - 1) = (N : Int) - ((i + 1 : Nat) : Int) := by rw [wrap64' (by omega) (by omega)]; omega
   have ht : b[N - i].tmod 128 = b[N - i] % 128 := Int.tmod_eq_emod_of_nonneg u0
   have hz : IntKind.wrap .u64 (IntKind.wrap .u64 (valZ ((b.take (N + 1)).drop (N + 1 - i)) * 128) + IntKind.wrap .u64 (b[N - i].tmod 128)) = valZ ((b.take (N + 1)).drop (N + 1 - (i + 1))) := by
    rw [ht, wrap_u64 (n := b[N - i] % 128) (by omega) (by omega), wrap_u64 (n := _ * 128) (by omega) (by omega), wrap_u64 (by omega) (by omega), show N + 1 - (i + 1) = N - i by omega, hst]
    omega
   simp only [↓eD, eZ, ↓reduceIte, Nat.reduceEqDiff, Nat.reduceAdd, Nat.reduceMul, reduceCtorEq, Nat.reduceLeDiff, Int.reduceLT, Int.reduceLE, Int.reduceToNat, Int.reduceEq, Nat.reduceLT, e1, bd2, hn, hr2, hw2, hz, undef_eq]
   first | exact ⟨hlt, rfl, by omega, rfl⟩ | exact ⟨hlt, by omega⟩ | omega
  have hi2 : i = N + 1 := by omega
  subst hi2
  have e1 : decide (0 ≤ (N : Int) - ((N + 1 : Nat) : Int)) = false := by rw [decide_eq_false]; omega
  have e0 : N + 1 - (N + 1) = 0 := by omega
  obtain ⟨Z, hZZ⟩ : ∃ Z, Z = valZ (b.take (N + 1)) := ⟨_, rfl⟩
  have hnn := valZ_nonneg (l := b.take (N + 1))
  rw [← hZZ] at hnn hZ hf
  have hw3 : IntKind.wrap .i64 ((N : Int) + 1) = ((N + 1 : Nat) : Int) := by rw [wrap64' (by omega) (by omega)]; omega
  have t2 : Z.tmod 2 = Z % 2 := Int.tmod_eq_emod_of_nonneg hnn
  have t3 : Z.tdiv 2 = Z / 2 := Int.tdiv_eq_ediv_of_nonneg hnn
  have w3 : IntKind.wrap .u64 (Z / 2) = Z / 2 := wrap_u64 (by omega) (by omega)
  have w4 : IntKind.wrap .i64 (Z / 2) = Z / 2 := wrap64 (by omega) (by omega)
  have w5 : IntKind.wrap .i64 (-1 - Z / 2) = -1 - Z / 2 := wrap64 (by omega) (by omega)
  rw [e0, List.drop_zero, ← hZZ]
  by_cases hodd : Z % 2 = 1
  ·have d7 : decide (Z % 2 = 1) = true := decide_eq_true hodd
   have hu : unz Z = -1 - Z / 2 := if_pos hodd
   simp only [↓eD, eZ, ↓reduceIte, Nat.reduceEqDiff, Nat.reduceAdd, Nat.reduceMul, reduceCtorEq, Nat.reduceLeDiff, Int.reduceLT, Int.reduceLE, Int.reduceToNat, Int.reduceEq, Nat.reduceLT, e1, t2, t3, d7, w3, w4, w5, hw3, hf, hu, getV, undef_eq]
   first | rfl | exact ⟨rfl, rfl⟩ | skip
  ·have d7 : decide (Z % 2 = 1) = false := decide_eq_false hodd
   have hu : unz Z = Z / 2 := if_neg hodd
   simp only [↓eD, eZ, ↓reduceIte, Nat.reduceEqDiff, Nat.reduceAdd, Nat.reduceMul, reduceCtorEq, Nat.reduceLeDiff, Int.reduceLT, Int.reduceLE, Int.reduceToNat, Int.reduceEq, Nat.reduceLT, e1, t2, t3, d7, w3, w4, hw3, hf, hu, getV, undef_eq]
   first | rfl | exact ⟨rfl, rfl⟩ | skip
theorem or_step {z x : Int} {i : Nat} (hz0 : 0 ≤ z) (hz : z < 128 ^ i) (hx0 : 0 ≤ x) (hx : x ≤ 255) (hi : i ≤ 9) (h9 : i = 9 → x ≤ 1) :
  IntKind.wrap .u64 ((BitVec.ofInt (IntKind.bits .u64) z ||| BitVec.ofInt (IntKind.bits .u64) (IntKind.wrap .u64 (IntKind.wrap .u64 (IntKind.wrap .u8 ((BitVec.ofInt (IntKind.bits .u8) x &&& BitVec.ofInt (IntKind.bits .u8) 127).toNat : Int)) * 2 ^ min (7 * i) (IntKind.bits .u64)))).toNat : Int) = z + 128 ^ i * (x % 128) := by
 obtain ⟨Z, rfl⟩ : ∃ Z : Nat, z = (Z : Int) := ⟨z.toNat, by omega⟩
 obtain ⟨X, rfl⟩ : ∃ X : Nat, x = (X : Int) := ⟨x.toNat, by omega⟩
 have hp : (2 : Nat) ^ (7 * i) = 128 ^ i := by rw [Nat.pow_mul]
 have hZ : Z < 128 ^ i := by
  have : ((128 ^ i : Nat) : Int) = (128 : Int) ^ i := by simp
  rw [← this] at hz
  omega
 have hb : ∀ k : Nat, k < 10 → (128 : Nat) ^ k ≤ 9223372036854775808 := by decide
 have hb8 : ∀ k : Nat, k < 9 → (128 : Nat) ^ k ≤ 72057594037927936 := by decide
 have hA : X % 128 * 128 ^ i < 18446744073709551616 := by
  rcases Nat.lt_or_ge i 9 with h | h
  ·have h1 := hb8 i h
   have h2 : X % 128 * 128 ^ i ≤ 127 * 72057594037927936 := Nat.mul_le_mul (by omega) h1
   omega
  ·have h1 := hb i (by omega)
   have hX := h9 (by omega)
   have h2 : X % 128 * 128 ^ i ≤ 1 * 9223372036854775808 := Nat.mul_le_mul (by omega) h1
   omega
 have hand : X &&& 127 = X % 128 := Nat.and_two_pow_sub_one_eq_mod X 7
 have e127 : (127 : Int) = ((127 : Nat) : Int) := rfl
 rw [e127, and_u8 (by omega) (by decide), hand, wrap_u64 (n := ((X % 128 : Nat) : Int)) (by omega) (by omega), shl_u64 (by omega) (by rw [hp]; exact hA)]
 have hZ2 : Z < 2 ^ (7 * i) := by rw [hp]; exact hZ
 have hbi := hb i (by omega)
 rw [or_u64 (by omega) (by rw [Nat.shiftLeft_eq, hp]; exact hA), Nat.or_comm, ← Nat.shiftLeft_add_eq_or_of_lt hZ2, Nat.shiftLeft_eq, hp]
 rw [Int.natCast_add, Int.natCast_mul, Int.natCast_pow]
 have : ((X % 128 : Nat) : Int) = (X : Int) % 128 := by omega
 rw [this, Int.mul_comm, Int.add_comm]
 rfl
theorem unz_xor {z : Int} (h0 : 0 ≤ z) (h1 : z < 18446744073709551616) :
  IntKind.wrap .i64 ((BitVec.ofInt (IntKind.bits .i64) (IntKind.wrap .i64 (z.fdiv (2 ^ min 1 (IntKind.bits .u64)))) ^^^ BitVec.ofInt (IntKind.bits .i64) (IntKind.wrap .i64 (0 - (IntKind.wrap .i64 (IntKind.wrap .u64 ((BitVec.ofInt (IntKind.bits .u64) z &&& BitVec.ofInt (IntKind.bits .u64) 1).toNat : Int)))))).toNat : Int) = unz z := by
 obtain ⟨Z, rfl⟩ : ∃ Z : Nat, z = (Z : Int) := ⟨z.toNat, by omega⟩
 have hsh : (Z : Int).fdiv (2 ^ min 1 (IntKind.bits .u64)) = ((Z / 2 : Nat) : Int) := by
  rw [shr_nat (n := 1) (by decide), Nat.shiftRight_eq_div_pow]
 have hand : Z &&& 1 = Z % 2 := Nat.and_two_pow_sub_one_eq_mod Z 1
 have e1 : (1 : Int) = ((1 : Nat) : Int) := rfl
 rw [hsh, wrap64 (n := ((Z / 2 : Nat) : Int)) (by omega) (by omega)]
 conv => lhs; rw [e1]
 rw [Int.zero_sub, and_u64 (by omega) (by decide), hand, wrap64 (n := ((Z % 2 : Nat) : Int)) (by omega) (by omega), wrap64 (n := -((Z % 2 : Nat) : Int)) (by omega) (by omega)]
 show IntKind.wrap .i64 ((BitVec.ofInt 64 ((Z / 2 : Nat) : Int) ^^^ BitVec.ofInt 64 (-((Z % 2 : Nat) : Int))).toNat : Int) = _
 unfold unz
 by_cases hodd : Z % 2 = 1
 ·rw [if_pos (by omega), hodd]
  have hm : BitVec.ofInt 64 (-((1 : Nat) : Int)) = BitVec.allOnes 64 := by decide
  rw [hm, BitVec.xor_allOnes, BitVec.toNat_not, BitVec.ofInt_natCast, BitVec.toNat_ofNat, Nat.mod_eq_of_lt (by omega)]
  have : (2 ^ 64 - 1 - Z / 2 : Nat) = 18446744073709551615 - Z / 2 := by omega
  rw [this]
  simp only [IntKind.wrap, IntKind.signed, IntKind.bits]
  simp
  omega
 ·have h0 : Z % 2 = 0 := by omega
  rw [if_neg (by omega), h0]
  have hm : BitVec.ofInt 64 (-((0 : Nat) : Int)) = 0#64 := by decide
  rw [hm, BitVec.xor_zero, BitVec.ofInt_natCast, BitVec.toNat_ofNat, Nat.mod_eq_of_lt (by omega), wrap64 (by omega) (by omega)]
  omega
theorem wget_int_app {σ : H} {sl : Value} {b : List Int} (hw : Whl σ 1 sl b.length (digC b)) (hb : Byt b) (hl : b.length < 1000000000000) :
  App Tryd.prog (.func 75) #[] #[sl] σ fun v σ' => σ' = σ ∧ v = getV (getF b) := by
 refine App.of_sem mixed Tryd.func75 t75 k75 r75 (Nat.le_of_ble_eq_true rfl) ?_
 obtain ⟨a, c, rfl⟩ := hw.slice
 unfold s75
 have hK := leadN_le (f := 10) (b := b)
 simp only [↓eD, eZ, ↓reduceIte, Nat.reduceEqDiff, Nat.reduceAdd, Nat.reduceMul, reduceCtorEq, Nat.reduceLeDiff, Int.reduceLT, Int.reduceLE, Int.reduceToNat, Int.reduceEq, Nat.reduceLT]
 refine loop_for (J := fun i e τ => τ = σ ∧ i ≤ leadN 10 b ∧ i < 10 ∧ e = [(5, .int .u64 (valZ (b.take i))), (6, .int .i64 0), (9, .slice a b.length c), (10, .int .i64 (b.length : Int)), (11, .int .i64 (i : Int))]) 10 ⟨rfl, by omega, by omega, rfl⟩ ?_
 rintro i e τ hi ⟨rfl, hiN, hi10, rfl⟩
 by_cases hlt : i < b.length
 ·have d1 : decide ((i : Int) < (b.length : Int)) = true := by rw [decide_eq_true]; omega
  have bd : (0:Int) ≤ (i:Int) ∧ (i:Int) < (b.length : Int) := by omega
  obtain ⟨k, o, rfl, hr⟩ := whl_byte hw hlt
  obtain ⟨x0, x1⟩ := hb _ (List.getElem_mem hlt)
  have hw1 : IntKind.wrap .i64 ((i:Int) + 1) = ((i + 1 : Nat) : Int) := by rw [wrap64' (by omega) (by omega)]; omega
  have hw7 : IntKind.wrap .i64 (7 * (i:Int)) = ((7 * i : Nat) : Int) := by rw [wrap64' (by omega) (by omega)]; omega
  have h7 : (((7 * i : Nat) : Int) < 0) = False := eq_false (by omega)
  have hN1 : 128 ≤ b[i] → i + 1 ≤ leadN 10 b := fun hx => by
   rcases Nat.lt_or_ge i (leadN 10 b) with h | h
   ·exact h
   ·have e : leadN 10 b = i := by omega
    have := leadN_at (f := 10) (b := b) (by omega) (by omega)
    simp only [e] at this
    exact absurd hx this
  have hN2 : ¬128 ≤ b[i] → leadN 10 b = i := fun hx => by
   rcases Nat.lt_or_ge i (leadN 10 b) with h | h
   ·exact absurd (leadN_all hlt h) hx
   ·omega
  by_cases cbad : (i = 9 ∧ 1 < b[i]) ∨ (0 < i ∧ b[i] = 0)
  ·have hf : getF b = (0, 0, 11) := by
    by_cases hx : 128 ≤ b[i]
    ·have := hN1 hx
     have h10 : leadN 10 b = 10 := by
      rcases cbad with ⟨h, _⟩ | ⟨_, h⟩ <;> omega
     exact if_pos h10
    ·have e := hN2 hx
     unfold getF
     rw [e, if_neg (by omega), if_neg (by omega), getD_eq hlt, if_pos cbad]
   have hcs : (decide ((i : Int) = 9) = true ∧ decide (1 < b[i]) = true) ∨ (decide ((i : Int) = 9) = true ∧ decide (1 < b[i]) = false ∧ decide (0 < (i : Int)) = true ∧ decide (b[i] = 0) = true) ∨ (decide ((i : Int) = 9) = false ∧ decide (0 < (i : Int)) = true ∧ decide (b[i] = 0) = true) := by
    by_cases h9 : i = 9
    ·by_cases h1 : 1 < b[i]
     ·exact .inl ⟨by rw [decide_eq_true]; omega, decide_eq_true h1⟩
     ·have := cbad.elim (fun h => absurd h.2 h1) id
      exact .inr (.inl ⟨by rw [decide_eq_true]; omega, decide_eq_false h1, by rw [decide_eq_true]; omega, decide_eq_true this.2⟩)
    ·have := cbad.elim (fun h => absurd h.1 h9) id
     exact .inr (.inr ⟨by rw [decide_eq_false]; omega, by rw [decide_eq_true]; omega, decide_eq_true this.2⟩)
   rcases hcs with ⟨y1, y2⟩ | ⟨y1, y2, y3, y4⟩ | ⟨y1, y3, y4⟩
   ·simp only [↓eD, eZ, ↓reduceIte, Nat.reduceEqDiff, Nat.reduceAdd, Nat.reduceMul, reduceCtorEq, Nat.reduceLeDiff, Int.reduceLT, Int.reduceLE, Int.reduceToNat, Int.reduceEq, Nat.reduceLT, d1, bd, Int.toNat_natCast, hr, y1, y2, hf, getV, undef_eq]
    first | rfl | exact ⟨rfl, rfl⟩ | skip
   ·simp only [↓eD, eZ, ↓reduceIte, Nat.reduceEqDiff, Nat.reduceAdd, Nat.reduceMul, reduceCtorEq, Nat.reduceLeDiff, Int.reduceLT, Int.reduceLE, Int.reduceToNat, Int.reduceEq, Nat.reduceLT, d1, bd, Int.toNat_natCast, hr, y1, y2, y3, y4, hf, getV, undef_eq]
    first | rfl | exact ⟨rfl, rfl⟩ | skip
   ·simp only [↓eD, eZ, ↓reduceIte, Nat.reduceEqDiff, Nat.reduceAdd, Nat.reduceMul, reduceCtorEq, Nat.reduceLeDiff, Int.reduceLT, Int.reduceLE, Int.reduceToNat, Int.reduceEq, Nat.reduceLT, d1, bd, Int.toNat_natCast, hr, y1, y3, y4, hf, getV, undef_eq]
    first | rfl | exact ⟨rfl, rfl⟩ | skip
  have hcs : ((decide ((i : Int) = 9) = true ∧ decide (1 < b[i]) = false) ∨ decide ((i : Int) = 9) = false) ∧ ((decide (0 < (i : Int)) = true ∧ decide (b[i] = 0) = false) ∨ decide (0 < (i : Int)) = false) := by
   refine ⟨?_, ?_⟩
   ·by_cases h9 : i = 9
    ·exact .inl ⟨by rw [decide_eq_true]; omega, decide_eq_false fun h => cbad (.inl ⟨h9, h⟩)⟩
    ·exact .inr (by rw [decide_eq_false]; omega)
   ·by_cases h0 : 0 < i
    ·exact .inl ⟨by rw [decide_eq_true]; omega, decide_eq_false fun h => cbad (.inr ⟨h0, h⟩)⟩
    ·exact .inr (by rw [decide_eq_false]; omega)
  have hst : valZ (b.take (i + 1)) = valZ (b.take i) + 128 ^ i * (b[i] % 128) := by
   rw [List.take_succ_eq_append_getElem hlt, valZ_app, List.length_take, Nat.min_eq_left (by omega)]
   simp [valZ]
  obtain ⟨h1, h2⟩ := hcs
  have hzl : valZ (b.take i) < 128 ^ i := by have := valZ_lt (l := b.take i); rwa [List.length_take, Nat.min_eq_left (by omega)] at this
  have hor := or_step (z := valZ (b.take i)) (x := b[i]) valZ_nonneg hzl x0 x1 (by omega) (fun h => by
   have : ¬(i = 9 ∧ 1 < b[i]) := fun h2 => cbad (.inl h2)
   omega)
  rw [← hst] at hor
  by_cases hx : 128 ≤ b[i]
  ·have d8 : decide (b[i] < 128) = false := by rw [decide_eq_false]; omega
   have hN := hN1 hx
   have hi9 : i + 1 < 10 := by
    have : ¬(i = 9 ∧ 1 < b[i]) := fun h => cbad (.inl h)
    omega
   rcases h1 with ⟨y1, y2⟩ | y1 <;> rcases h2 with ⟨y3, y4⟩ | y3
   case' inl.inl => simp only [↓eD, eZ, ↓reduceIte, Nat.reduceEqDiff, Nat.reduceAdd, Nat.reduceMul, reduceCtorEq, Nat.reduceLeDiff, Int.reduceLT, Int.reduceLE, Int.reduceToNat, Int.reduceEq, Nat.reduceLT, d1, bd, Int.toNat_natCast, hr, y1, y2, y3, y4, hw1, hw7, h7, hor, d8, undef_eq]
   case' inl.inr => simp only [↓eD, eZ, ↓reduceIte, Nat.reduceEqDiff, Nat.reduceAdd, Nat.reduceMul, reduceCtorEq, Nat.reduceLeDiff, Int.reduceLT, Int.reduceLE, Int.reduceToNat, Int.reduceEq, Nat.reduceLT, d1, bd, Int.toNat_natCast, hr, y1, y2, y3, hw1, hw7, h7, hor, d8, undef_eq]
   case' inr.inl => simp only [↓eD, eZ, ↓reduceIte, Nat.reduceEqDiff, Nat.reduceAdd, Nat.reduceMul, reduceCtorEq, Nat.reduceLeDiff, Int.reduceLT, Int.reduceLE, Int.reduceToNat, Int.reduceEq, Nat.reduceLT, d1, bd, Int.toNat_natCast, hr, y1, y3, y4, hw1, hw7, h7, hor, d8, undef_eq]
   case' inr.inr => simp only [↓eD, eZ, ↓reduceIte, Nat.reduceEqDiff, Nat.reduceAdd, Nat.reduceMul, reduceCtorEq, Nat.reduceLeDiff, Int.reduceLT, Int.reduceLE, Int.reduceToNat, Int.reduceEq, Nat.reduceLT, d1, bd, Int.toNat_natCast, hr, y1, y3, hw1, hw7, h7, hor, d8, undef_eq]
   all_goals first | exact ⟨hi10, hN, hi9⟩ | exact ⟨hi10, hN, hi9, rfl⟩
  ·have d8 : decide (b[i] < 128) = true := by rw [decide_eq_true]; omega
   have e := hN2 hx
   have hZ : valZ (b.take (i + 1)) < 18446744073709551616 := by
    rw [List.take_succ_eq_append_getElem hlt]
    refine valZ_small (by rw [List.length_take]; omega) fun h9 => ?_
    rw [List.length_take] at h9
    have : ¬1 < b[i] := fun h => cbad (.inl ⟨by omega, h⟩)
    omega
   have hf : getF b = (unz (valZ (b.take (i + 1))), i + 1, 0) := by unfold getF; rw [e, if_neg (by omega), if_neg (by omega), getD_eq hlt, if_neg cbad]
   have hux := unz_xor valZ_nonneg hZ
   have d9 : decide (((i + 1 : Nat) : Int) = 0) = false := by rw [decide_eq_false]; omega
   rcases h1 with ⟨y1, y2⟩ | y1 <;> rcases h2 with ⟨y3, y4⟩ | y3
   case' inl.inl => simp only [↓eD, eZ, ↓reduceIte, Nat.reduceEqDiff, Nat.reduceAdd, Nat.reduceMul, reduceCtorEq, Nat.reduceLeDiff, Int.reduceLT, Int.reduceLE, Int.reduceToNat, Int.reduceEq, Nat.reduceLT, d1, bd, Int.toNat_natCast, Int.toNat_one, hr, y1, y2, y3, y4, hw1, hw7, h7, hor, d8, d9, hux, hf, getV, undef_eq]
   case' inl.inr => simp only [↓eD, eZ, ↓reduceIte, Nat.reduceEqDiff, Nat.reduceAdd, Nat.reduceMul, reduceCtorEq, Nat.reduceLeDiff, Int.reduceLT, Int.reduceLE, Int.reduceToNat, Int.reduceEq, Nat.reduceLT, d1, bd, Int.toNat_natCast, Int.toNat_one, hr, y1, y2, y3, hw1, hw7, h7, hor, d8, d9, hux, hf, getV, undef_eq]
   case' inr.inl => simp only [↓eD, eZ, ↓reduceIte, Nat.reduceEqDiff, Nat.reduceAdd, Nat.reduceMul, reduceCtorEq, Nat.reduceLeDiff, Int.reduceLT, Int.reduceLE, Int.reduceToNat, Int.reduceEq, Nat.reduceLT, d1, bd, Int.toNat_natCast, Int.toNat_one, hr, y1, y3, y4, hw1, hw7, h7, hor, d8, d9, hux, hf, getV, undef_eq]
   case' inr.inr => simp only [↓eD, eZ, ↓reduceIte, Nat.reduceEqDiff, Nat.reduceAdd, Nat.reduceMul, reduceCtorEq, Nat.reduceLeDiff, Int.reduceLT, Int.reduceLE, Int.reduceToNat, Int.reduceEq, Nat.reduceLT, d1, bd, Int.toNat_natCast, Int.toNat_one, hr, y1, y3, hw1, hw7, h7, hor, d8, d9, hux, hf, getV, undef_eq]
   all_goals first | rfl | exact ⟨rfl, rfl⟩ | skip
 ·have e : leadN 10 b = b.length := by omega
  have hf : getF b = (0, 0, 10) := by unfold getF; rw [if_neg (by omega), if_pos e]
  have d1 : decide ((i : Int) < (b.length : Int)) = false := by rw [decide_eq_false]; omega
  simp only [↓eD, eZ, ↓reduceIte, Nat.reduceEqDiff, Nat.reduceAdd, Nat.reduceMul, reduceCtorEq, Nat.reduceLeDiff, Int.reduceLT, Int.reduceLE, Int.reduceToNat, Int.reduceEq, Nat.reduceLT, d1, hf, getV, undef_eq]
  first | rfl | exact ⟨rfl, rfl⟩ | skip
theorem getF_used {b : List Int} : (getF b).2.1 ≤ b.length ∧ (getF b).2.1 ≤ 10 := by
 have h := leadN_le (f := 10) (b := b)
 unfold getF
 split
 ·simp
 ·split
  ·simp
  ·split
   ·simp
   ·dsimp only; omega
def lenF (m : Nat) (b : List Int) : Int × Nat × Int :=
 if (getF b).2.2 ≠ 0 then (0, 0, (getF b).2.2)
 else if (getF b).1 < 0 then (0, 0, 11)
 else if ((b.length : Int) - (getF b).2.1) / (m : Int) < (getF b).1 then (0, 0, 10)
 else ((getF b).1, (getF b).2.1, 0)
theorem lenF_ok {m : Nat} {b : List Int} (hm : 1 ≤ m) (h : (lenF m b).2.2 = 0) : 0 ≤ (lenF m b).1 ∧ (lenF m b).1 * m + (lenF m b).2.1 ≤ b.length ∧ (getF b) = (lenF m b) := by
 have hu := getF_used (b := b)
 unfold lenF at h ⊢
 split at h
 ·exact absurd h ‹_›
 split at h
 ·cases h
 split at h
 ·cases h
 rename_i h1 h2 h3
 rw [if_neg h1, if_neg h2, if_neg h3]
 have h1' : (getF b).2.2 = 0 := Decidable.byContradiction h1
 refine ⟨by dsimp only; omega, ?_, ?_⟩
 ·dsimp only
  have h4 : (getF b).1 ≤ ((b.length : Int) - (getF b).2.1) / (m : Int) := by omega
  have h5 := (Int.le_ediv_iff_mul_le (by omega : (0:Int) < m)).1 h4
  omega
 ·rw [← h1']
def bytF (b : List Int) : ByteArray × Nat × Int :=
 if (lenF 1 b).2.2 ≠ 0 then (⟨#[]⟩, 0, (lenF 1 b).2.2)
 else (bytesS ((b.drop (lenF 1 b).2.1).take (lenF 1 b).1.toNat), (lenF 1 b).2.1 + (lenF 1 b).1.toNat, 0)
theorem bytF_used {b : List Int} : (bytF b).2.1 ≤ b.length := by
 unfold bytF
 split
 ·simp
 ·rename_i h
  have := lenF_ok (m := 1) (Nat.le_refl 1) (Decidable.byContradiction h)
  dsimp only
  omega
def strV (r : ByteArray × Nat × Int) : Value := .tuple #[.string r.1, .int .i64 (r.2.1 : Int), .int .i64 r.2.2]
theorem whl_rd {σ : H} {s n c : Nat} {a : Addr} {cs : List Value} (h : Whl σ s (.slice (some a) n c) n cs) : rdN σ a (n * s) = some cs := by
 obtain ⟨h0, ⟨rfl, a', c', h1, _⟩ | ⟨b, o, cap, h1, _, h2⟩⟩ := h
 ·have : cs = [] := by simpa using h0
  subst this
  rw [Nat.zero_mul, rdN_eq, if_pos rfl]
 ·injection h1 with h1; injection h1 with h1; rw [h1]; exact h2
theorem whl_none {σ : H} {s n c : Nat} {cs : List Value} (h : Whl σ s (.slice none n c) n cs) : n = 0 ∧ cs = [] := by
 obtain ⟨h0, ⟨rfl, a', c', h1, _⟩ | ⟨b, o, cap, h1, _, h2⟩⟩ := h
 ·exact ⟨rfl, by simpa using h0⟩
 ·cases h1
theorem whl_suf {σ : H} {s n lo : Nat} {v : Value} {cs : List Value} (h : Whl σ s v n cs) (h1 : lo ≤ n) :
  ∃ v', sliceV s v (some (.int .i64 (lo : Int))) none none = some v' ∧ Whl σ s v' (n - lo) (cs.drop (lo * s)) ∧ ∀ c, baseOf v' = some c → baseOf v = some c := by
 have hbnd : ∀ h, lo ≤ h → bnd (some (.int .i64 (lo : Int))) 0 h = some lo := fun h hh => by
  simp only [bnd, asI]; rw [if_pos (by omega)]; simp
 obtain ⟨h0, ⟨rfl, a, c, rfl, hz⟩ | ⟨b, o, cap, rfl, ⟨hc1, hc2⟩, hr⟩⟩ := h
 ·have : lo = 0 := by omega
  subst this
  have : cs = [] := by simpa using h0
  subst this
  refine ⟨.slice (a.map fun a => ⟨a.block, a.off + 0 * s, none⟩) 0 c, ?_, ⟨by simp, .inl ⟨rfl, a.map fun a => ⟨a.block, a.off + 0 * s, none⟩, c, rfl, hz⟩⟩, fun q hq => by cases a with | none => cases hq | some a => exact hq⟩
  unfold sliceV
  simp only
  rw [if_pos hz, bnds_eq (hbnd 0 (Nat.le_refl 0)) (h := 0) rfl]
  simp
 ·have e1 : bnd none n (capLow cap) = some n := rfl
  refine ⟨.slice (some ⟨b, o + lo * s, none⟩) (n - lo) (cap - lo), ?_, ⟨?_, .inr ⟨b, o + lo * s, cap - lo, rfl, ?_, ?_⟩⟩, fun q hq => hq⟩
  ·unfold sliceV
   simp only
   rw [if_pos hc2, bnds_eq (hbnd n h1) e1]
   rfl
  ·rw [List.length_drop, h0, Nat.sub_mul]
  ·obtain ⟨g1, g2⟩ := cap_sub (c := cap) (l := lo) (by omega)
   rw [g1, g2]
   exact ⟨by omega, hc2⟩
  ·have := rdN_sub hr (a := lo * s) (m := (n - lo) * s) (by rw [← Nat.add_mul]; exact Nat.mul_le_mul_right _ (by omega))
   rw [List.take_of_length_le (by rw [List.length_drop, h0, Nat.sub_mul]; exact Nat.le_refl _)] at this
   exact this
theorem digC_sub {b : List Int} {lo n : Nat} : ((digC b).drop lo).take n = digC ((b.drop lo).take n) := by rw [digC, digC, ← List.map_drop, ← List.map_take]
theorem digC_drop {b : List Int} {lo : Nat} : (digC b).drop lo = digC (b.drop lo) := by rw [digC, digC, ← List.map_drop]
theorem wlen_app {σ : H} {sl : Value} {b : List Int} {m : Nat} (hw : Whl σ 1 sl b.length (digC b)) (hb : Byt b) (hl : b.length < 1000000000000) (hm : 1 ≤ m) (hm2 : m < 1000) :
  App Tryd.prog (.func 91) #[] #[sl, .int .i64 (m : Int)] σ fun v σ' => σ' = σ ∧ v = getV (lenF m b) := by
 refine App.of_sem mixed Tryd.func91 t91 k91 r91 (Nat.le_of_ble_eq_true rfl) ?_
 obtain ⟨a, c, rfl⟩ := hw.slice
 unfold s91
 have hu := getF_used (b := b)
 have ht : ((b.length : Int) - (getF b).2.1).tdiv (m : Int) = ((b.length : Int) - (getF b).2.1) / (m : Int) := Int.tdiv_eq_ediv_of_nonneg (by omega)
 have hd0 : 0 ≤ ((b.length : Int) - (getF b).2.1) / (m : Int) := Int.ediv_nonneg (by omega) (by omega)
 have hd1 : ((b.length : Int) - (getF b).2.1) / (m : Int) ≤ (b.length : Int) - (getF b).2.1 := Int.ediv_le_self _ (by omega)
 have hw1 : IntKind.wrap .i64 ((b.length : Int) - (getF b).2.1) = (b.length : Int) - (getF b).2.1 := wrap64' (by omega) (by omega)
 have hw2 : IntKind.wrap .i64 (((b.length : Int) - (getF b).2.1) / (m : Int)) = ((b.length : Int) - (getF b).2.1) / (m : Int) := wrap64' (by omega) (by omega)
 have hm0 : ((m : Int) = 0) = False := eq_false (by omega)
 simp only [↓eD, eZ, ↓reduceIte, Nat.reduceEqDiff, Nat.reduceAdd, Nat.reduceMul, reduceCtorEq, Nat.reduceLeDiff, Int.reduceLT, Int.reduceLE, Int.reduceToNat, Int.reduceEq, Nat.reduceLT]
 refine appK_at (wget_int_app hw hb hl) ?_
 by_cases h1 : (getF b).2.2 = 0
 case neg =>
  have d1 : decide ((getF b).2.2 = 0) = false := decide_eq_false h1
  have hf : lenF m b = (0, 0, (getF b).2.2) := if_pos h1
  simp only [↓eD, eZ, ↓reduceIte, Nat.reduceEqDiff, Nat.reduceAdd, Nat.reduceMul, reduceCtorEq, Nat.reduceLeDiff, Int.reduceLT, Int.reduceLE, Int.reduceToNat, Int.reduceEq, Nat.reduceLT, getV, d1, Bool.not_false, hf, undef_eq]
  first | rfl | exact ⟨rfl, rfl⟩ | skip
 have d1 : decide ((getF b).2.2 = 0) = true := decide_eq_true h1
 by_cases h2 : (getF b).1 < 0
 ·have d2 : decide ((getF b).1 < 0) = true := decide_eq_true h2
  have hf : lenF m b = (0, 0, 11) := by unfold lenF; rw [if_neg (fun h => h h1), if_pos h2]
  simp only [↓eD, eZ, ↓reduceIte, Nat.reduceEqDiff, Nat.reduceAdd, Nat.reduceMul, reduceCtorEq, Nat.reduceLeDiff, Int.reduceLT, Int.reduceLE, Int.reduceToNat, Int.reduceEq, Nat.reduceLT, getV, d1, d2, Bool.not_true, hf, undef_eq]
  first | rfl | exact ⟨rfl, rfl⟩ | skip
 have d2 : decide ((getF b).1 < 0) = false := decide_eq_false h2
 by_cases h3 : ((b.length : Int) - (getF b).2.1) / (m : Int) < (getF b).1
 ·have d3 : decide (((b.length : Int) - (getF b).2.1) / (m : Int) < (getF b).1) = true := decide_eq_true h3
  have hf : lenF m b = (0, 0, 10) := by unfold lenF; rw [if_neg (fun h => h h1), if_neg h2, if_pos h3]
  simp only [↓eD, eZ, ↓reduceIte, Nat.reduceEqDiff, Nat.reduceAdd, Nat.reduceMul, reduceCtorEq, Nat.reduceLeDiff, Int.reduceLT, Int.reduceLE, Int.reduceToNat, Int.reduceEq, Nat.reduceLT, getV, d1, d2, hm0, hw1, ht, hw2, d3, Bool.not_true, hf, undef_eq]
  first | rfl | exact ⟨rfl, rfl⟩ | skip
 have d3 : decide (((b.length : Int) - (getF b).2.1) / (m : Int) < (getF b).1) = false := decide_eq_false h3
 have hf : lenF m b = ((getF b).1, (getF b).2.1, 0) := by unfold lenF; rw [if_neg (fun h => h h1), if_neg h2, if_neg h3]
 simp only [↓eD, eZ, ↓reduceIte, Nat.reduceEqDiff, Nat.reduceAdd, Nat.reduceMul, reduceCtorEq, Nat.reduceLeDiff, Int.reduceLT, Int.reduceLE, Int.reduceToNat, Int.reduceEq, Nat.reduceLT, getV, d1, d2, hm0, hw1, ht, hw2, d3, Bool.not_true, hf, undef_eq]
 first | rfl | exact ⟨rfl, rfl⟩ | skip
theorem rlen_app {σ : H} {sl : Value} {b : List Int} {m : Nat} (hw : Whl σ 1 sl b.length (digC b)) (hb : Byt b) (hl : b.length < 1000000000000) (hm : 1 ≤ m) (hm2 : m < 1000) :
  App Tryd.prog (.func 79) #[] #[sl, .int .i64 (m : Int)] σ fun v σ' => σ' = σ ∧ v = getV (lenF m b) := by
 refine App.of_sem mixed Tryd.func79 t79 k79 r79 (Nat.le_of_ble_eq_true rfl) ?_
 obtain ⟨a, c, rfl⟩ := hw.slice
 unfold s79
 have hu := getF_used (b := b)
 have ht : ((b.length : Int) - (getF b).2.1).tdiv (m : Int) = ((b.length : Int) - (getF b).2.1) / (m : Int) := Int.tdiv_eq_ediv_of_nonneg (by omega)
 have hd0 : 0 ≤ ((b.length : Int) - (getF b).2.1) / (m : Int) := Int.ediv_nonneg (by omega) (by omega)
 have hd1 : ((b.length : Int) - (getF b).2.1) / (m : Int) ≤ (b.length : Int) - (getF b).2.1 := Int.ediv_le_self _ (by omega)
 have hw1 : IntKind.wrap .i64 ((b.length : Int) - (getF b).2.1) = (b.length : Int) - (getF b).2.1 := wrap64' (by omega) (by omega)
 have hw2 : IntKind.wrap .i64 (((b.length : Int) - (getF b).2.1) / (m : Int)) = ((b.length : Int) - (getF b).2.1) / (m : Int) := wrap64' (by omega) (by omega)
 have hm0 : ((m : Int) = 0) = False := eq_false (by omega)
 simp only [↓eD, eZ, ↓reduceIte, Nat.reduceEqDiff, Nat.reduceAdd, Nat.reduceMul, reduceCtorEq, Nat.reduceLeDiff, Int.reduceLT, Int.reduceLE, Int.reduceToNat, Int.reduceEq, Nat.reduceLT]
 refine appK_at (rget_int_app hw hb hl) ?_
 by_cases h1 : (getF b).2.2 = 0
 case neg =>
  have d1 : decide ((getF b).2.2 = 0) = false := decide_eq_false h1
  have hf : lenF m b = (0, 0, (getF b).2.2) := if_pos h1
  simp only [↓eD, eZ, ↓reduceIte, Nat.reduceEqDiff, Nat.reduceAdd, Nat.reduceMul, reduceCtorEq, Nat.reduceLeDiff, Int.reduceLT, Int.reduceLE, Int.reduceToNat, Int.reduceEq, Nat.reduceLT, getV, d1, Bool.not_false, hf, undef_eq]
  first | rfl | exact ⟨rfl, rfl⟩ | skip
 have d1 : decide ((getF b).2.2 = 0) = true := decide_eq_true h1
 by_cases h2 : (getF b).1 < 0
 ·have d2 : decide ((getF b).1 < 0) = true := decide_eq_true h2
  have hf : lenF m b = (0, 0, 11) := by unfold lenF; rw [if_neg (fun h => h h1), if_pos h2]
  simp only [↓eD, eZ, ↓reduceIte, Nat.reduceEqDiff, Nat.reduceAdd, Nat.reduceMul, reduceCtorEq, Nat.reduceLeDiff, Int.reduceLT, Int.reduceLE, Int.reduceToNat, Int.reduceEq, Nat.reduceLT, getV, d1, d2, Bool.not_true, hf, undef_eq]
  first | rfl | exact ⟨rfl, rfl⟩ | skip
 have d2 : decide ((getF b).1 < 0) = false := decide_eq_false h2
 by_cases h3 : ((b.length : Int) - (getF b).2.1) / (m : Int) < (getF b).1
 ·have d3 : decide (((b.length : Int) - (getF b).2.1) / (m : Int) < (getF b).1) = true := decide_eq_true h3
  have hf : lenF m b = (0, 0, 10) := by unfold lenF; rw [if_neg (fun h => h h1), if_neg h2, if_pos h3]
  simp only [↓eD, eZ, ↓reduceIte, Nat.reduceEqDiff, Nat.reduceAdd, Nat.reduceMul, reduceCtorEq, Nat.reduceLeDiff, Int.reduceLT, Int.reduceLE, Int.reduceToNat, Int.reduceEq, Nat.reduceLT, getV, d1, d2, hm0, hw1, ht, hw2, d3, Bool.not_true, hf, undef_eq]
  first | rfl | exact ⟨rfl, rfl⟩ | skip
 have d3 : decide (((b.length : Int) - (getF b).2.1) / (m : Int) < (getF b).1) = false := decide_eq_false h3
 have hf : lenF m b = ((getF b).1, (getF b).2.1, 0) := by unfold lenF; rw [if_neg (fun h => h h1), if_neg h2, if_neg h3]
 simp only [↓eD, eZ, ↓reduceIte, Nat.reduceEqDiff, Nat.reduceAdd, Nat.reduceMul, reduceCtorEq, Nat.reduceLeDiff, Int.reduceLT, Int.reduceLE, Int.reduceToNat, Int.reduceEq, Nat.reduceLT, getV, d1, d2, hm0, hw1, ht, hw2, d3, Bool.not_true, hf, undef_eq]
 first | rfl | exact ⟨rfl, rfl⟩ | skip
theorem dig_str7 {d : List Int} : Value.string { data := (List.map (fun x : Int => UInt8.ofNat x.toNat) d).toArray } = .string (bytesS d) := rfl
theorem wgetb_app {σ : H} {sl : Value} {b : List Int} (hw : Whl σ 1 sl b.length (digC b)) (hb : Byt b) (hl : b.length < 1000000000000) :
  App Tryd.prog (.func 77) #[] #[sl] σ fun v σ' => σ' = σ ∧ v = strV (bytF b) := by
 refine App.of_sem mixed Tryd.func77 t77 k77 r77 (Nat.le_of_ble_eq_true rfl) ?_
 obtain ⟨a, c, rfl⟩ := hw.slice
 unfold s77
 have hu := getF_used (b := b)
 simp only [↓eD, eZ, ↓reduceIte, Nat.reduceEqDiff, Nat.reduceAdd, Nat.reduceMul, reduceCtorEq, Nat.reduceLeDiff, Int.reduceLT, Int.reduceLE, Int.reduceToNat, Int.reduceEq, Nat.reduceLT]
 refine appK_at (wlen_app (m := 1) hw hb hl (Nat.le_refl 1) (by decide)) ?_
 by_cases h1 : (lenF 1 b).2.2 = 0
 case neg =>
  have d1 : decide ((lenF 1 b).2.2 = 0) = false := decide_eq_false h1
  have hf : bytF b = (⟨#[]⟩, 0, (lenF 1 b).2.2) := if_pos h1
  simp only [↓eD, eZ, ↓reduceIte, Nat.reduceEqDiff, Nat.reduceAdd, Nat.reduceMul, reduceCtorEq, Nat.reduceLeDiff, Int.reduceLT, Int.reduceLE, Int.reduceToNat, Int.reduceEq, Nat.reduceLT, getV, strV, d1, Bool.not_false, hf, undef_eq]
  first | rfl | exact ⟨rfl, rfl⟩ | skip
 have d1 : decide ((lenF 1 b).2.2 = 0) = true := decide_eq_true h1
 obtain ⟨g1, g2, _⟩ := lenF_ok (m := 1) (Nat.le_refl 1) h1
 have hf : bytF b = (bytesS ((b.drop (lenF 1 b).2.1).take (lenF 1 b).1.toNat), (lenF 1 b).2.1 + (lenF 1 b).1.toNat, 0) := if_neg (fun h => h h1)
 obtain ⟨N, hN⟩ : ∃ N : Nat, (lenF 1 b).1 = (N : Int) := ⟨(lenF 1 b).1.toNat, by omega⟩
 rw [hN, Int.toNat_natCast] at hf
 rw [hN] at g2
 obtain ⟨U, hU⟩ : ∃ U, U = (lenF 1 b).2.1 := ⟨_, rfl⟩
 rw [← hU] at hf g2
 have hwr : IntKind.wrap .i64 ((U : Int) + (N : Int)) = ((U + N : Nat) : Int) := by rw [wrap64' (by omega) (by omega)]; omega
 obtain ⟨v', hs, hv⟩ := sliceV_whl (lo := U) (hi := U + N) (L := some (.int .i64 (U : Int))) hw (.inl rfl) (by omega) (by omega)
 obtain ⟨k, cc, rfl⟩ := hv.slice
 rw [Nat.mul_one, Nat.mul_one, digC_sub, Nat.add_sub_cancel_left] at hv
 rw [Nat.add_sub_cancel_left] at hs
 cases k with
 |none =>
  obtain ⟨n0, c0⟩ := whl_none hv
  have hb0 : (b.drop U).take N = [] := by simpa [digC] using c0
  rw [hb0] at hf
  have hz : bytesS [] = ByteArray.empty := rfl
  simp only [↓eD, eZ, ↓reduceIte, Nat.reduceEqDiff, Nat.reduceAdd, Nat.reduceMul, reduceCtorEq, Nat.reduceLeDiff, Int.reduceLT, Int.reduceLE, Int.reduceToNat, Int.reduceEq, Nat.reduceLT, getV, strV, d1, Bool.not_true, hN, ← hU, hwr, hs, hf, hz, undef_eq]
  first | rfl | exact ⟨rfl, rfl⟩ | skip
 |some q =>
  have hr := whl_rd hv
  rw [Nat.mul_one] at hr
  simp only [↓eD, eZ, ↓reduceIte, Nat.reduceEqDiff, Nat.reduceAdd, Nat.reduceMul, reduceCtorEq, Nat.reduceLeDiff, Int.reduceLT, Int.reduceLE, Int.reduceToNat, Int.reduceEq, Nat.reduceLT, getV, strV, d1, Bool.not_true, hN, ← hU, hwr, hs, hr, Option.bind_some, bytesOf_dig, dig_str7, hf, undef_eq]
  first | rfl | exact ⟨rfl, rfl⟩ | skip
theorem rgetb_app {σ : H} {sl : Value} {b : List Int} (hw : Whl σ 1 sl b.length (digC b)) (hb : Byt b) (hl : b.length < 1000000000000) :
  App Tryd.prog (.func 81) #[] #[sl] σ fun v σ' => σ' = σ ∧ v = strV (bytF b) := by
 refine App.of_sem mixed Tryd.func81 t81 k81 r81 (Nat.le_of_ble_eq_true rfl) ?_
 obtain ⟨a, c, rfl⟩ := hw.slice
 unfold s81
 have hu := getF_used (b := b)
 simp only [↓eD, eZ, ↓reduceIte, Nat.reduceEqDiff, Nat.reduceAdd, Nat.reduceMul, reduceCtorEq, Nat.reduceLeDiff, Int.reduceLT, Int.reduceLE, Int.reduceToNat, Int.reduceEq, Nat.reduceLT]
 refine appK_at (rget_int_app hw hb hl) ?_
 have hw1 : IntKind.wrap .i64 ((b.length : Int) - (getF b).2.1) = (b.length : Int) - (getF b).2.1 := wrap64' (by omega) (by omega)
 by_cases j1 : (getF b).2.2 = 0
 case neg =>
  have d1 : decide ((getF b).2.2 = 0) = false := decide_eq_false j1
  have hlf : lenF 1 b = (0, 0, (getF b).2.2) := if_pos j1
  have hf : bytF b = (⟨#[]⟩, 0, (getF b).2.2) := by unfold bytF; rw [hlf]; exact if_pos j1
  simp only [↓eD, eZ, ↓reduceIte, Nat.reduceEqDiff, Nat.reduceAdd, Nat.reduceMul, reduceCtorEq, Nat.reduceLeDiff, Int.reduceLT, Int.reduceLE, Int.reduceToNat, Int.reduceEq, Nat.reduceLT, getV, strV, d1, Bool.not_false, hf, undef_eq]
  first | rfl | exact ⟨rfl, rfl⟩ | skip
 have d1 : decide ((getF b).2.2 = 0) = true := decide_eq_true j1
 by_cases j2 : (getF b).1 < 0
 ·have d2 : decide ((getF b).1 < 0) = true := decide_eq_true j2
  have hlf : lenF 1 b = (0, 0, 11) := by unfold lenF; rw [if_neg (fun h => h j1), if_pos j2]
  have hf : bytF b = (⟨#[]⟩, 0, 11) := by unfold bytF; rw [hlf]; rfl
  simp only [↓eD, eZ, ↓reduceIte, Nat.reduceEqDiff, Nat.reduceAdd, Nat.reduceMul, reduceCtorEq, Nat.reduceLeDiff, Int.reduceLT, Int.reduceLE, Int.reduceToNat, Int.reduceEq, Nat.reduceLT, getV, strV, d1, d2, Bool.not_true, hf, undef_eq]
  first | rfl | exact ⟨rfl, rfl⟩ | skip
 have d2 : decide ((getF b).1 < 0) = false := decide_eq_false j2
 by_cases j3 : (b.length : Int) - (getF b).2.1 < (getF b).1
 ·have d3 : decide ((b.length : Int) - (getF b).2.1 < (getF b).1) = true := decide_eq_true j3
  have hlf : lenF 1 b = (0, 0, 10) := by unfold lenF; rw [if_neg (fun h => h j1), if_neg j2, if_pos (by rw [show ((1 : Nat) : Int) = 1 from rfl, Int.ediv_one]; exact j3)]
  have hf : bytF b = (⟨#[]⟩, 0, 10) := by unfold bytF; rw [hlf]; rfl
  simp only [↓eD, eZ, ↓reduceIte, Nat.reduceEqDiff, Nat.reduceAdd, Nat.reduceMul, reduceCtorEq, Nat.reduceLeDiff, Int.reduceLT, Int.reduceLE, Int.reduceToNat, Int.reduceEq, Nat.reduceLT, getV, strV, d1, d2, hw1, d3, Bool.not_true, hf, undef_eq]
  first | rfl | exact ⟨rfl, rfl⟩ | skip
 have d3 : decide ((b.length : Int) - (getF b).2.1 < (getF b).1) = false := decide_eq_false j3
 have hlf : lenF 1 b = ((getF b).1, (getF b).2.1, 0) := by unfold lenF; rw [if_neg (fun h => h j1), if_neg j2, if_neg (by rw [show ((1 : Nat) : Int) = 1 from rfl, Int.ediv_one]; exact j3)]
 have h1 : (lenF 1 b).2.2 = 0 := by rw [hlf]
 obtain ⟨g1, g2, _⟩ := lenF_ok (m := 1) (Nat.le_refl 1) h1
 have hf : bytF b = (bytesS ((b.drop (lenF 1 b).2.1).take (lenF 1 b).1.toNat), (lenF 1 b).2.1 + (lenF 1 b).1.toNat, 0) := if_neg (fun h => h h1)
 obtain ⟨N, hN⟩ : ∃ N : Nat, (lenF 1 b).1 = (N : Int) := ⟨(lenF 1 b).1.toNat, by omega⟩
 rw [hN, Int.toNat_natCast] at hf
 rw [hN] at g2
 obtain ⟨U, hU⟩ : ∃ U, U = (lenF 1 b).2.1 := ⟨_, rfl⟩
 rw [← hU] at hf g2
 have hwr : IntKind.wrap .i64 ((U : Int) + (N : Int)) = ((U + N : Nat) : Int) := by rw [wrap64' (by omega) (by omega)]; omega
 have gN : (getF b).1 = (N : Int) := by rw [hlf] at hN; exact hN
 have gU : (getF b).2.1 = U := by rw [hlf] at hU; exact hU.symm
 rw [gN] at d2 d3
 rw [gU] at hw1 d3
 obtain ⟨v', hs, hv⟩ := sliceV_whl (lo := U) (hi := U + N) (L := some (.int .i64 (U : Int))) hw (.inl rfl) (by omega) (by omega)
 obtain ⟨k, cc, rfl⟩ := hv.slice
 rw [Nat.mul_one, Nat.mul_one, digC_sub, Nat.add_sub_cancel_left] at hv
 rw [Nat.add_sub_cancel_left] at hs
 cases k with
 |none =>
  obtain ⟨n0, c0⟩ := whl_none hv
  have hb0 : (b.drop U).take N = [] := by simpa [digC] using c0
  rw [hb0] at hf
  have hz : bytesS [] = ByteArray.empty := rfl
  simp only [↓eD, eZ, ↓reduceIte, Nat.reduceEqDiff, Nat.reduceAdd, Nat.reduceMul, reduceCtorEq, Nat.reduceLeDiff, Int.reduceLT, Int.reduceLE, Int.reduceToNat, Int.reduceEq, Nat.reduceLT, getV, strV, d1, d2, hw1, d3, Bool.not_true, gN, gU, hwr, hs, hf, hz, undef_eq]
  first | rfl | exact ⟨rfl, rfl⟩ | skip
 |some q =>
  have hr := whl_rd hv
  rw [Nat.mul_one] at hr
  simp only [↓eD, eZ, ↓reduceIte, Nat.reduceEqDiff, Nat.reduceAdd, Nat.reduceMul, reduceCtorEq, Nat.reduceLeDiff, Int.reduceLT, Int.reduceLE, Int.reduceToNat, Int.reduceEq, Nat.reduceLT, getV, strV, d1, d2, hw1, d3, Bool.not_true, gN, gU, hwr, hs, hr, Option.bind_some, bytesOf_dig, dig_str7, hf, undef_eq]
  first | rfl | exact ⟨rfl, rfl⟩ | skip
def getL {α : Type} (one : List Int → α × Nat × Int) (b : List Int) : Nat → Nat → List α → List α × Nat × Int
 |0, at_, acc => (acc, at_, 0)
 |k + 1, at_, acc => if (one (b.drop at_)).2.2 ≠ 0 then ([], 0, (one (b.drop at_)).2.2) else getL one b k (at_ + (one (b.drop at_)).2.1) (acc ++ [(one (b.drop at_)).1])
def listF {α : Type} (one : List Int → α × Nat × Int) (m : Nat) (b : List Int) : List α × Nat × Int :=
 if (lenF m b).2.2 ≠ 0 then ([], 0, (lenF m b).2.2) else getL one b (lenF m b).1.toNat (lenF m b).2.1 []
theorem byt_drop {b : List Int} {n : Nat} (h : Byt b) : Byt (b.drop n) := fun x hx => h x (List.mem_of_mem_drop hx)
theorem wgets_i {σ : H} {sl : Value} {b : List Int} (hw : Whl σ 1 sl b.length (digC b)) (hb : Byt b) (hl : b.length < 1000000000000) :
  App Tryd.prog (.func 74) #[] #[sl, .int .i64 1, .func (.func 75) #[] #[]] σ fun v σ' => Old σ σ' ∧ ∃ s', v = .tuple #[s', .int .i64 ((listF getF 1 b).2.1 : Int), .int .i64 (listF getF 1 b).2.2] ∧ Grown σ σ' 1 s' ((listF getF 1 b).1.map (Value.int .i64)) (listF getF 1 b).1.length := by
 refine App.of_sem mixed Tryd.func74 t74 k74 r74 (Nat.le_of_ble_eq_true rfl) ?_
 obtain ⟨a, c, rfl⟩ := hw.slice
 unfold s74
 rw [← ap_nil (σ := σ)]
 simp only [↓eD, eZ, ↓reduceIte, Nat.reduceEqDiff, Nat.reduceAdd, Nat.reduceMul, reduceCtorEq, Nat.reduceLeDiff, Int.reduceLT, Int.reduceLE, Int.reduceToNat, Int.reduceEq, Nat.reduceLT]
 refine appK_at (wlen_app (m := 1) (hw.Old .ap) hb hl (Nat.le_refl 1) (by decide)) ?_
 by_cases h1 : (lenF 1 b).2.2 = 0
 case neg =>
  have d1 : decide ((lenF 1 b).2.2 = 0) = false := decide_eq_false h1
  have hf : listF getF 1 b = ([], 0, (lenF 1 b).2.2) := if_pos h1
  simp only [↓eD, eZ, ↓reduceIte, Nat.reduceEqDiff, Nat.reduceAdd, Nat.reduceMul, reduceCtorEq, Nat.reduceLeDiff, Int.reduceLT, Int.reduceLE, Int.reduceToNat, Int.reduceEq, Nat.reduceLT, getV, d1, Bool.not_false, hf, undef_eq]
  first | exact ⟨.ap, _, rfl, Grown.nil⟩ | exact ⟨.ap, Grown.nil⟩
 have d1 : decide ((lenF 1 b).2.2 = 0) = true := decide_eq_true h1
 obtain ⟨g1, g2, _⟩ := lenF_ok (m := 1) (Nat.le_refl 1) h1
 have hf : listF getF 1 b = getL getF b (lenF 1 b).1.toNat (lenF 1 b).2.1 [] := if_neg (fun h => h h1)
 obtain ⟨N, hN⟩ : ∃ N : Nat, (lenF 1 b).1 = (N : Int) := ⟨(lenF 1 b).1.toNat, by omega⟩
 obtain ⟨U, hU⟩ : ∃ U, U = (lenF 1 b).2.1 := ⟨_, rfl⟩
 rw [← hU] at g2 hf
 rw [hN] at g2
 rw [hN, Int.toNat_natCast] at hf
 simp only [↓eD, eZ, ↓reduceIte, Nat.reduceEqDiff, Nat.reduceAdd, Nat.reduceMul, reduceCtorEq, Nat.reduceLeDiff, Int.reduceLT, Int.reduceLE, Int.reduceToNat, Int.reduceEq, Nat.reduceLT, getV, d1, Bool.not_true, hN, ← hU, undef_eq]
 rw [ap_nil]
 refine loop_for (J := fun i e τ => i ≤ N ∧ ∃ (at_ : Nat) (v : Value) (acc : List Int), e = [(0, .slice a b.length c), (2, .func (.func 75) #[] #[]), (10, .int .i64 (at_ : Int)), (12, v), (26, .int .i64 (N : Int)), (27, .int .i64 (i : Int))] ∧ Old σ τ ∧ at_ ≤ b.length ∧ acc.length = i ∧ Grown σ τ 1 v (acc.map (Value.int .i64)) acc.length ∧ getL getF b (N - i) at_ acc = getL getF b N U []) N
  ⟨by omega, U, _, [], rfl, Old.refl, by omega, rfl, .nil, rfl⟩ ?_
 rintro i e τ hi ⟨_, at_, v, acc, rfl, ho, hat, hacc, hg, hloop⟩
 rw [← ap_nil (σ := τ)]
 by_cases hlt : i < N
 ·have dl : decide ((i : Int) < (N : Int)) = true := by rw [decide_eq_true]; omega
  have hw1 : IntKind.wrap .i64 ((i:Int) + 1) = ((i + 1 : Nat) : Int) := by rw [wrap64' (by omega) (by omega)]; omega
  obtain ⟨v', hs, hv, _⟩ := whl_suf (lo := at_) ((hw.Old ho).Old (Old.ap (l := []))) hat
  rw [Nat.mul_one, digC_drop, ← List.length_drop] at hv
  have hused := (getF_used (b := b.drop at_)).1
  rw [List.length_drop] at hused
  have hstep : getL getF b (N - i) at_ acc = if (getF (b.drop at_)).2.2 ≠ 0 then ([], 0, (getF (b.drop at_)).2.2) else getL getF b (N - (i + 1)) (at_ + (getF (b.drop at_)).2.1) (acc ++ [(getF (b.drop at_)).1]) := by
   rw [show N - i = (N - (i + 1)) + 1 by omega, getL]
  simp only [↓eD, eZ, ↓reduceIte, Nat.reduceEqDiff, Nat.reduceAdd, Nat.reduceMul, reduceCtorEq, Nat.reduceLeDiff, Int.reduceLT, Int.reduceLE, Int.reduceToNat, Int.reduceEq, Nat.reduceLT, dl, hs, undef_eq]
  refine appK_at (wget_int_app hv (byt_drop hb) (by rw [List.length_drop]; omega)) ?_
  generalize getF (b.drop at_) = r at hused hstep
  by_cases he : r.2.2 = 0
  case neg =>
   have d2 : decide (r.2.2 = 0) = false := decide_eq_false he
   have hf2 : listF getF 1 b = ([], 0, r.2.2) := by rw [hf, ← hloop, hstep, if_pos he]
   simp only [↓eD, eZ, ↓reduceIte, Nat.reduceEqDiff, Nat.reduceAdd, Nat.reduceMul, reduceCtorEq, Nat.reduceLeDiff, Int.reduceLT, Int.reduceLE, Int.reduceToNat, Int.reduceEq, Nat.reduceLT, getV, d2, Bool.not_false, hf2, undef_eq]
   first | exact ⟨ho.trans .ap, _, rfl, Grown.nil⟩ | exact ⟨ho.trans .ap, Grown.nil⟩
  have d2 : decide (r.2.2 = 0) = true := decide_eq_true he
  rw [if_neg (fun h => h he)] at hstep
  have hw2 : IntKind.wrap .i64 ((at_ : Int) + (r.2.1 : Int)) = ((at_ + r.2.1 : Nat) : Int) := by rw [wrap64' (by omega) (by omega)]; omega
  have xc : xcells (ap τ [.cells 0 [(Value.int .i64) r.1] (0, 0)]) 1 (.slice (some ⟨τ.size, 0, none⟩) 1 1) = some (1, [(Value.int .i64) r.1]) := by
   show (rdN (ap τ _) ⟨τ.size, 0, none⟩ (1 * 1)).map (1, ·) = _
   rw [rdN_all (n := 1 * 1) (by rw [ap_new0]; rfl) rfl]
   rfl
  obtain ⟨v2, τ2, ha, hA⟩ := append_grown (bytes := 8) (hg.old (Old.ap (l := [.cells 0 [(Value.int .i64) r.1] (0, 0)]))) (by omega) (by have := ho.1; simp [ap_size]; omega) xc rfl rfl (by omega) (by omega)
  simp only [↓eD, eZ, ↓reduceIte, Nat.reduceEqDiff, Nat.reduceAdd, Nat.reduceMul, reduceCtorEq, Nat.reduceLeDiff, Int.reduceLT, Int.reduceLE, Int.reduceToNat, Int.reduceEq, Nat.reduceLT, getV, d2, Bool.not_true, undef_eq]
  refine onV_of ha ?_
  simp only [↓eD, eZ, ↓reduceIte, Nat.reduceEqDiff, Nat.reduceAdd, Nat.reduceMul, reduceCtorEq, Nat.reduceLeDiff, Int.reduceLT, Int.reduceLE, Int.reduceToNat, Int.reduceEq, Nat.reduceLT, hw1, hw2, undef_eq]
  refine ⟨hlt, by omega, at_ + r.2.1, v2, acc ++ [r.1], rfl, hA.Old (hg.old .ap) (ho.trans .ap), by omega, by simp [hacc], ?_, ?_⟩
  ·rw [List.map_append, List.length_append]; exact hA.grown
  ·rw [← hstep, hloop]
 ·have : i = N := by omega
  subst this
  have dl : decide ((i : Int) < (i : Int)) = false := by rw [decide_eq_false]; omega
  rw [Nat.sub_self, getL] at hloop
  rw [← hloop] at hf
  simp only [↓eD, eZ, ↓reduceIte, Nat.reduceEqDiff, Nat.reduceAdd, Nat.reduceMul, reduceCtorEq, Nat.reduceLeDiff, Int.reduceLT, Int.reduceLE, Int.reduceToNat, Int.reduceEq, Nat.reduceLT, dl, hf, undef_eq]
  first | exact ⟨ho.trans .ap, _, rfl, hg.old .ap⟩ | exact ⟨ho.trans .ap, hg.old .ap⟩
theorem wget_ints_app {σ : H} {sl : Value} {b : List Int} (hw : Whl σ 1 sl b.length (digC b)) (hb : Byt b) (hl : b.length < 1000000000000) :
  App Tryd.prog (.func 48) #[] #[sl] σ fun v σ' => Old σ σ' ∧ ∃ s', v = .tuple #[s', .int .i64 ((listF getF 1 b).2.1 : Int), .int .i64 (listF getF 1 b).2.2] ∧ Grown σ σ' 1 s' ((listF getF 1 b).1.map (Value.int .i64)) (listF getF 1 b).1.length := by
 refine App.of_sem mixed Tryd.func48 t48 k48 r48 (Nat.le_of_ble_eq_true rfl) ?_
 obtain ⟨a, c, rfl⟩ := hw.slice
 unfold s48
 simp only [↓eD, eZ, ↓reduceIte, Nat.reduceEqDiff, Nat.reduceAdd, Nat.reduceMul, reduceCtorEq, Nat.reduceLeDiff, Int.reduceLT, Int.reduceLE, Int.reduceToNat, Int.reduceEq, Nat.reduceLT]
 refine appK_of (wgets_i hw hb hl) ?_
 rintro v σ1 ⟨ho1, s', rfl, hg1⟩
 obtain ⟨a', c', rfl⟩ := hg1.slice
 simp only [↓eD, eZ, ↓reduceIte, Nat.reduceEqDiff, Nat.reduceAdd, Nat.reduceMul, reduceCtorEq, Nat.reduceLeDiff, Int.reduceLT, Int.reduceLE, Int.reduceToNat, Int.reduceEq, Nat.reduceLT]
 first | exact ⟨ho1, _, rfl, hg1⟩ | exact ⟨ho1, hg1⟩
theorem wgets_s {σ : H} {sl : Value} {b : List Int} (hw : Whl σ 1 sl b.length (digC b)) (hb : Byt b) (hl : b.length < 1000000000000) :
  App Tryd.prog (.func 76) #[] #[sl, .int .i64 1, .func (.func 77) #[] #[]] σ fun v σ' => Old σ σ' ∧ ∃ s', v = .tuple #[s', .int .i64 ((listF bytF 1 b).2.1 : Int), .int .i64 (listF bytF 1 b).2.2] ∧ Grown σ σ' 1 s' ((listF bytF 1 b).1.map Value.string) (listF bytF 1 b).1.length := by
 refine App.of_sem mixed Tryd.func76 t76 k76 r76 (Nat.le_of_ble_eq_true rfl) ?_
 obtain ⟨a, c, rfl⟩ := hw.slice
 unfold s76
 rw [← ap_nil (σ := σ)]
 simp only [↓eD, eZ, ↓reduceIte, Nat.reduceEqDiff, Nat.reduceAdd, Nat.reduceMul, reduceCtorEq, Nat.reduceLeDiff, Int.reduceLT, Int.reduceLE, Int.reduceToNat, Int.reduceEq, Nat.reduceLT]
 refine appK_at (wlen_app (m := 1) (hw.Old .ap) hb hl (Nat.le_refl 1) (by decide)) ?_
 by_cases h1 : (lenF 1 b).2.2 = 0
 case neg =>
  have d1 : decide ((lenF 1 b).2.2 = 0) = false := decide_eq_false h1
  have hf : listF bytF 1 b = ([], 0, (lenF 1 b).2.2) := if_pos h1
  simp only [↓eD, eZ, ↓reduceIte, Nat.reduceEqDiff, Nat.reduceAdd, Nat.reduceMul, reduceCtorEq, Nat.reduceLeDiff, Int.reduceLT, Int.reduceLE, Int.reduceToNat, Int.reduceEq, Nat.reduceLT, getV, d1, Bool.not_false, hf, undef_eq]
  first | exact ⟨.ap, _, rfl, Grown.nil⟩ | exact ⟨.ap, Grown.nil⟩
 have d1 : decide ((lenF 1 b).2.2 = 0) = true := decide_eq_true h1
 obtain ⟨g1, g2, _⟩ := lenF_ok (m := 1) (Nat.le_refl 1) h1
 have hf : listF bytF 1 b = getL bytF b (lenF 1 b).1.toNat (lenF 1 b).2.1 [] := if_neg (fun h => h h1)
 obtain ⟨N, hN⟩ : ∃ N : Nat, (lenF 1 b).1 = (N : Int) := ⟨(lenF 1 b).1.toNat, by omega⟩
 obtain ⟨U, hU⟩ : ∃ U, U = (lenF 1 b).2.1 := ⟨_, rfl⟩
 rw [← hU] at g2 hf
 rw [hN] at g2
 rw [hN, Int.toNat_natCast] at hf
 simp only [↓eD, eZ, ↓reduceIte, Nat.reduceEqDiff, Nat.reduceAdd, Nat.reduceMul, reduceCtorEq, Nat.reduceLeDiff, Int.reduceLT, Int.reduceLE, Int.reduceToNat, Int.reduceEq, Nat.reduceLT, getV, d1, Bool.not_true, hN, ← hU, undef_eq]
 rw [ap_nil]
 refine loop_for (J := fun i e τ => i ≤ N ∧ ∃ (at_ : Nat) (v : Value) (acc : List ByteArray), e = [(0, .slice a b.length c), (2, .func (.func 77) #[] #[]), (10, .int .i64 (at_ : Int)), (12, v), (26, .int .i64 (N : Int)), (27, .int .i64 (i : Int))] ∧ Old σ τ ∧ at_ ≤ b.length ∧ acc.length = i ∧ Grown σ τ 1 v (acc.map Value.string) acc.length ∧ getL bytF b (N - i) at_ acc = getL bytF b N U []) N
  ⟨by omega, U, _, [], rfl, Old.refl, by omega, rfl, .nil, rfl⟩ ?_
 rintro i e τ hi ⟨_, at_, v, acc, rfl, ho, hat, hacc, hg, hloop⟩
 rw [← ap_nil (σ := τ)]
 by_cases hlt : i < N
 ·have dl : decide ((i : Int) < (N : Int)) = true := by rw [decide_eq_true]; omega
  have hw1 : IntKind.wrap .i64 ((i:Int) + 1) = ((i + 1 : Nat) : Int) := by rw [wrap64' (by omega) (by omega)]; omega
  obtain ⟨v', hs, hv, _⟩ := whl_suf (lo := at_) ((hw.Old ho).Old (Old.ap (l := []))) hat
  rw [Nat.mul_one, digC_drop, ← List.length_drop] at hv
  have hused := bytF_used (b := b.drop at_)
  rw [List.length_drop] at hused
  have hstep : getL bytF b (N - i) at_ acc = if (bytF (b.drop at_)).2.2 ≠ 0 then ([], 0, (bytF (b.drop at_)).2.2) else getL bytF b (N - (i + 1)) (at_ + (bytF (b.drop at_)).2.1) (acc ++ [(bytF (b.drop at_)).1]) := by
   rw [show N - i = (N - (i + 1)) + 1 by omega, getL]
  simp only [↓eD, eZ, ↓reduceIte, Nat.reduceEqDiff, Nat.reduceAdd, Nat.reduceMul, reduceCtorEq, Nat.reduceLeDiff, Int.reduceLT, Int.reduceLE, Int.reduceToNat, Int.reduceEq, Nat.reduceLT, dl, hs, undef_eq]
  refine appK_at (wgetb_app hv (byt_drop hb) (by rw [List.length_drop]; omega)) ?_
  generalize bytF (b.drop at_) = r at hused hstep
  by_cases he : r.2.2 = 0
  case neg =>
   have d2 : decide (r.2.2 = 0) = false := decide_eq_false he
   have hf2 : listF bytF 1 b = ([], 0, r.2.2) := by rw [hf, ← hloop, hstep, if_pos he]
   simp only [↓eD, eZ, ↓reduceIte, Nat.reduceEqDiff, Nat.reduceAdd, Nat.reduceMul, reduceCtorEq, Nat.reduceLeDiff, Int.reduceLT, Int.reduceLE, Int.reduceToNat, Int.reduceEq, Nat.reduceLT, strV, d2, Bool.not_false, hf2, undef_eq]
   first | exact ⟨ho.trans .ap, _, rfl, Grown.nil⟩ | exact ⟨ho.trans .ap, Grown.nil⟩
  have d2 : decide (r.2.2 = 0) = true := decide_eq_true he
  rw [if_neg (fun h => h he)] at hstep
  have hw2 : IntKind.wrap .i64 ((at_ : Int) + (r.2.1 : Int)) = ((at_ + r.2.1 : Nat) : Int) := by rw [wrap64' (by omega) (by omega)]; omega
  have xc : xcells (ap τ [.cells 0 [Value.string r.1] (0, 0)]) 1 (.slice (some ⟨τ.size, 0, none⟩) 1 1) = some (1, [Value.string r.1]) := by
   show (rdN (ap τ _) ⟨τ.size, 0, none⟩ (1 * 1)).map (1, ·) = _
   rw [rdN_all (n := 1 * 1) (by rw [ap_new0]; rfl) rfl]
   rfl
  obtain ⟨v2, τ2, ha, hA⟩ := append_grown (bytes := 16) (hg.old (Old.ap (l := [.cells 0 [Value.string r.1] (0, 0)]))) (by omega) (by have := ho.1; simp [ap_size]; omega) xc rfl rfl (by omega) (by omega)
  simp only [↓eD, eZ, ↓reduceIte, Nat.reduceEqDiff, Nat.reduceAdd, Nat.reduceMul, reduceCtorEq, Nat.reduceLeDiff, Int.reduceLT, Int.reduceLE, Int.reduceToNat, Int.reduceEq, Nat.reduceLT, strV, d2, Bool.not_true, undef_eq]
  refine onV_of ha ?_
  simp only [↓eD, eZ, ↓reduceIte, Nat.reduceEqDiff, Nat.reduceAdd, Nat.reduceMul, reduceCtorEq, Nat.reduceLeDiff, Int.reduceLT, Int.reduceLE, Int.reduceToNat, Int.reduceEq, Nat.reduceLT, hw1, hw2, undef_eq]
  refine ⟨hlt, by omega, at_ + r.2.1, v2, acc ++ [r.1], rfl, hA.Old (hg.old .ap) (ho.trans .ap), by omega, by simp [hacc], ?_, ?_⟩
  ·rw [List.map_append, List.length_append]; exact hA.grown
  ·rw [← hstep, hloop]
 ·have : i = N := by omega
  subst this
  have dl : decide ((i : Int) < (i : Int)) = false := by rw [decide_eq_false]; omega
  rw [Nat.sub_self, getL] at hloop
  rw [← hloop] at hf
  simp only [↓eD, eZ, ↓reduceIte, Nat.reduceEqDiff, Nat.reduceAdd, Nat.reduceMul, reduceCtorEq, Nat.reduceLeDiff, Int.reduceLT, Int.reduceLE, Int.reduceToNat, Int.reduceEq, Nat.reduceLT, dl, hf, undef_eq]
  first | exact ⟨ho.trans .ap, _, rfl, hg.old .ap⟩ | exact ⟨ho.trans .ap, hg.old .ap⟩
theorem wget_strs_app {σ : H} {sl : Value} {b : List Int} (hw : Whl σ 1 sl b.length (digC b)) (hb : Byt b) (hl : b.length < 1000000000000) :
  App Tryd.prog (.func 50) #[] #[sl] σ fun v σ' => Old σ σ' ∧ ∃ s', v = .tuple #[s', .int .i64 ((listF bytF 1 b).2.1 : Int), .int .i64 (listF bytF 1 b).2.2] ∧ Grown σ σ' 1 s' ((listF bytF 1 b).1.map Value.string) (listF bytF 1 b).1.length := by
 refine App.of_sem mixed Tryd.func50 t50 k50 r50 (Nat.le_of_ble_eq_true rfl) ?_
 obtain ⟨a, c, rfl⟩ := hw.slice
 unfold s50
 simp only [↓eD, eZ, ↓reduceIte, Nat.reduceEqDiff, Nat.reduceAdd, Nat.reduceMul, reduceCtorEq, Nat.reduceLeDiff, Int.reduceLT, Int.reduceLE, Int.reduceToNat, Int.reduceEq, Nat.reduceLT]
 refine appK_of (wgets_s hw hb hl) ?_
 rintro v σ1 ⟨ho1, s', rfl, hg1⟩
 obtain ⟨a', c', rfl⟩ := hg1.slice
 simp only [↓eD, eZ, ↓reduceIte, Nat.reduceEqDiff, Nat.reduceAdd, Nat.reduceMul, reduceCtorEq, Nat.reduceLeDiff, Int.reduceLT, Int.reduceLE, Int.reduceToNat, Int.reduceEq, Nat.reduceLT]
 first | exact ⟨ho1, _, rfl, hg1⟩ | exact ⟨ho1, hg1⟩
theorem rget_ints_app {σ : H} {sl : Value} {b : List Int} (hw : Whl σ 1 sl b.length (digC b)) (hb : Byt b) (hl : b.length < 1000000000000) :
  App Tryd.prog (.func 53) #[] #[sl] σ fun v σ' => Old σ σ' ∧ ∃ s', v = .tuple #[s', .int .i64 ((listF getF 1 b).2.1 : Int), .int .i64 (listF getF 1 b).2.2] ∧ Grown σ σ' 1 s' ((listF getF 1 b).1.map (Value.int .i64)) (listF getF 1 b).1.length := by
 refine App.of_sem mixed Tryd.func53 t53 k53 r53 (Nat.le_of_ble_eq_true rfl) ?_
 obtain ⟨a, c, rfl⟩ := hw.slice
 unfold s53
 rw [← ap_nil (σ := σ)]
 simp only [↓eD, eZ, ↓reduceIte, Nat.reduceEqDiff, Nat.reduceAdd, Nat.reduceMul, reduceCtorEq, Nat.reduceLeDiff, Int.reduceLT, Int.reduceLE, Int.reduceToNat, Int.reduceEq, Nat.reduceLT]
 refine appK_at (rlen_app (m := 1) (hw.Old .ap) hb hl (Nat.le_refl 1) (by decide)) ?_
 by_cases h1 : (lenF 1 b).2.2 = 0
 case neg =>
  have d1 : decide ((lenF 1 b).2.2 = 0) = false := decide_eq_false h1
  have hf : listF getF 1 b = ([], 0, (lenF 1 b).2.2) := if_pos h1
  simp only [↓eD, eZ, ↓reduceIte, Nat.reduceEqDiff, Nat.reduceAdd, Nat.reduceMul, reduceCtorEq, Nat.reduceLeDiff, Int.reduceLT, Int.reduceLE, Int.reduceToNat, Int.reduceEq, Nat.reduceLT, getV, d1, Bool.not_false, hf, undef_eq]
  first | exact ⟨.ap, _, rfl, Grown.nil⟩ | exact ⟨.ap, Grown.nil⟩
 have d1 : decide ((lenF 1 b).2.2 = 0) = true := decide_eq_true h1
 obtain ⟨g1, g2, _⟩ := lenF_ok (m := 1) (Nat.le_refl 1) h1
 have hf : listF getF 1 b = getL getF b (lenF 1 b).1.toNat (lenF 1 b).2.1 [] := if_neg (fun h => h h1)
 obtain ⟨N, hN⟩ : ∃ N : Nat, (lenF 1 b).1 = (N : Int) := ⟨(lenF 1 b).1.toNat, by omega⟩
 obtain ⟨U, hU⟩ : ∃ U, U = (lenF 1 b).2.1 := ⟨_, rfl⟩
 rw [← hU] at g2 hf
 rw [hN] at g2
 rw [hN, Int.toNat_natCast] at hf
 simp only [↓eD, eZ, ↓reduceIte, Nat.reduceEqDiff, Nat.reduceAdd, Nat.reduceMul, reduceCtorEq, Nat.reduceLeDiff, Int.reduceLT, Int.reduceLE, Int.reduceToNat, Int.reduceEq, Nat.reduceLT, getV, d1, Bool.not_true, hN, ← hU, undef_eq]
 rw [ap_nil]
 refine loop_for (J := fun i e τ => i ≤ N ∧ ∃ (at_ : Nat) (v : Value) (acc : List Int), e = [(0, .slice a b.length c), (5, .int .i64 (N : Int)), (6, .int .i64 (at_ : Int)), (8, v), (9, .int .i64 (i : Int))] ∧ Old σ τ ∧ at_ ≤ b.length ∧ acc.length = i ∧ Grown σ τ 1 v (acc.map (Value.int .i64)) acc.length ∧ getL getF b (N - i) at_ acc = getL getF b N U []) N
  ⟨by omega, U, _, [], rfl, Old.refl, by omega, rfl, .nil, rfl⟩ ?_
 rintro i e τ hi ⟨_, at_, v, acc, rfl, ho, hat, hacc, hg, hloop⟩
 rw [← ap_nil (σ := τ)]
 by_cases hlt : i < N
 ·have dl : decide ((i : Int) < (N : Int)) = true := by rw [decide_eq_true]; omega
  have hw1 : IntKind.wrap .i64 ((i:Int) + 1) = ((i + 1 : Nat) : Int) := by rw [wrap64' (by omega) (by omega)]; omega
  obtain ⟨v', hs, hv, _⟩ := whl_suf (lo := at_) ((hw.Old ho).Old (Old.ap (l := []))) hat
  rw [Nat.mul_one, digC_drop, ← List.length_drop] at hv
  have hused := (getF_used (b := b.drop at_)).1
  rw [List.length_drop] at hused
  have hstep : getL getF b (N - i) at_ acc = if (getF (b.drop at_)).2.2 ≠ 0 then ([], 0, (getF (b.drop at_)).2.2) else getL getF b (N - (i + 1)) (at_ + (getF (b.drop at_)).2.1) (acc ++ [(getF (b.drop at_)).1]) := by
   rw [show N - i = (N - (i + 1)) + 1 by omega, getL]
  simp only [↓eD, eZ, ↓reduceIte, Nat.reduceEqDiff, Nat.reduceAdd, Nat.reduceMul, reduceCtorEq, Nat.reduceLeDiff, Int.reduceLT, Int.reduceLE, Int.reduceToNat, Int.reduceEq, Nat.reduceLT, dl, hs, undef_eq]
  refine appK_at (rget_int_app hv (byt_drop hb) (by rw [List.length_drop]; omega)) ?_
  generalize getF (b.drop at_) = r at hused hstep
  by_cases he : r.2.2 = 0
  case neg =>
   have d2 : decide (r.2.2 = 0) = false := decide_eq_false he
   have hf2 : listF getF 1 b = ([], 0, r.2.2) := by rw [hf, ← hloop, hstep, if_pos he]
   simp only [↓eD, eZ, ↓reduceIte, Nat.reduceEqDiff, Nat.reduceAdd, Nat.reduceMul, reduceCtorEq, Nat.reduceLeDiff, Int.reduceLT, Int.reduceLE, Int.reduceToNat, Int.reduceEq, Nat.reduceLT, getV, d2, Bool.not_false, hf2, undef_eq]
   first | exact ⟨ho.trans .ap, _, rfl, Grown.nil⟩ | exact ⟨ho.trans .ap, Grown.nil⟩
  have d2 : decide (r.2.2 = 0) = true := decide_eq_true he
  rw [if_neg (fun h => h he)] at hstep
  have hw2 : IntKind.wrap .i64 ((at_ : Int) + (r.2.1 : Int)) = ((at_ + r.2.1 : Nat) : Int) := by rw [wrap64' (by omega) (by omega)]; omega
  have xc : xcells (ap τ [.cells 0 [(Value.int .i64) r.1] (0, 0)]) 1 (.slice (some ⟨τ.size, 0, none⟩) 1 1) = some (1, [(Value.int .i64) r.1]) := by
   show (rdN (ap τ _) ⟨τ.size, 0, none⟩ (1 * 1)).map (1, ·) = _
   rw [rdN_all (n := 1 * 1) (by rw [ap_new0]; rfl) rfl]
   rfl
  obtain ⟨v2, τ2, ha, hA⟩ := append_grown (bytes := 8) (hg.old (Old.ap (l := [.cells 0 [(Value.int .i64) r.1] (0, 0)]))) (by omega) (by have := ho.1; simp [ap_size]; omega) xc rfl rfl (by omega) (by omega)
  simp only [↓eD, eZ, ↓reduceIte, Nat.reduceEqDiff, Nat.reduceAdd, Nat.reduceMul, reduceCtorEq, Nat.reduceLeDiff, Int.reduceLT, Int.reduceLE, Int.reduceToNat, Int.reduceEq, Nat.reduceLT, getV, d2, Bool.not_true, undef_eq]
  refine onV_of ha ?_
  simp only [↓eD, eZ, ↓reduceIte, Nat.reduceEqDiff, Nat.reduceAdd, Nat.reduceMul, reduceCtorEq, Nat.reduceLeDiff, Int.reduceLT, Int.reduceLE, Int.reduceToNat, Int.reduceEq, Nat.reduceLT, hw1, hw2, undef_eq]
  refine ⟨hlt, by omega, at_ + r.2.1, v2, acc ++ [r.1], rfl, hA.Old (hg.old .ap) (ho.trans .ap), by omega, by simp [hacc], ?_, ?_⟩
  ·rw [List.map_append, List.length_append]; exact hA.grown
  ·rw [← hstep, hloop]
 ·have : i = N := by omega
  subst this
  have dl : decide ((i : Int) < (i : Int)) = false := by rw [decide_eq_false]; omega
  rw [Nat.sub_self, getL] at hloop
  rw [← hloop] at hf
  simp only [↓eD, eZ, ↓reduceIte, Nat.reduceEqDiff, Nat.reduceAdd, Nat.reduceMul, reduceCtorEq, Nat.reduceLeDiff, Int.reduceLT, Int.reduceLE, Int.reduceToNat, Int.reduceEq, Nat.reduceLT, dl, hf, undef_eq]
  first | exact ⟨ho.trans .ap, _, rfl, hg.old .ap⟩ | exact ⟨ho.trans .ap, hg.old .ap⟩
theorem rget_strs_app {σ : H} {sl : Value} {b : List Int} (hw : Whl σ 1 sl b.length (digC b)) (hb : Byt b) (hl : b.length < 1000000000000) :
  App Tryd.prog (.func 54) #[] #[sl] σ fun v σ' => Old σ σ' ∧ ∃ s', v = .tuple #[s', .int .i64 ((listF bytF 1 b).2.1 : Int), .int .i64 (listF bytF 1 b).2.2] ∧ Grown σ σ' 1 s' ((listF bytF 1 b).1.map Value.string) (listF bytF 1 b).1.length := by
 refine App.of_sem mixed Tryd.func54 t54 k54 r54 (Nat.le_of_ble_eq_true rfl) ?_
 obtain ⟨a, c, rfl⟩ := hw.slice
 unfold s54
 rw [← ap_nil (σ := σ)]
 simp only [↓eD, eZ, ↓reduceIte, Nat.reduceEqDiff, Nat.reduceAdd, Nat.reduceMul, reduceCtorEq, Nat.reduceLeDiff, Int.reduceLT, Int.reduceLE, Int.reduceToNat, Int.reduceEq, Nat.reduceLT]
 refine appK_at (rlen_app (m := 1) (hw.Old .ap) hb hl (Nat.le_refl 1) (by decide)) ?_
 by_cases h1 : (lenF 1 b).2.2 = 0
 case neg =>
  have d1 : decide ((lenF 1 b).2.2 = 0) = false := decide_eq_false h1
  have hf : listF bytF 1 b = ([], 0, (lenF 1 b).2.2) := if_pos h1
  simp only [↓eD, eZ, ↓reduceIte, Nat.reduceEqDiff, Nat.reduceAdd, Nat.reduceMul, reduceCtorEq, Nat.reduceLeDiff, Int.reduceLT, Int.reduceLE, Int.reduceToNat, Int.reduceEq, Nat.reduceLT, getV, d1, Bool.not_false, hf, undef_eq]
  first | exact ⟨.ap, _, rfl, Grown.nil⟩ | exact ⟨.ap, Grown.nil⟩
 have d1 : decide ((lenF 1 b).2.2 = 0) = true := decide_eq_true h1
 obtain ⟨g1, g2, _⟩ := lenF_ok (m := 1) (Nat.le_refl 1) h1
 have hf : listF bytF 1 b = getL bytF b (lenF 1 b).1.toNat (lenF 1 b).2.1 [] := if_neg (fun h => h h1)
 obtain ⟨N, hN⟩ : ∃ N : Nat, (lenF 1 b).1 = (N : Int) := ⟨(lenF 1 b).1.toNat, by omega⟩
 obtain ⟨U, hU⟩ : ∃ U, U = (lenF 1 b).2.1 := ⟨_, rfl⟩
 rw [← hU] at g2 hf
 rw [hN] at g2
 rw [hN, Int.toNat_natCast] at hf
 simp only [↓eD, eZ, ↓reduceIte, Nat.reduceEqDiff, Nat.reduceAdd, Nat.reduceMul, reduceCtorEq, Nat.reduceLeDiff, Int.reduceLT, Int.reduceLE, Int.reduceToNat, Int.reduceEq, Nat.reduceLT, getV, d1, Bool.not_true, hN, ← hU, undef_eq]
 rw [ap_nil]
 refine loop_for (J := fun i e τ => i ≤ N ∧ ∃ (at_ : Nat) (v : Value) (acc : List ByteArray), e = [(0, .slice a b.length c), (5, .int .i64 (N : Int)), (6, .int .i64 (at_ : Int)), (8, v), (9, .int .i64 (i : Int))] ∧ Old σ τ ∧ at_ ≤ b.length ∧ acc.length = i ∧ Grown σ τ 1 v (acc.map Value.string) acc.length ∧ getL bytF b (N - i) at_ acc = getL bytF b N U []) N
  ⟨by omega, U, _, [], rfl, Old.refl, by omega, rfl, .nil, rfl⟩ ?_
 rintro i e τ hi ⟨_, at_, v, acc, rfl, ho, hat, hacc, hg, hloop⟩
 rw [← ap_nil (σ := τ)]
 by_cases hlt : i < N
 ·have dl : decide ((i : Int) < (N : Int)) = true := by rw [decide_eq_true]; omega
  have hw1 : IntKind.wrap .i64 ((i:Int) + 1) = ((i + 1 : Nat) : Int) := by rw [wrap64' (by omega) (by omega)]; omega
  obtain ⟨v', hs, hv, _⟩ := whl_suf (lo := at_) ((hw.Old ho).Old (Old.ap (l := []))) hat
  rw [Nat.mul_one, digC_drop, ← List.length_drop] at hv
  have hused := bytF_used (b := b.drop at_)
  rw [List.length_drop] at hused
  have hstep : getL bytF b (N - i) at_ acc = if (bytF (b.drop at_)).2.2 ≠ 0 then ([], 0, (bytF (b.drop at_)).2.2) else getL bytF b (N - (i + 1)) (at_ + (bytF (b.drop at_)).2.1) (acc ++ [(bytF (b.drop at_)).1]) := by
   rw [show N - i = (N - (i + 1)) + 1 by omega, getL]
  simp only [↓eD, eZ, ↓reduceIte, Nat.reduceEqDiff, Nat.reduceAdd, Nat.reduceMul, reduceCtorEq, Nat.reduceLeDiff, Int.reduceLT, Int.reduceLE, Int.reduceToNat, Int.reduceEq, Nat.reduceLT, dl, hs, undef_eq]
  refine appK_at (rgetb_app hv (byt_drop hb) (by rw [List.length_drop]; omega)) ?_
  generalize bytF (b.drop at_) = r at hused hstep
  by_cases he : r.2.2 = 0
  case neg =>
   have d2 : decide (r.2.2 = 0) = false := decide_eq_false he
   have hf2 : listF bytF 1 b = ([], 0, r.2.2) := by rw [hf, ← hloop, hstep, if_pos he]
   simp only [↓eD, eZ, ↓reduceIte, Nat.reduceEqDiff, Nat.reduceAdd, Nat.reduceMul, reduceCtorEq, Nat.reduceLeDiff, Int.reduceLT, Int.reduceLE, Int.reduceToNat, Int.reduceEq, Nat.reduceLT, strV, d2, Bool.not_false, hf2, undef_eq]
   first | exact ⟨ho.trans .ap, _, rfl, Grown.nil⟩ | exact ⟨ho.trans .ap, Grown.nil⟩
  have d2 : decide (r.2.2 = 0) = true := decide_eq_true he
  rw [if_neg (fun h => h he)] at hstep
  have hw2 : IntKind.wrap .i64 ((at_ : Int) + (r.2.1 : Int)) = ((at_ + r.2.1 : Nat) : Int) := by rw [wrap64' (by omega) (by omega)]; omega
  have xc : xcells (ap τ [.cells 0 [Value.string r.1] (0, 0)]) 1 (.slice (some ⟨τ.size, 0, none⟩) 1 1) = some (1, [Value.string r.1]) := by
   show (rdN (ap τ _) ⟨τ.size, 0, none⟩ (1 * 1)).map (1, ·) = _
   rw [rdN_all (n := 1 * 1) (by rw [ap_new0]; rfl) rfl]
   rfl
  obtain ⟨v2, τ2, ha, hA⟩ := append_grown (bytes := 16) (hg.old (Old.ap (l := [.cells 0 [Value.string r.1] (0, 0)]))) (by omega) (by have := ho.1; simp [ap_size]; omega) xc rfl rfl (by omega) (by omega)
  simp only [↓eD, eZ, ↓reduceIte, Nat.reduceEqDiff, Nat.reduceAdd, Nat.reduceMul, reduceCtorEq, Nat.reduceLeDiff, Int.reduceLT, Int.reduceLE, Int.reduceToNat, Int.reduceEq, Nat.reduceLT, strV, d2, Bool.not_true, undef_eq]
  refine onV_of ha ?_
  simp only [↓eD, eZ, ↓reduceIte, Nat.reduceEqDiff, Nat.reduceAdd, Nat.reduceMul, reduceCtorEq, Nat.reduceLeDiff, Int.reduceLT, Int.reduceLE, Int.reduceToNat, Int.reduceEq, Nat.reduceLT, hw1, hw2, undef_eq]
  refine ⟨hlt, by omega, at_ + r.2.1, v2, acc ++ [r.1], rfl, hA.Old (hg.old .ap) (ho.trans .ap), by omega, by simp [hacc], ?_, ?_⟩
  ·rw [List.map_append, List.length_append]; exact hA.grown
  ·rw [← hstep, hloop]
 ·have : i = N := by omega
  subst this
  have dl : decide ((i : Int) < (i : Int)) = false := by rw [decide_eq_false]; omega
  rw [Nat.sub_self, getL] at hloop
  rw [← hloop] at hf
  simp only [↓eD, eZ, ↓reduceIte, Nat.reduceEqDiff, Nat.reduceAdd, Nat.reduceMul, reduceCtorEq, Nat.reduceLeDiff, Int.reduceLT, Int.reduceLE, Int.reduceToNat, Int.reduceEq, Nat.reduceLT, dl, hf, undef_eq]
  first | exact ⟨ho.trans .ap, _, rfl, hg.old .ap⟩ | exact ⟨ho.trans .ap, hg.old .ap⟩
end Go.Proofs.YtajchhghjjlahaaDoor
