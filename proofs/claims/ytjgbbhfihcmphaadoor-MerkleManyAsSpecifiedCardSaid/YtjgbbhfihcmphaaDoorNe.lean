/- Walks of the functions that the claim reaches. Conditions: none. -/
import Derived.Test.YtjgbbhfihcmphaaDoorNd
set_option linter.all false
set_option maxRecDepth 10000
set_option maxHeartbeats 4000000
namespace Go.Proofs.YtjgbbhfihcmphaaDoor
open Go Go.Cn Go.RowKit
attribute [local irreducible] evL sem onG onI onV
def intC (n : Int) : List Value := [.int .i64 n]
structure Ps (σ : H) (v : Value) (L : List Int) : Prop where
 r : Row σ 1 v (L.map intC)
 c : CapOk 1 v
theorem Ps.Old {σ τ : H} {v : Value} {L : List Int} (h : Ps σ v L) (ho : Old σ τ) : Ps τ v L := ⟨h.r.Old ho, h.c⟩
theorem Ps.slice {σ : H} {v : Value} {L : List Int} (h : Ps σ v L) : ∃ a c, v = .slice a L.length c := by
 obtain ⟨b, cap, h1, _⟩ := h.r
 exact ⟨b, cap, by rw [h1, List.length_map]⟩
theorem Ps.at {σ : H} {a : Option Addr} {n c : Nat} {L : List Int} (h : Ps σ (.slice a n c) L) {i : Nat} (hi : i < L.length) : ∃ b o, a = some ⟨b, o, none⟩ ∧ rd1 σ ⟨b, o + i, none⟩ = some (.int .i64 L[i]) := by
 obtain ⟨b, o, h1, h2⟩ := h.r.at (i := i) (x := intC L[i]) (by simp [hi])
 have := rd1_row h2 (j := 0) (v := .int .i64 L[i]) rfl
 rw [Nat.mul_one, Nat.add_zero] at this
 exact ⟨b, o, h1, this⟩
theorem Ps.sub {σ : H} {v : Value} {L : List Int} {lo hi : Nat} {xl xh xm : Option Value} (h : Ps σ v L) (h1 : lo ≤ hi) (h2 : hi ≤ L.length) (hb : hi < big)
  (hl : xl = some (.int .i64 (lo : Int)) ∨ (xl = none ∧ lo = 0)) (hh : xh = some (.int .i64 (hi : Int)) ∨ (xh = none ∧ hi = L.length ∧ xm = none)) (hm : xm = none ∨ xm = some (.int .i64 (hi : Int))) :
  ∃ v', sliceV 1 v xl xh xm = some v' ∧ Ps σ v' ((L.take hi).drop lo) ∧ ∀ q, baseOf v' = some q → baseOf v = some q := by
 obtain ⟨a, c, rfl⟩ := h.slice
 obtain ⟨hc1, hc2⟩ := h.c.slice
 obtain ⟨m, hm1, hm2, hm3⟩ : ∃ m, bnd xm c (capLow c) = some m ∧ hi ≤ capLow m ∧ (csz m = 0 ∨ csz m = 1) := by
  rcases hm with rfl | rfl
  ·exact ⟨c, rfl, by omega, hc2⟩
  ·exact ⟨hi, bnd_nat (by omega), by rw [capLow_small hb]; exact Nat.le_refl _, .inl (csz_small hb)⟩
 have e2 : bnd xh L.length (capLow m) = some hi := by
  rcases hh with rfl | ⟨rfl, rfl, rfl⟩
  ·exact bnd_nat hm2
  ·rfl
 have e3 : bnd xl 0 hi = some lo := by
  rcases hl with rfl | ⟨rfl, rfl⟩
  ·exact bnd_nat h1
  ·rfl
 have eb : bnds L.length c xl xh xm = some (lo, hi, m) := by
  unfold bnds
  have : ¬(∃ y, xm = some y ∧ xh = none) := by
   rintro ⟨y, hy, hz⟩
   rcases hh with rfl | ⟨_, _, h9⟩
   ·cases hz
   ·rw [h9] at hy; cases hy
  split
  ·exact absurd ⟨_, rfl, rfl⟩ this
  ·simp only [hm1, e2, e3]
 obtain ⟨g1, g2⟩ := cap_sub (c := m) (l := lo) (by omega)
 have hll : ((L.take hi).drop lo).length = hi - lo := by rw [List.length_drop, List.length_take]; omega
 refine ⟨.slice (a.map fun a => ⟨a.block, a.off + lo * 1, none⟩) (hi - lo) (m - lo), ?_, ⟨?_, ⟨_, _, _, rfl, by omega, by rw [g2]; exact hm3⟩⟩, fun q hq => ?_⟩
 ·unfold sliceV
  simp only
  rw [if_pos hc2, eb]
 ·refine ⟨a.map fun a => ⟨a.block, a.off + lo * 1, none⟩, m - lo, by rw [List.length_map, hll], fun i x hx => ?_⟩
  have hi' : i < hi - lo := by have := (List.getElem?_eq_some_iff.1 hx).1; rw [List.length_map, hll] at this; exact this
  have hx' : (L.map intC)[lo + i]? = some x := by
   rw [List.map_drop, List.map_take, List.getElem?_drop, List.getElem?_take, if_pos (by omega)] at hx
   exact hx
  obtain ⟨b, o, rfl, hr⟩ := h.r.at hx'
  refine ⟨b, o + lo * 1, rfl, ?_⟩
  rw [show o + lo * 1 + i * 1 = o + (lo + i) * 1 by omega]
  exact hr
 ·cases a with
  |none => cases hq
  |some p => exact hq
def ascF (n : Int) : Int → List Int → Bool
 |_, [] => true
 |last, p :: r => if p ≤ last ∨ n ≤ p then false else ascF n p r
theorem asc_app {σ : H} {v : Value} {P : List Int} {n : Int} (hP : Ps σ v P) (hn : P.length < 1000000) :
  App Tryd.prog (.func 42) #[] #[v, .int .i64 n] σ fun w σ' => σ' = σ ∧ w = .bool (ascF n (-1) P) := by
 refine App.forget (App.of_sem mixed Tryd.func42 t42 k42 r42 (Nat.le_of_ble_eq_true rfl) ?_)
 obtain ⟨a, c, rfl⟩ := hP.slice
 unfold s42
 simp only [↓eD, eZ, ↓reduceIte, Nat.reduceEqDiff, Nat.reduceAdd, Nat.reduceMul, reduceCtorEq, Nat.reduceLeDiff, Int.reduceLT, Int.reduceLE, Int.reduceToNat, Int.reduceEq, Nat.reduceLT, undef_eq]
 refine loop_for (J := fun i e τ => Old σ τ ∧ i ≤ P.length ∧ ∃ l : Int, e = [(1, .int .i64 n), (5, .int .i64 l), (8, .slice a P.length c), (9, .int .i64 (P.length : Int)), (10, .int .i64 (i : Int))] ∧ ascF n l (P.drop i) = ascF n (-1) P) P.length ⟨Old.refl, by omega, -1, rfl, rfl⟩ ?_
 rintro i e τ hi ⟨o, _, l, rfl, hl⟩
 by_cases h0 : i < P.length
 ·have d0 : decide ((i : Int) < (P.length : Int)) = true := by rw [decide_eq_true]; omega
  have hb : (0 : Int) ≤ (i : Int) ∧ (i : Int) < (P.length : Int) := by omega
  have hw : IntKind.wrap .i64 ((i : Int) + 1) = ((i + 1 : Nat) : Int) := by rw [wrap64' (by omega) (by omega)]; omega
  obtain ⟨ab, ao, rfl, hr⟩ := (hP.Old o).at h0
  rw [List.drop_eq_getElem_cons h0, ascF] at hl
  generalize P[i] = p at hr hl
  by_cases g1 : p ≤ l
  ·have e1 : decide (p ≤ l) = true := decide_eq_true g1
   rw [if_pos (.inl g1)] at hl
   simp only [↓eD, eZ, ↓reduceIte, Nat.reduceEqDiff, Nat.reduceAdd, Nat.reduceMul, reduceCtorEq, Nat.reduceLeDiff, Int.reduceLT, Int.reduceLE, Int.reduceToNat, Int.reduceEq, Nat.reduceLT, d0, hb, Int.toNat_natCast, hr, e1, undef_eq]
   rw [← hl]
   first | exact ⟨o, rfl, rfl⟩ | exact ⟨o, by simp [flat], rfl⟩ | exact ⟨o, rfl⟩ | exact ⟨o, by simp [flat]⟩
  have e1 : decide (p ≤ l) = false := decide_eq_false g1
  by_cases g2 : n ≤ p
  ·have e2 : decide (n ≤ p) = true := decide_eq_true g2
   rw [if_pos (.inr g2)] at hl
   simp only [↓eD, eZ, ↓reduceIte, Nat.reduceEqDiff, Nat.reduceAdd, Nat.reduceMul, reduceCtorEq, Nat.reduceLeDiff, Int.reduceLT, Int.reduceLE, Int.reduceToNat, Int.reduceEq, Nat.reduceLT, d0, hb, Int.toNat_natCast, hr, e1, e2, undef_eq]
   rw [← hl]
   first | exact ⟨o, rfl, rfl⟩ | exact ⟨o, by simp [flat], rfl⟩ | exact ⟨o, rfl⟩ | exact ⟨o, by simp [flat]⟩
  have e2 : decide (n ≤ p) = false := decide_eq_false g2
  rw [if_neg (by omega)] at hl
  simp only [↓eD, eZ, ↓reduceIte, Nat.reduceEqDiff, Nat.reduceAdd, Nat.reduceMul, reduceCtorEq, Nat.reduceLeDiff, Int.reduceLT, Int.reduceLE, Int.reduceToNat, Int.reduceEq, Nat.reduceLT, d0, hb, Int.toNat_natCast, hr, e1, e2, hw, undef_eq]
  exact ⟨h0, o, by omega, p, rfl, hl⟩
 ·have d0 : decide ((i : Int) < (P.length : Int)) = false := by rw [decide_eq_false]; omega
  have : i = P.length := by omega
  subst this
  rw [List.drop_length, ascF] at hl
  simp only [↓eD, eZ, ↓reduceIte, Nat.reduceEqDiff, Nat.reduceAdd, Nat.reduceMul, reduceCtorEq, Nat.reduceLeDiff, Int.reduceLT, Int.reduceLE, Int.reduceToNat, Int.reduceEq, Nat.reduceLT, d0, undef_eq]
  rw [← hl]
  first | exact ⟨o, rfl, rfl⟩ | exact ⟨o, by simp [flat], rfl⟩ | exact ⟨o, rfl⟩ | exact ⟨o, by simp [flat]⟩
theorem isnan_app {σ : H} {x : Int} : App Tryd.prog (.func 90) #[] #[.int .i64 x] σ fun w σ' => σ' = σ ∧ w = .bool false := by
 refine App.of_sem mixed Tryd.func90 t90 k90 r90 (Nat.le_of_ble_eq_true rfl) ?_
 unfold s90
 simp [↓eD, eZ, ↓reduceIte, Nat.reduceEqDiff, Nat.reduceAdd, Nat.reduceMul, reduceCtorEq, Nat.reduceLeDiff, Int.reduceLT, Int.reduceLE, Int.reduceToNat, Int.reduceEq, Nat.reduceLT, undef_eq]
theorem snan_app {σ : H} {x : Int} : App Tryd.prog (.func 81) #[] #[.int .i64 x] σ fun w σ' => σ' = σ ∧ w = .bool false := by
 refine App.of_sem mixed Tryd.func81 t81 k81 r81 (Nat.le_of_ble_eq_true rfl) ?_
 unfold s81
 simp [↓eD, eZ, ↓reduceIte, Nat.reduceEqDiff, Nat.reduceAdd, Nat.reduceMul, reduceCtorEq, Nat.reduceLeDiff, Int.reduceLT, Int.reduceLE, Int.reduceToNat, Int.reduceEq, Nat.reduceLT, undef_eq]
theorem less_app {σ : H} {x y : Int} : App Tryd.prog (.func 80) #[] #[.int .i64 x, .int .i64 y] σ fun w σ' => σ' = σ ∧ w = .bool (decide (x < y)) := by
 refine App.of_sem mixed Tryd.func80 t80 k80 r80 (Nat.le_of_ble_eq_true rfl) ?_
 unfold s80
 simp only [↓eD, eZ, ↓reduceIte, Nat.reduceEqDiff, Nat.reduceAdd, Nat.reduceMul, reduceCtorEq, Nat.reduceLeDiff, Int.reduceLT, Int.reduceLE, Int.reduceToNat, Int.reduceEq, Nat.reduceLT, undef_eq]
 refine appK_at isnan_app ?_
 simp only [↓eD, eZ, ↓reduceIte, Nat.reduceEqDiff, Nat.reduceAdd, Nat.reduceMul, reduceCtorEq, Nat.reduceLeDiff, Int.reduceLT, Int.reduceLE, Int.reduceToNat, Int.reduceEq, Nat.reduceLT, undef_eq]
def cutK (P : List Int) (t : Int) : Nat := (P.takeWhile fun p => decide (p < t)).length
theorem cutK_le {P : List Int} {t : Int} : cutK P t ≤ P.length := (List.takeWhile_prefix _).length_le
theorem cutK_uniq {t : Int} : ∀ {P : List Int} {k : Nat} (hk : k ≤ P.length), (∀ i (h : i < P.length), i < k → P[i] < t) → (∀ (h : k < P.length), t ≤ P[k]) → cutK P t = k
 |[], k, hk, _, _ => by simp [cutK] at hk ⊢; omega
 |p :: r, 0, hk, h1, h2 => by
  have := h2 (by simp)
  simp only [List.getElem_cons_zero] at this
  unfold cutK
  rw [List.takeWhile_cons, if_neg (by simp; omega)]
  rfl
 |p :: r, k + 1, hk, h1, h2 => by
  have h3 := h1 0 (by simp) (by omega)
  simp only [List.getElem_cons_zero] at h3
  have ih := cutK_uniq (t := t) (P := r) (k := k) (by simpa using hk) (fun i h hi => h1 (i + 1) (by simp; omega) (by omega)) (fun h => h2 (by simp; omega))
  unfold cutK at ih ⊢
  rw [List.takeWhile_cons, if_pos (by simp; omega), List.length_cons, ih]
def Asc (P : List Int) : Prop := P.Pairwise (· < ·)
theorem search_app {σ : H} {v : Value} {P : List Int} {t : Int} (hP : Ps σ v P) (hn : P.length < 1000000) (ha : Asc P) :
  App Tryd.prog (.func 67) #[] #[v, .int .i64 t] σ fun w σ' => σ' = σ ∧ ∃ b, w = .tuple #[.int .i64 (cutK P t : Int), .bool b] := by
 refine App.of_sem mixed Tryd.func67 t67 k67 r67 (Nat.le_of_ble_eq_true rfl) ?_
 obtain ⟨a, c, rfl⟩ := hP.slice
 unfold s67
 simp only [↓eD, eZ, ↓reduceIte, Nat.reduceEqDiff, Nat.reduceAdd, Nat.reduceMul, reduceCtorEq, Nat.reduceLeDiff, Int.reduceLT, Int.reduceLE, Int.reduceToNat, Int.reduceEq, Nat.reduceLT, undef_eq]
 have hlt : ∀ i j (h : i < P.length) (h' : j < P.length), i < j → P[i] < P[j] := fun i j h h' hij => List.pairwise_iff_getElem.1 ha i j h h' hij
 refine loop_for (J := fun i e τ => τ = σ ∧ ∃ lo hi : Nat, lo ≤ hi ∧ hi ≤ P.length ∧ hi - lo + i ≤ P.length ∧ e = [(0, .slice a P.length c), (1, .int .i64 t), (6, .int .i64 (P.length : Int)), (7, .int .i64 (lo : Int)), (8, .int .i64 (hi : Int))] ∧ (∀ j (h : j < P.length), j < lo → P[j] < t) ∧ (∀ j (h : j < P.length), hi ≤ j → t ≤ P[j])) P.length
  ⟨rfl, 0, P.length, by omega, by omega, by omega, rfl, fun j h h1 => by omega, fun j h h1 => by omega⟩ ?_
 rintro i e _ hi ⟨rfl, lo, h, h1, h2, h3, rfl, hA, hB⟩
 by_cases h0 : lo < h
 ·have d0 : decide ((lo : Int) < (h : Int)) = true := by rw [decide_eq_true]; omega
  have w1 : IntKind.wrap .u64 (IntKind.wrap .i64 ((lo : Int) + (h : Int))) = ((lo + h : Nat) : Int) := by
   rw [wrap64' (by omega) (by omega), wrap_u64 (by omega) (by omega)]; omega
  have w2 : ((lo + h : Nat) : Int).fdiv (2 ^ (min 1 (IntKind.bits .u64))) = (((lo + h) / 2 : Nat) : Int) := by rw [shr_nat (by decide), Nat.shiftRight_eq_div_pow]
  have w3 : IntKind.wrap .i64 (((lo + h) / 2 : Nat) : Int) = (((lo + h) / 2 : Nat) : Int) := wrap64' (by omega) (by omega)
  obtain ⟨m, hm⟩ : ∃ m, m = (lo + h) / 2 := ⟨_, rfl⟩
  rw [← hm] at w2 w3
  have hb : (0 : Int) ≤ (m : Int) ∧ (m : Int) < (P.length : Int) := by omega
  have w4 : IntKind.wrap .i64 ((m : Int) + 1) = ((m + 1 : Nat) : Int) := by rw [wrap64' (by omega) (by omega)]; omega
  obtain ⟨ab, ao, rfl, hr⟩ := hP.at (i := m) (by omega)
  simp only [↓eD, eZ, ↓reduceIte, Nat.reduceEqDiff, Nat.reduceAdd, Nat.reduceMul, reduceCtorEq, Nat.reduceLeDiff, Int.reduceLT, Int.reduceLE, Int.reduceToNat, Int.reduceEq, Nat.reduceLT, d0, w1, w2, w3, hb, Int.toNat_natCast, hr, undef_eq]
  refine appK_at less_app ?_
  by_cases g : P[m]'(by omega) < t
  ·have dg : decide (P[m]'(by omega) < t) = true := decide_eq_true g
   simp only [↓eD, eZ, ↓reduceIte, Nat.reduceEqDiff, Nat.reduceAdd, Nat.reduceMul, reduceCtorEq, Nat.reduceLeDiff, Int.reduceLT, Int.reduceLE, Int.reduceToNat, Int.reduceEq, Nat.reduceLT, dg, w4, undef_eq]
   refine ⟨by omega, m + 1, h, by omega, by omega, by omega, rfl, fun j hj hjm => ?_, hB⟩
   rcases Nat.lt_or_ge j m with h9 | h9
   ·have := hlt j m hj (by omega) h9; omega
   ·have : j = m := by omega
    subst this; exact g
  ·have dg : decide (P[m]'(by omega) < t) = false := decide_eq_false g
   simp only [↓eD, eZ, ↓reduceIte, Nat.reduceEqDiff, Nat.reduceAdd, Nat.reduceMul, reduceCtorEq, Nat.reduceLeDiff, Int.reduceLT, Int.reduceLE, Int.reduceToNat, Int.reduceEq, Nat.reduceLT, dg, undef_eq]
   refine ⟨by omega, lo, m, by omega, by omega, by omega, rfl, hA, fun j hj hjm => ?_⟩
   rcases Nat.lt_or_ge m j with h9 | h9
   ·have := hlt m j (by omega) hj h9; omega
   ·have : j = m := by omega
    subst this; omega
 ·have d0 : decide ((lo : Int) < (h : Int)) = false := by rw [decide_eq_false]; omega
  have e : lo = h := by omega
  subst e
  have hcut : cutK P t = lo := cutK_uniq h2 (fun j hj h9 => hA j hj h9) (fun hj => hB lo hj (Nat.le_refl _))
  rw [hcut]
  by_cases g1 : lo < P.length
  ·have d1 : decide ((lo : Int) < (P.length : Int)) = true := by rw [decide_eq_true]; omega
   have hb : (0 : Int) ≤ (lo : Int) ∧ (lo : Int) < (P.length : Int) := by omega
   obtain ⟨ab, ao, rfl, hr⟩ := hP.at (i := lo) g1
   by_cases g2 : P[lo] = t
   ·have d2 : decide (P[lo] = t) = true := decide_eq_true g2
    simp only [↓eD, eZ, ↓reduceIte, Nat.reduceEqDiff, Nat.reduceAdd, Nat.reduceMul, reduceCtorEq, Nat.reduceLeDiff, Int.reduceLT, Int.reduceLE, Int.reduceToNat, Int.reduceEq, Nat.reduceLT, d0, d1, d2, hb, Int.toNat_natCast, hr, undef_eq]
    exact ⟨_, rfl⟩
   ·have d2 : decide (P[lo] = t) = false := decide_eq_false g2
    simp only [↓eD, eZ, ↓reduceIte, Nat.reduceEqDiff, Nat.reduceAdd, Nat.reduceMul, reduceCtorEq, Nat.reduceLeDiff, Int.reduceLT, Int.reduceLE, Int.reduceToNat, Int.reduceEq, Nat.reduceLT, d0, d1, d2, hb, Int.toNat_natCast, hr, undef_eq]
    refine appK_at snan_app ?_
    simp only [↓eD, eZ, ↓reduceIte, Nat.reduceEqDiff, Nat.reduceAdd, Nat.reduceMul, reduceCtorEq, Nat.reduceLeDiff, Int.reduceLT, Int.reduceLE, Int.reduceToNat, Int.reduceEq, Nat.reduceLT, undef_eq]
    exact ⟨_, rfl⟩
  ·have d1 : decide ((lo : Int) < (P.length : Int)) = false := by rw [decide_eq_false]; omega
   simp only [↓eD, eZ, ↓reduceIte, Nat.reduceEqDiff, Nat.reduceAdd, Nat.reduceMul, reduceCtorEq, Nat.reduceLeDiff, Int.reduceLT, Int.reduceLE, Int.reduceToNat, Int.reduceEq, Nat.reduceLT, d0, d1, undef_eq]
   exact ⟨_, rfl⟩
theorem cut_app {σ : H} {v : Value} {P : List Int} {t : Int} (hP : Ps σ v P) (hn : P.length < 1000000) (ha : Asc P) :
  App Tryd.prog (.func 44) #[] #[v, .int .i64 t] σ fun w σ' => σ' = σ ∧ ∃ u1 u2, w = .tuple #[u1, u2] ∧ ∀ θ, Ps θ v P → Ps θ u1 (P.take (cutK P t)) ∧ Ps θ u2 (P.drop (cutK P t)) := by
 refine App.of_sem mixed Tryd.func44 t44 k44 r44 (Nat.le_of_ble_eq_true rfl) ?_
 obtain ⟨a, c, rfl⟩ := hP.slice
 unfold s44
 simp only [↓eD, eZ, ↓reduceIte, Nat.reduceEqDiff, Nat.reduceAdd, Nat.reduceMul, reduceCtorEq, Nat.reduceLeDiff, Int.reduceLT, Int.reduceLE, Int.reduceToNat, Int.reduceEq, Nat.reduceLT, undef_eq]
 refine appK_of (search_app hP hn ha) ?_
 rintro _ _ ⟨rfl, b, rfl⟩
 have hk := cutK_le (P := P) (t := t)
 generalize cutK P t = k at hk ⊢
 have hbig : P.length < big := Nat.lt_trans hn (by decide)
 obtain ⟨v1, s1, L1, _⟩ := hP.sub (lo := 0) (hi := k) (xl := none) (xh := some (.int .i64 (k : Int))) (xm := some (.int .i64 (k : Int))) (by omega) (by omega) (by omega) (.inr ⟨rfl, rfl⟩) (.inl rfl) (.inr rfl)
 obtain ⟨v2, s2, L2, _⟩ := hP.sub (lo := k) (hi := P.length) (xl := some (.int .i64 (k : Int))) (xh := none) (xm := none) (by omega) (by omega) (by omega) (.inl rfl) (.inr ⟨rfl, rfl, rfl⟩) (.inl rfl)
 rw [List.drop_zero] at L1
 rw [List.take_length] at L2
 simp only [↓eD, eZ, ↓reduceIte, Nat.reduceEqDiff, Nat.reduceAdd, Nat.reduceMul, reduceCtorEq, Nat.reduceLeDiff, Int.reduceLT, Int.reduceLE, Int.reduceToNat, Int.reduceEq, Nat.reduceLT, s1, s2, undef_eq]
 refine ⟨v1, v2, rfl, fun θ hθ => ?_⟩
 obtain ⟨w1, t1, M1, _⟩ := hθ.sub (lo := 0) (hi := k) (xl := none) (xh := some (.int .i64 (k : Int))) (xm := some (.int .i64 (k : Int))) (by omega) (by omega) (by omega) (.inr ⟨rfl, rfl⟩) (.inl rfl) (.inr rfl)
 obtain ⟨w2, t2, M2, _⟩ := hθ.sub (lo := k) (hi := P.length) (xl := some (.int .i64 (k : Int))) (xh := none) (xm := none) (by omega) (by omega) (by omega) (.inl rfl) (.inr ⟨rfl, rfl, rfl⟩) (.inl rfl)
 rw [List.drop_zero] at M1
 rw [List.take_length] at M2
 rw [s1] at t1
 rw [s2] at t2
 injection t1 with t1
 injection t2 with t2
 rw [t1, t2]
 exact ⟨M1, M2⟩
def manyF (L : List (List Int)) (fr : Int) (P : List Int) : List (List Int) :=
 if P = [] then [rootF L]
 else if h1 : L.length ≤ 1 then []
 else manyF (L.take (splitN L.length)) fr (P.take (cutK P (fr + (splitN L.length : Int)))) ++ manyF (L.drop (splitN L.length)) (fr + (splitN L.length : Int)) (P.drop (cutK P (fr + (splitN L.length : Int))))
termination_by L.length
decreasing_by
 ·rw [List.length_take]; have := splitN_spec (n := L.length) (by omega); omega
 ·rw [List.length_drop]; have := splitN_spec (n := L.length) (by omega); omega
theorem manyF_len : ∀ {N : Nat} {L : List (List Int)} {fr : Int} {P : List Int}, L.length ≤ N → 0 < L.length → (manyF L fr P).length ≤ L.length
 |0, L, fr, P, h, h0 => by omega
 |N + 1, L, fr, P, h, h0 => by
  rw [manyF]
  split
  ·simp; omega
  ·split
   ·simp
   ·have hs := splitN_spec (n := L.length) (by omega)
    have h1 := manyF_len (N := N) (L := L.take (splitN L.length)) (fr := fr) (P := P.take (cutK P (fr + (splitN L.length : Int)))) (by rw [List.length_take]; omega) (by rw [List.length_take]; omega)
    have h2 := manyF_len (N := N) (L := L.drop (splitN L.length)) (fr := fr + (splitN L.length : Int)) (P := P.drop (cutK P (fr + (splitN L.length : Int)))) (by rw [List.length_drop]; omega) (by rw [List.length_drop]; omega)
    rw [List.length_append]
    rw [List.length_take] at h1
    rw [List.length_drop] at h2
    omega
theorem manyF_dig : ∀ {N : Nat} {L : List (List Int)} {fr : Int} {P : List Int}, L.length ≤ N → (∀ d ∈ L, d.length = 16) → ∀ d ∈ manyF L fr P, d.length = 16
 |0, L, fr, P, h, hd => by
  rw [manyF]
  intro d h9
  split at h9
  ·rw [List.mem_singleton] at h9; rw [h9]; exact rootF_len hd
  ·rw [dif_pos (by omega)] at h9; cases h9
 |N + 1, L, fr, P, h, hd => by
  rw [manyF]
  intro d h9
  split at h9
  ·rw [List.mem_singleton] at h9; rw [h9]; exact rootF_len hd
  ·split at h9
   ·cases h9
   ·have hs := splitN_spec (n := L.length) (by omega)
    rcases List.mem_append.1 h9 with h9 | h9
    ·exact manyF_dig (N := N) (by rw [List.length_take]; omega) (fun d h => hd d (List.mem_of_mem_take h)) d h9
    ·exact manyF_dig (N := N) (by rw [List.length_drop]; omega) (fun d h => hd d (List.mem_of_mem_drop h)) d h9
theorem Asc.take {P : List Int} {k : Nat} (h : Asc P) : Asc (P.take k) := List.Pairwise.sublist (List.take_sublist _ _) h
theorem Asc.drop {P : List Int} {k : Nat} (h : Asc P) : Asc (P.drop k) := List.Pairwise.sublist (List.drop_sublist _ _) h
theorem many1_app {σ0 : H} {bp bo n0 : Nat} (hG : HGlob σ0) : ∀ (N : Nat) (σ : H) (v u : Value) (L : List (List Int)) (fr : Nat) (Q : List Int) (P : List (List Int)), L.length ≤ N → 0 < L.length → L.length ≤ 1000 → fr + L.length ≤ 100000 → Q.length < 100000 → Asc Q → P.length + L.length < 100000 → Ls σ0 v L → Ps σ0 u Q →
  Inc σ0 σ bp bo n0 (.func (.func 43) #[] #[.pointer (some ⟨bo, 0, none⟩), .pointer (some ⟨bp, 0, none⟩)]) P →
  App Tryd.prog (.func 43) #[.pointer (some ⟨bo, 0, none⟩), .pointer (some ⟨bp, 0, none⟩)] #[v, .int .i64 (fr : Int), u] σ fun w σ' => w = .tuple #[] ∧ σ.size ≤ σ'.size ∧
   Inc σ0 σ' bp bo n0 (.func (.func 43) #[] #[.pointer (some ⟨bo, 0, none⟩), .pointer (some ⟨bp, 0, none⟩)]) (P ++ manyF L fr Q) := by
 intro N
 induction N with
 |zero => intro σ v u L fr Q P h1 h2; omega
 |succ N ih =>
  intro σ v u L fr Q P hN hpos hn hfr hQ hA hPN hL hU hI
  refine App.of_sem mixed Tryd.func43 t43 k43 r43 (Nat.le_of_ble_eq_true rfl) ?_
  obtain ⟨a, c, rfl⟩ := hL.slice
  obtain ⟨ua, uc, rfl⟩ := hU.slice
  unfold s43
  by_cases h0 : Q.length = 0
  ·have e1 : decide ((Q.length : Int) = 0) = true := by rw [decide_eq_true]; omega
   have hR : manyF L fr Q = [rootF L] := by rw [manyF, if_pos (List.eq_nil_of_length_eq_zero h0)]
   obtain ⟨ver, u, hb, hg⟩ := hI.o
   have ru : rd1 σ ⟨bo, 0, none⟩ = some u := rd1_of hb Old.refl (k := 0) rfl
   simp only [↓eD, eZ, ↓reduceIte, Nat.reduceEqDiff, Nat.reduceAdd, Nat.reduceMul, reduceCtorEq, Nat.reduceLeDiff, Int.reduceLT, Int.reduceLE, Int.reduceToNat, Int.reduceEq, Nat.reduceLT, e1, ru, undef_eq]
   refine appK_at (lroot_app (hL.Old hI.old) (by omega) (hG.Old hI.old)) ?_
   have D16 := rootF_len hL.d
   rw [hR]
   generalize rootF L = D at D16 ⊢
   obtain ⟨u', τ1, τ2, ha, hw, hu', hJ2, hsz⟩ := hI.push D16 (by omega) ru
   obtain ⟨l1, l2, l3, l4⟩ := dig_len D16
   rw [← ap_nil (σ := σ)]
   have ru' : ∀ M, rd1 (ap σ M) ⟨bo, 0, none⟩ = some u := fun M => rd1_old ru
   simp only [↓eD, eZ, ↓reduceIte, Nat.reduceEqDiff, Nat.reduceAdd, Nat.reduceMul, reduceCtorEq, Nat.reduceLeDiff, Int.reduceLT, Int.reduceLE, Int.reduceToNat, Int.reduceEq, Nat.reduceLT, ru', rep16, l1, l2, l3, l4, digC_one, undef_eq]
   refine onV_of ha ?_
   simp only [↓eD, eZ, ↓reduceIte, Nat.reduceEqDiff, Nat.reduceAdd, Nat.reduceMul, reduceCtorEq, Nat.reduceLeDiff, Int.reduceLT, Int.reduceLE, Int.reduceToNat, Int.reduceEq, Nat.reduceLT, hw, hu', undef_eq]
   exact ⟨hsz, hJ2⟩
  have e1 : decide ((Q.length : Int) = 0) = false := by rw [decide_eq_false]; omega
  have hQn : Q ≠ [] := fun h => h0 (by rw [h]; rfl)
  by_cases h1 : 1 < L.length
  case neg =>
   have e2 : decide (1 < (L.length : Int)) = false := by rw [decide_eq_false]; omega
   have hR : manyF L fr Q = [] := by rw [manyF, if_neg hQn, dif_pos (by omega)]
   simp only [↓eD, eZ, ↓reduceIte, Nat.reduceEqDiff, Nat.reduceAdd, Nat.reduceMul, reduceCtorEq, Nat.reduceLeDiff, Int.reduceLT, Int.reduceLE, Int.reduceToNat, Int.reduceEq, Nat.reduceLT, e1, e2, undef_eq]
   rw [hR, List.append_nil]
   first | exact ⟨Nat.le_refl _, hI⟩ | exact hI
  have e2 : decide (1 < (L.length : Int)) = true := by rw [decide_eq_true]; omega
  have hs := splitN_spec (n := L.length) (by omega)
  simp only [↓eD, eZ, ↓reduceIte, Nat.reduceEqDiff, Nat.reduceAdd, Nat.reduceMul, reduceCtorEq, Nat.reduceLeDiff, Int.reduceLT, Int.reduceLE, Int.reduceToNat, Int.reduceEq, Nat.reduceLT, e1, e2, undef_eq]
  refine appK_at (lsplit_app (by omega) (by omega)) ?_
  obtain ⟨k, hk⟩ : ∃ k, k = splitN L.length := ⟨_, rfl⟩
  rw [← hk] at hs ⊢
  have hR : manyF L fr Q = manyF (L.take k) fr (Q.take (cutK Q ((fr + k : Nat) : Int))) ++ manyF (L.drop k) ((fr + k : Nat) : Int) (Q.drop (cutK Q ((fr + k : Nat) : Int))) := by
   rw [manyF, if_neg hQn, dif_neg (by omega), ← hk, Int.natCast_add]
  obtain ⟨vp, hp⟩ := hI.p
  have rp : rd1 σ ⟨bp, 0, none⟩ = some (.func (.func 43) #[] #[.pointer (some ⟨bo, 0, none⟩), .pointer (some ⟨bp, 0, none⟩)]) := rd1_of hp Old.refl (k := 0) rfl
  have hbig : L.length < big := Nat.lt_of_le_of_lt hn (by decide)
  obtain ⟨v1, s1, L1, _⟩ := hL.sub (lo := 0) (hi := k) (xl := none) (xh := some (.int .i64 (k : Int))) (xm := some (.int .i64 (k : Int))) (by omega) (by omega) (by omega) (.inr ⟨rfl, rfl⟩) (.inl rfl) (.inr rfl)
  obtain ⟨v2, s2, L2, _⟩ := hL.sub (lo := k) (hi := L.length) (xl := some (.int .i64 (k : Int))) (xh := none) (xm := none) (by omega) (by omega) (by omega) (.inl rfl) (.inr ⟨rfl, rfl, rfl⟩) (.inl rfl)
  rw [List.drop_zero] at L1
  rw [List.take_length] at L2
  have hl1 : (L.take k).length = k := by rw [List.length_take]; omega
  have hl2 : (L.drop k).length = L.length - k := by rw [List.length_drop]
  have wf : IntKind.wrap .i64 ((fr : Int) + (k : Int)) = ((fr + k : Nat) : Int) := by rw [wrap64' (by omega) (by omega)]; omega
  rw [hR]
  simp only [↓eD, eZ, ↓reduceIte, Nat.reduceEqDiff, Nat.reduceAdd, Nat.reduceMul, reduceCtorEq, Nat.reduceLeDiff, Int.reduceLT, Int.reduceLE, Int.reduceToNat, Int.reduceEq, Nat.reduceLT, wf, undef_eq]
  refine appK_of (cut_app (hU.Old hI.old) (by omega) hA) ?_
  rintro _ _ ⟨rfl, u1, u2, rfl, hcut⟩
  obtain ⟨U1, U2⟩ := hcut _ hU
  have ck := cutK_le (P := Q) (t := ((fr + k : Nat) : Int))
  generalize cutK Q ((fr + k : Nat) : Int) = q at U1 U2 ck ⊢
  have m1 := manyF_len (N := k) (L := L.take k) (fr := (fr : Int)) (P := Q.take q) (by omega) (by omega)
  have hq1 : (Q.take q).length < 100000 := by rw [List.length_take]; omega
  have hq2 : (Q.drop q).length < 100000 := by rw [List.length_drop]; omega
  simp only [↓eD, eZ, ↓reduceIte, Nat.reduceEqDiff, Nat.reduceAdd, Nat.reduceMul, reduceCtorEq, Nat.reduceLeDiff, Int.reduceLT, Int.reduceLE, Int.reduceToNat, Int.reduceEq, Nat.reduceLT, rp, s1, undef_eq]
  refine appK_of (ih _ v1 u1 (L.take k) fr (Q.take q) P (by omega) (by omega) (by omega) (by omega) hq1 hA.take (by omega) L1 U1 hI) ?_
  rintro _ τ ⟨rfl, oτ, hJ⟩
  obtain ⟨vp2, hp2⟩ := hJ.p
  have rp2 : rd1 τ ⟨bp, 0, none⟩ = some (.func (.func 43) #[] #[.pointer (some ⟨bo, 0, none⟩), .pointer (some ⟨bp, 0, none⟩)]) := rd1_of hp2 Old.refl (k := 0) rfl
  simp only [↓eD, eZ, ↓reduceIte, Nat.reduceEqDiff, Nat.reduceAdd, Nat.reduceMul, reduceCtorEq, Nat.reduceLeDiff, Int.reduceLT, Int.reduceLE, Int.reduceToNat, Int.reduceEq, Nat.reduceLT, rp2, s2, wf, undef_eq]
  refine appK_of (ih τ v2 u2 (L.drop k) (fr + k) (Q.drop q) _ (by omega) (by omega) (by omega) (by omega) hq2 hA.drop (by rw [List.length_append]; omega) L2 U2 hJ) ?_
  rintro _ τ2 ⟨rfl, oτ2, hJ2⟩
  simp only [↓eD, eZ, ↓reduceIte, Nat.reduceEqDiff, Nat.reduceAdd, Nat.reduceMul, reduceCtorEq, Nat.reduceLeDiff, Int.reduceLT, Int.reduceLE, Int.reduceToNat, Int.reduceEq, Nat.reduceLT, undef_eq]
  rw [← List.append_assoc]
  exact ⟨Nat.le_trans oτ oτ2, hJ2⟩
def manyE (L : List (List Int)) (P : List Int) : Int := if ascF L.length (-1) P = true then 0 else 1
def manyP (L : List (List Int)) (P : List Int) : List (List Int) := if ascF L.length (-1) P = true then (if L.length = 0 then [] else manyF L 0 P) else []
theorem asc_of {n : Int} : ∀ {P : List Int} {l : Int}, ascF n l P = true → Asc P ∧ ∀ p ∈ P, l < p ∧ p < n
 |[], l, _ => ⟨List.Pairwise.nil, fun p h => by cases h⟩
 |p :: r, l, h => by
  rw [ascF] at h
  split at h
  ·cases h
  ·rename_i hc
   obtain ⟨h1, h2⟩ := asc_of h
   refine ⟨List.pairwise_cons.2 ⟨fun q hq => (h2 q hq).1, h1⟩, fun q hq => ?_⟩
   rcases List.mem_cons.1 hq with rfl | hq
   ·omega
   ·have := h2 q hq; omega
theorem lmany_app {σ : H} {v u : Value} {L : List (List Int)} {Q : List Int} (hL : Ls σ v L) (hU : Ps σ u Q) (hn : L.length ≤ 1000) (hQ : Q.length < 100000) (hG : HGlob σ) :
  App Tryd.prog (.func 21) #[] #[v, u] σ fun w σ' => Old σ σ' ∧ ∃ x, w = .tuple #[x, .int .i64 (manyE L Q)] ∧ Ls σ' x (manyP L Q) := by
 refine App.of_sem mixed Tryd.func21 t21 k21 r21 (Nat.le_of_ble_eq_true rfl) ?_
 obtain ⟨a, c, rfl⟩ := hL.slice
 obtain ⟨ua, uc, rfl⟩ := hU.slice
 unfold s21 manyE manyP
 simp only [↓eD, eZ, ↓reduceIte, Nat.reduceEqDiff, Nat.reduceAdd, Nat.reduceMul, reduceCtorEq, Nat.reduceLeDiff, Int.reduceLT, Int.reduceLE, Int.reduceToNat, Int.reduceEq, Nat.reduceLT, undef_eq]
 refine appK_at (asc_app hU (by omega)) ?_
 cases g1 : ascF (L.length : Int) (-1) Q with
 |false =>
  simp only [↓eD, eZ, ↓reduceIte, Nat.reduceEqDiff, Nat.reduceAdd, Nat.reduceMul, reduceCtorEq, Nat.reduceLeDiff, Int.reduceLT, Int.reduceLE, Int.reduceToNat, Int.reduceEq, Nat.reduceLT, Bool.not_false, undef_eq]
  exact ⟨Old.refl, _, rfl, ls_nil⟩
 |true =>
 rw [if_pos rfl, if_pos rfl]
 rw [← ap_nil (σ := σ)]
 by_cases g2 : L.length = 0
 ·have d2 : decide (0 < (L.length : Int)) = false := by rw [decide_eq_false]; omega
  rw [if_pos g2]
  simp only [↓eD, eZ, ↓reduceIte, Nat.reduceEqDiff, Nat.reduceAdd, Nat.reduceMul, reduceCtorEq, Nat.reduceLeDiff, Int.reduceLT, Int.reduceLE, Int.reduceToNat, Int.reduceEq, Nat.reduceLT, d2, Bool.not_true, undef_eq]
  exact ⟨by rw [ap_nil]; exact .ap, _, rfl, ls_nil⟩
 have d2 : decide (0 < (L.length : Int)) = true := by rw [decide_eq_true]; omega
 rw [if_neg g2]
 simp only [↓eD, eZ, ↓reduceIte, Nat.reduceEqDiff, Nat.reduceAdd, Nat.reduceMul, reduceCtorEq, Nat.reduceLeDiff, Int.reduceLT, Int.reduceLE, Int.reduceToNat, Int.reduceEq, Nat.reduceLT, d2, Bool.not_true, undef_eq]
 obtain ⟨T, hT⟩ : ∃ T, T = ap σ [.cells 0 [.slice none 0 0] (0, 0), .cells 1 [.func (.func 43) #[] #[.pointer (some ⟨σ.size, 0, none⟩), .pointer (some ⟨σ.size + 1, 0, none⟩)]] (0, 0)] := ⟨_, rfl⟩
 rw [← hT, ap_nil]
 have oT : Old σ T := by rw [hT]; exact .ap
 have sT : T.size = σ.size + 2 := by rw [hT]; simp [ap_size]
 have hI : Inc σ T (σ.size + 1) σ.size (σ.size + 2) (.func (.func 43) #[] #[.pointer (some ⟨σ.size, 0, none⟩), .pointer (some ⟨σ.size + 1, 0, none⟩)]) [] :=
  ⟨oT, by omega, by omega, by omega, by omega, by omega, by omega, ⟨1, by rw [hT, ap_new]; rfl⟩, ⟨0, _, by rw [hT, ap_new0]; rfl, Grown.nil⟩⟩
 clear hT
 refine appK_of (many1_app hG L.length T _ _ L 0 Q [] (Nat.le_refl _) (by omega) hn (by omega) hQ (asc_of g1).1 (by simp; omega) hL hU hI) ?_
 rintro _ τ ⟨rfl, oτ, hJ⟩
 rw [List.nil_append] at hJ
 obtain ⟨ver, u, hb, hg⟩ := hJ.o
 have ru : rd1 τ ⟨σ.size, 0, none⟩ = some u := rd1_of hb Old.refl (k := 0) rfl
 simp only [↓eD, eZ, ↓reduceIte, Nat.reduceEqDiff, Nat.reduceAdd, Nat.reduceMul, reduceCtorEq, Nat.reduceLeDiff, Int.reduceLT, Int.reduceLE, Int.reduceToNat, Int.reduceEq, Nat.reduceLT, ru, undef_eq]
 exact ⟨hJ.old, u, rfl, grown_ls hg (manyF_dig (Nat.le_refl _) hL.d)⟩
structure Pth (σ0 σ : H) (q : Nat) (L : List (List Int)) (sh : Bool) : Prop where
 old : Old σ0 σ
 hq : σ0.size ≤ q
 b : ∃ ver u, σ[q]? = some (.cells ver [u, .bool sh] (0, 0)) ∧ Ls σ0 u L
theorem Pth.lt {σ0 σ : H} {q : Nat} {L : List (List Int)} {sh : Bool} (h : Pth σ0 σ q L sh) : q < σ.size := by
 obtain ⟨_, _, h1, _⟩ := h.b
 exact (Array.getElem?_eq_some_iff.1 h1).1
theorem Pth.Old {σ0 σ τ : H} {q : Nat} {L : List (List Int)} {sh : Bool} (h : Pth σ0 σ q L sh) (ho : Old σ τ) : Pth σ0 τ q L sh := by
 obtain ⟨ver, u, h1, h2⟩ := h.b
 exact ⟨h.old.trans ho, h.hq, ver, u, (ho.2 _ h.lt).trans h1, h2⟩
theorem Pth.set {σ0 σ : H} {q b : Nat} {k : Blk} {L : List (List Int)} {sh : Bool} (h : Pth σ0 σ q L sh) (hb : σ0.size ≤ b) (hq : b ≠ q) : Pth σ0 (σ.setIfInBounds b k) q L sh := by
 obtain ⟨ver, u, h1, h2⟩ := h.b
 exact ⟨h.old.set hb, h.hq, ver, u, (get_set_ne hq).trans h1, h2⟩
theorem Pth.oldB {σ0 σ τ : H} {q p : Nat} {L : List (List Int)} {sh : Bool} (h : Pth σ0 σ q L sh) (ho : OldB p σ τ) (hp : σ0.size ≤ p) (hpq : p ≠ q) : Pth σ0 τ q L sh := by
 obtain ⟨ver, u, h1, h2⟩ := h.b
 exact ⟨ho.old h.old hp, h.hq, ver, u, (ho.2 _ h.lt (Ne.symm hpq)).trans h1, h2⟩
def zeroD : List Int := List.replicate 16 0
theorem zeroD_len : zeroD.length = 16 := rfl
theorem zeroD_C : digC zeroD = List.replicate 16 (.int .u8 0) := digC_rep.symm
def lastD (L : List (List Int)) : List Int := L.getLastD zeroD
def headD (L : List (List Int)) : List Int := L.headD zeroD
theorem lastD_len {L : List (List Int)} (h : ∀ d ∈ L, d.length = 16) : (lastD L).length = 16 := by
 unfold lastD
 rw [List.getLastD_eq_getLast?]
 cases hl : L.getLast? with
 |none => rfl
 |some d => exact h d (List.mem_of_getLast? hl)
theorem headD_len {L : List (List Int)} (h : ∀ d ∈ L, d.length = 16) : (headD L).length = 16 := by
 unfold headD
 cases L with
 |nil => rfl
 |cons d r => exact h d (by simp)
theorem last_app {σ0 σ : H} {q : Nat} {L : List (List Int)} {sh : Bool} (h : Pth σ0 σ q L sh) (hn : L.length ≤ 1000) :
  App Tryd.prog (.func 52) #[] #[.pointer (some ⟨q, 0, none⟩)] σ fun w σ' => w = .agg (digC (lastD L)).toArray ∧ Pth σ0 σ' q L.dropLast (sh || L.isEmpty) ∧ OldB q σ σ' := by
 refine App.of_sem mixed Tryd.func52 t52 k52 r52 (Nat.le_of_ble_eq_true rfl) ?_
 rw [← ap_nil (σ := σ)]
 unfold s52
 obtain ⟨ver, u, hb, hL⟩ := h.b
 obtain ⟨a, c, rfl⟩ := hL.slice
 have hq := h.lt
 have g0 : ∀ M, rd1 (ap σ M) ⟨q, 0, none⟩ = some (.slice a L.length c) := fun M => rd1_of hb .ap rfl
 simp only [↓eD, eZ, ↓reduceIte, Nat.reduceEqDiff, Nat.reduceAdd, Nat.reduceMul, reduceCtorEq, Nat.reduceLeDiff, Int.reduceLT, Int.reduceLE, Int.reduceToNat, Int.reduceEq, Nat.reduceLT, rep16, g0, undef_eq]
 obtain ⟨T, hT⟩ : ∃ T, T = ap σ [.cells 0 (List.replicate 16 (.int .u8 0)) (0, 0)] := ⟨_, rfl⟩
 rw [← hT]
 have oT : Old σ T := by rw [hT]; exact .ap
 have sT : T.size = σ.size + 1 := by rw [hT]; simp [ap_size]
 have z0 : T[σ.size]? = some (.cells 0 (List.replicate 16 (.int .u8 0)) (0, 0)) := by rw [hT, ap_new0]; rfl
 clear hT
 have zb := (oT.2 q hq).trans hb
 have z16 := zeroD_C
 have t16 : (List.replicate 16 (Value.int .u8 0)).take 16 = List.replicate 16 (Value.int .u8 0) := rfl
 by_cases h0 : L.length = 0
 ·have d0 : decide ((L.length : Int) = 0) = true := by rw [decide_eq_true]; omega
  have hLn := List.eq_nil_of_length_eq_zero h0
  subst hLn
  have k1 : wrN T ⟨q, 1, none⟩ [.bool true] = some (T.setIfInBounds q (.cells (ver + 1) [.slice a 0 c, .bool true] (0, 0))) := by
   rw [wrN_eq, if_neg (by simp), zb, wrc_cells, if_pos ⟨by simp, rfl⟩]
   rfl
  obtain ⟨w1, r1⟩ := dig_put (D := zeroD) zeroD_len (θ := T.setIfInBounds q (.cells (ver + 1) [.slice a 0 c, .bool true] (0, 0))) (b := σ.size) (ver := 0) ((get_set_ne (by omega)).trans z0)
  rw [z16] at w1 r1
  simp only [List.length_nil] at d0 ⊢
  simp only [↓eD, eZ, ↓reduceIte, Nat.reduceEqDiff, Nat.reduceAdd, Nat.reduceMul, reduceCtorEq, Nat.reduceLeDiff, Int.reduceLT, Int.reduceLE, Int.reduceToNat, Int.reduceEq, Nat.reduceLT, d0, k1, rep16, t16, w1, r1, undef_eq]
  rw [ap_nil]
  refine ⟨?_, ?_, ?_⟩
  ·show _ = Value.agg (digC zeroD).toArray
   rw [z16]
  ·refine ⟨((h.old.trans oT).set h.hq).set (by have := h.old.1; omega), h.hq, ver + 1, _, (get_set_ne (by omega)).trans ?_, hL⟩
   have : (sh || ([] : List (List Int)).isEmpty) = true := by simp
   rw [this]
   exact get_set zb
  ·exact ⟨by simp; omega, fun c h1 h2 => (get_set_ne (by omega)).trans ((get_set_ne (Ne.symm h2)).trans (oT.2 c h1))⟩
 have d0 : decide ((L.length : Int) = 0) = false := by rw [decide_eq_false]; omega
 have hw : IntKind.wrap .i64 ((L.length : Int) - 1) = ((L.length - 1 : Nat) : Int) := by rw [wrap64' (by omega) (by omega)]; omega
 have hbd : (0 : Int) ≤ ((L.length - 1 : Nat) : Int) ∧ ((L.length - 1 : Nat) : Int) < (L.length : Int) := by omega
 have hbig : L.length < big := Nat.lt_of_le_of_lt hn (by decide)
 obtain ⟨ab, ao, rfl, hr⟩ := hL.at (i := L.length - 1) (by omega)
 obtain ⟨v1, s1, L1, _⟩ := hL.sub (lo := 0) (hi := L.length - 1) (xl := none) (xh := some (.int .i64 ((L.length - 1 : Nat) : Int))) (xm := some (.int .i64 ((L.length - 1 : Nat) : Int))) (by omega) (by omega) (by omega) (.inr ⟨rfl, rfl⟩) (.inl rfl) (.inr rfl)
 rw [List.drop_zero, ← List.dropLast_eq_take] at L1
 have hlast : lastD L = L[L.length - 1]'(by omega) := by
  unfold lastD
  rw [List.getLastD_eq_getLast?, List.getLast?_eq_getElem?, List.getElem?_eq_getElem (by omega)]
  rfl
 have hne : (sh || L.isEmpty) = sh := by
  cases L with
  |nil => exact absurd rfl h0
  |cons _ _ => simp
 have D16 := hL.d (L[L.length - 1]'(by omega)) (List.getElem_mem _)
 rw [hlast, hne]
 generalize L[L.length - 1]'(by omega) = d at hr D16 ⊢
 obtain ⟨l1, l2, l3, l4⟩ := dig_len D16
 have hr' : ∀ M, rdN (ap T M) ⟨ab, ao + (L.length - 1) * 16, none⟩ 16 = some (digC d) := fun M => rdN_old (rdN_Old (h.old.trans oT) hr)
 have g0' : ∀ M, rd1 (ap T M) ⟨q, 0, none⟩ = some (.slice (some ⟨ab, ao, none⟩) L.length c) := fun M => rd1_of zb .ap rfl
 have o1 : v1.oneCell' = true := by obtain ⟨_, _, h9⟩ := L1.slice; rw [h9]; rfl
 obtain ⟨va, vc, rfl⟩ := L1.slice
 rw [← ap_nil (σ := T)]
 simp only [↓eD, eZ, ↓reduceIte, Nat.reduceEqDiff, Nat.reduceAdd, Nat.reduceMul, reduceCtorEq, Nat.reduceLeDiff, Int.reduceLT, Int.reduceLE, Int.reduceToNat, Int.reduceEq, Nat.reduceLT, d0, g0', hw, hbd, Int.toNat_natCast, hr', s1, rep16, l1, l2, l3, l4, digC_one, undef_eq]
 obtain ⟨X, hX⟩ : ∃ X, X = ap T [.cells 1 (digC d) (0, 0)] := ⟨_, rfl⟩
 rw [← hX]
 have oX : Old T X := by rw [hX]; exact .ap
 have sX : X.size = T.size + 1 := by rw [hX]; simp [ap_size]
 have x0 : X[σ.size + 1]? = some (.cells 1 (digC d) (0, 0)) := by rw [hX, ← sT]; exact ap_new0
 have xb : X[q]? = _ := (oX.2 q (by omega)).trans zb
 have xz := (oX.2 σ.size (by omega)).trans z0
 rw [← sT] at x0
 clear hX
 have k1 : wrN X ⟨q, 0, none⟩ [.slice va L.dropLast.length vc] = some (X.setIfInBounds q (.cells (ver + 1) [.slice va L.dropLast.length vc, .bool sh] (0, 0))) := by
  rw [wrN_eq, if_neg (by simp), xb, wrc_cells, if_pos ⟨by simp, rfl⟩]
  rfl
 have r5 := rdN_all (n := 16) ((get_set_ne (k := .cells (ver + 1) [.slice va L.dropLast.length vc, .bool sh] (0, 0)) (show q ≠ T.size by omega)).trans x0) l1
 obtain ⟨w1, r1⟩ := dig_put D16 (θ := X.setIfInBounds q (.cells (ver + 1) [.slice va L.dropLast.length vc, .bool sh] (0, 0))) (b := σ.size) (ver := 0) ((get_set_ne (by omega)).trans xz)
 simp only [↓eD, eZ, ↓reduceIte, Nat.reduceEqDiff, Nat.reduceAdd, Nat.reduceMul, reduceCtorEq, Nat.reduceLeDiff, Int.reduceLT, Int.reduceLE, Int.reduceToNat, Int.reduceEq, Nat.reduceLT, k1, r5, l1, w1, r1, undef_eq]
 rw [ap_nil]
 refine ⟨?_, ?_⟩
 ·exact ⟨(((h.old.trans oT).trans oX).set h.hq).set (by have := h.old.1; omega), h.hq, ver + 1, _, (get_set_ne (by omega)).trans (get_set xb), L1⟩
 ·exact ⟨by simp; omega, fun c h1 h2 => (get_set_ne (by omega)).trans ((get_set_ne (Ne.symm h2)).trans ((oX.2 c (by omega)).trans (oT.2 c h1)))⟩
theorem first_app {σ0 σ : H} {q : Nat} {L : List (List Int)} {sh : Bool} (h : Pth σ0 σ q L sh) (hn : L.length ≤ 1000) :
  App Tryd.prog (.func 49) #[] #[.pointer (some ⟨q, 0, none⟩)] σ fun w σ' => w = .agg (digC (headD L)).toArray ∧ Pth σ0 σ' q L.tail (sh || L.isEmpty) ∧ OldB q σ σ' := by
 refine App.of_sem mixed Tryd.func49 t49 k49 r49 (Nat.le_of_ble_eq_true rfl) ?_
 rw [← ap_nil (σ := σ)]
 unfold s49
 obtain ⟨ver, u, hb, hL⟩ := h.b
 obtain ⟨a, c, rfl⟩ := hL.slice
 have hq := h.lt
 have g0 : ∀ M, rd1 (ap σ M) ⟨q, 0, none⟩ = some (.slice a L.length c) := fun M => rd1_of hb .ap rfl
 simp only [↓eD, eZ, ↓reduceIte, Nat.reduceEqDiff, Nat.reduceAdd, Nat.reduceMul, reduceCtorEq, Nat.reduceLeDiff, Int.reduceLT, Int.reduceLE, Int.reduceToNat, Int.reduceEq, Nat.reduceLT, rep16, g0, undef_eq]
 obtain ⟨T, hT⟩ : ∃ T, T = ap σ [.cells 0 (List.replicate 16 (.int .u8 0)) (0, 0)] := ⟨_, rfl⟩
 rw [← hT]
 have oT : Old σ T := by rw [hT]; exact .ap
 have sT : T.size = σ.size + 1 := by rw [hT]; simp [ap_size]
 have z0 : T[σ.size]? = some (.cells 0 (List.replicate 16 (.int .u8 0)) (0, 0)) := by rw [hT, ap_new0]; rfl
 clear hT
 have zb := (oT.2 q hq).trans hb
 have z16 := zeroD_C
 have t16 : (List.replicate 16 (Value.int .u8 0)).take 16 = List.replicate 16 (Value.int .u8 0) := rfl
 by_cases h0 : L.length = 0
 ·have d0 : decide ((L.length : Int) = 0) = true := by rw [decide_eq_true]; omega
  have hLn := List.eq_nil_of_length_eq_zero h0
  subst hLn
  have k1 : wrN T ⟨q, 1, none⟩ [.bool true] = some (T.setIfInBounds q (.cells (ver + 1) [.slice a 0 c, .bool true] (0, 0))) := by
   rw [wrN_eq, if_neg (by simp), zb, wrc_cells, if_pos ⟨by simp, rfl⟩]
   rfl
  obtain ⟨w1, r1⟩ := dig_put (D := zeroD) zeroD_len (θ := T.setIfInBounds q (.cells (ver + 1) [.slice a 0 c, .bool true] (0, 0))) (b := σ.size) (ver := 0) ((get_set_ne (by omega)).trans z0)
  rw [z16] at w1 r1
  simp only [List.length_nil] at d0 ⊢
  simp only [↓eD, eZ, ↓reduceIte, Nat.reduceEqDiff, Nat.reduceAdd, Nat.reduceMul, reduceCtorEq, Nat.reduceLeDiff, Int.reduceLT, Int.reduceLE, Int.reduceToNat, Int.reduceEq, Nat.reduceLT, d0, k1, rep16, t16, w1, r1, undef_eq]
  rw [ap_nil]
  refine ⟨?_, ?_, ?_⟩
  ·show _ = Value.agg (digC zeroD).toArray
   rw [z16]
  ·refine ⟨((h.old.trans oT).set h.hq).set (by have := h.old.1; omega), h.hq, ver + 1, _, (get_set_ne (by omega)).trans ?_, hL⟩
   have : (sh || ([] : List (List Int)).isEmpty) = true := by simp
   rw [this]
   exact get_set zb
  ·exact ⟨by simp; omega, fun c h1 h2 => (get_set_ne (by omega)).trans ((get_set_ne (Ne.symm h2)).trans (oT.2 c h1))⟩
 have d0 : decide ((L.length : Int) = 0) = false := by rw [decide_eq_false]; omega
 have hbd : (0 : Int) ≤ 0 ∧ (0 : Int) < (L.length : Int) := by omega
 have tn0 : Int.toNat 0 = 0 := rfl
 have hbig : L.length < big := Nat.lt_of_le_of_lt hn (by decide)
 obtain ⟨ab, ao, rfl, hr⟩ := hL.at (i := 0) (by omega)
 obtain ⟨v1, s1, L1, _⟩ := hL.sub (lo := 1) (hi := L.length) (xl := some (.int .i64 ((1 : Nat) : Int))) (xh := none) (xm := none) (by omega) (by omega) (by omega) (.inl rfl) (.inr ⟨rfl, rfl, rfl⟩) (.inl rfl)
 rw [List.take_length, List.drop_one] at L1
 rw [show ((1 : Nat) : Int) = 1 from rfl] at s1
 rw [Nat.zero_mul, Nat.add_zero] at hr
 have hlast : headD L = L[0]'(by omega) := by
  unfold headD
  cases L with
  |nil => exact absurd rfl h0
  |cons _ _ => rfl
 have hne : (sh || L.isEmpty) = sh := by
  cases L with
  |nil => exact absurd rfl h0
  |cons _ _ => simp
 have D16 := hL.d (L[0]'(by omega)) (List.getElem_mem _)
 rw [hlast, hne]
 generalize L[0]'(by omega) = d at hr D16 ⊢
 obtain ⟨l1, l2, l3, l4⟩ := dig_len D16
 have hr' : ∀ M, rdN (ap T M) ⟨ab, ao, none⟩ 16 = some (digC d) := fun M => rdN_old (rdN_Old (h.old.trans oT) hr)
 have g0' : ∀ M, rd1 (ap T M) ⟨q, 0, none⟩ = some (.slice (some ⟨ab, ao, none⟩) L.length c) := fun M => rd1_of zb .ap rfl
 have o1 : v1.oneCell' = true := by obtain ⟨_, _, h9⟩ := L1.slice; rw [h9]; rfl
 obtain ⟨va, vc, rfl⟩ := L1.slice
 rw [← ap_nil (σ := T)]
 simp only [↓eD, eZ, ↓reduceIte, Nat.reduceEqDiff, Nat.reduceAdd, Nat.reduceMul, reduceCtorEq, Nat.reduceLeDiff, Int.reduceLT, Int.reduceLE, Int.reduceToNat, Int.reduceEq, Nat.reduceLT, d0, g0', hbd, tn0, Nat.zero_mul, Nat.add_zero, hr', s1, rep16, l1, l2, l3, l4, digC_one, undef_eq]
 obtain ⟨X, hX⟩ : ∃ X, X = ap T [.cells 1 (digC d) (0, 0)] := ⟨_, rfl⟩
 rw [← hX]
 have oX : Old T X := by rw [hX]; exact .ap
 have sX : X.size = T.size + 1 := by rw [hX]; simp [ap_size]
 have x0 : X[σ.size + 1]? = some (.cells 1 (digC d) (0, 0)) := by rw [hX, ← sT]; exact ap_new0
 have xb : X[q]? = _ := (oX.2 q (by omega)).trans zb
 have xz := (oX.2 σ.size (by omega)).trans z0
 rw [← sT] at x0
 clear hX
 have k1 : wrN X ⟨q, 0, none⟩ [.slice va L.tail.length vc] = some (X.setIfInBounds q (.cells (ver + 1) [.slice va L.tail.length vc, .bool sh] (0, 0))) := by
  rw [wrN_eq, if_neg (by simp), xb, wrc_cells, if_pos ⟨by simp, rfl⟩]
  rfl
 have r5 := rdN_all (n := 16) ((get_set_ne (k := .cells (ver + 1) [.slice va L.tail.length vc, .bool sh] (0, 0)) (show q ≠ T.size by omega)).trans x0) l1
 obtain ⟨w1, r1⟩ := dig_put D16 (θ := X.setIfInBounds q (.cells (ver + 1) [.slice va L.tail.length vc, .bool sh] (0, 0))) (b := σ.size) (ver := 0) ((get_set_ne (by omega)).trans xz)
 simp only [↓eD, eZ, ↓reduceIte, Nat.reduceEqDiff, Nat.reduceAdd, Nat.reduceMul, reduceCtorEq, Nat.reduceLeDiff, Int.reduceLT, Int.reduceLE, Int.reduceToNat, Int.reduceEq, Nat.reduceLT, k1, r5, l1, w1, r1, undef_eq]
 rw [ap_nil]
 refine ⟨?_, ?_⟩
 ·exact ⟨(((h.old.trans oT).trans oX).set h.hq).set (by have := h.old.1; omega), h.hq, ver + 1, _, (get_set_ne (by omega)).trans (get_set xb), L1⟩
 ·exact ⟨by simp; omega, fun c h1 h2 => (get_set_ne (by omega)).trans ((get_set_ne (Ne.symm h2)).trans ((oX.2 c (by omega)).trans (oT.2 c h1)))⟩
theorem settle_app {σ0 σ : H} {q o : Nat} {L : List (List Int)} {sh b : Bool} {ver : Nat} (h : Pth σ0 σ q L sh) (ho : σ[o]? = some (.cells ver [.bool b] (0, 0))) (hoq : o ≠ q) :
  AppD Tryd.prog 47 #[.pointer (some ⟨q, 0, none⟩), .pointer (some ⟨o, 0, none⟩)] σ fun σ' => OldB o σ σ' ∧ rd1 σ' ⟨o, 0, none⟩ = some (.bool (b && !sh && L.isEmpty)) := by
 refine AppD.of_ops Tryd.func47 t47 r47 (Nat.le_of_ble_eq_true rfl) ?_
 obtain ⟨verq, u, hb, hL⟩ := h.b
 obtain ⟨a, c, rfl⟩ := hL.slice
 have g0 : rd1 σ ⟨o, 0, none⟩ = some (.bool b) := rd1_of ho .refl rfl
 have g1 : rd1 σ ⟨q, 1, none⟩ = some (.bool sh) := rd1_of hb .refl rfl
 have g2 : rd1 σ ⟨q, 0, none⟩ = some (.slice a L.length c) := rd1_of hb .refl rfl
 have kw : ∀ x : Bool, wrN σ ⟨o, 0, none⟩ [.bool x] = some (σ.setIfInBounds o (.cells (ver + 1) [.bool x] (0, 0))) := fun x => by
  rw [wrN_eq, if_neg (by simp), ho, wrc_cells, if_pos ⟨by simp, rfl⟩]
  rfl
 have fin : ∀ x : Bool, OldB o σ (σ.setIfInBounds o (.cells (ver + 1) [.bool x] (0, 0))) ∧ rd1 (σ.setIfInBounds o (.cells (ver + 1) [.bool x] (0, 0))) ⟨o, 0, none⟩ = some (.bool x) := fun x =>
  ⟨⟨by simp, fun c h1 h2 => get_set_ne (Ne.symm h2)⟩, by rw [rd1_eq, get_set ho]; rfl⟩
 have he : L.isEmpty = decide ((L.length : Int) = 0) := by
  cases L with
  |nil => rfl
  |cons d r => symm; rw [List.isEmpty_cons, decide_eq_false]; simp; omega
 have dl := he.symm
 cases b with
 |false =>
  simp only [↓eD, eZ, ↓reduceIte, Nat.reduceEqDiff, Nat.reduceAdd, Nat.reduceMul, reduceCtorEq, Nat.reduceLeDiff, Int.reduceLT, Int.reduceLE, Int.reduceToNat, Int.reduceEq, Nat.reduceLT, g0, kw, undef_eq]
  exact ⟨⟨_, rfl⟩, fin _⟩
 |true =>
  cases sh with
  |true =>
   simp only [↓eD, eZ, ↓reduceIte, Nat.reduceEqDiff, Nat.reduceAdd, Nat.reduceMul, reduceCtorEq, Nat.reduceLeDiff, Int.reduceLT, Int.reduceLE, Int.reduceToNat, Int.reduceEq, Nat.reduceLT, g0, g1, Bool.not_true, kw, undef_eq]
   exact ⟨⟨_, rfl⟩, fin _⟩
  |false =>
   simp only [↓eD, eZ, ↓reduceIte, Nat.reduceEqDiff, Nat.reduceAdd, Nat.reduceMul, reduceCtorEq, Nat.reduceLeDiff, Int.reduceLT, Int.reduceLE, Int.reduceToNat, Int.reduceEq, Nat.reduceLT, g0, g1, g2, dl, Bool.not_false, kw, undef_eq]
   exact ⟨⟨_, rfl⟩, fin _⟩
end Go.Proofs.YtjgbbhfihcmphaaDoor
