/- Walks and plain laws. Conditions: none. -/
import Derived.Test.YtjgbbhfihcmphaaDoorNk
set_option linter.all false
set_option maxRecDepth 10000
set_option maxHeartbeats 4000000
namespace Go.Proofs.YtjgbbhfihcmphaaDoor
open Go Go.Cn Go.RowKit
def withinF (P : List Int) (a b : Int) : List Int := P.filter fun p => decide (a ≤ p) && decide (p < b)
theorem withinF_mem {P : List Int} {a b p : Int} (h : p ∈ withinF P a b) : a ≤ p ∧ p < b := by
 have := (List.mem_filter.1 h).2
 rw [Bool.and_eq_true] at this
 exact ⟨of_decide_eq_true this.1, of_decide_eq_true this.2⟩
theorem withinF_asc {P : List Int} {a b : Int} (h : Asc P) : Asc (withinF P a b) := List.Pairwise.sublist List.filter_sublist h
theorem withinF_len {P : List Int} {a b : Int} : (withinF P a b).length ≤ P.length := List.length_filter_le _ _
theorem withinF_all {P : List Int} {a b : Int} (h : ∀ p ∈ P, a ≤ p ∧ p < b) : withinF P a b = P := by
 unfold withinF
 rw [List.filter_eq_self]
 intro p hp
 rw [decide_eq_true (h p hp).1, decide_eq_true (h p hp).2]
 rfl
theorem filter_cut {t : Int} {P : List Int} (h : Asc P) : P.filter (fun p => decide (p < t)) = P.take (cutK P t) ∧ P.filter (fun p => decide (t ≤ p)) = P.drop (cutK P t) := by
 obtain ⟨h1, h2⟩ := cut_props (t := t) h
 have hs := List.take_append_drop (cutK P t) P
 generalize cutK P t = k at h1 h2 hs ⊢
 have a1 : (P.take k).filter (fun p => decide (p < t)) = P.take k := List.filter_eq_self.2 fun p hp => decide_eq_true (h1 p hp)
 have a2 : (P.drop k).filter (fun p => decide (p < t)) = [] := List.filter_eq_nil_iff.2 fun p hp => by have := h2 p hp; simp; omega
 have b1 : (P.take k).filter (fun p => decide (t ≤ p)) = [] := List.filter_eq_nil_iff.2 fun p hp => by have := h1 p hp; simp; omega
 have b2 : (P.drop k).filter (fun p => decide (t ≤ p)) = P.drop k := List.filter_eq_self.2 fun p hp => decide_eq_true (h2 p hp)
 constructor
 ·conv => lhs; rw [← hs]
  rw [List.filter_append, a1, a2, List.append_nil]
 ·conv => lhs; rw [← hs]
  rw [List.filter_append, b1, b2, List.nil_append]
theorem withinF_left {P : List Int} {a b c : Int} (h : Asc P) (hP : ∀ p ∈ P, a ≤ p ∧ p < c) : withinF P a b = P.take (cutK P b) := by
 rw [← (filter_cut h).1]
 unfold withinF
 refine List.filter_congr fun p hp => ?_
 rw [decide_eq_true (hP p hp).1]
 rfl
theorem withinF_right {P : List Int} {a b c : Int} (h : Asc P) (hP : ∀ p ∈ P, a ≤ p ∧ p < c) : withinF P b c = P.drop (cutK P b) := by
 rw [← (filter_cut h).2]
 unfold withinF
 refine List.filter_congr fun p hp => ?_
 rw [decide_eq_true (hP p hp).2, Bool.and_true]
theorem one_place {Q : List Int} {fr : Int} (hA : Asc Q) (h : ∀ p ∈ Q, fr ≤ p ∧ p < fr + 1) : Q.length ≤ 1 := by
 match Q, hA, h with
 |[], _, _ => simp
 |[_], _, _ => simp
 |q :: q' :: r, hA, h =>
  have a1 := h q (by simp)
  have a2 := h q' (by simp)
  have a3 := (List.pairwise_cons.1 hA).1 q' (by simp)
  omega
theorem cm_use : ∀ (N n : Nat) (fr : Int) (Q : List Int) (st : MS), n ≤ N → 0 < n → Asc Q → (∀ p ∈ Q, fr ≤ p ∧ p < fr + n) → Q.length ≤ st.F.length →
  (cmF fr n Q st).2.F = st.F.drop Q.length ∧ (cmF fr n Q st).2.t = st.t ∧ (st.s = true → (cmF fr n Q st).2.s = true) ∧ ((cmF fr n Q st).2.s = false → ∃ q, q ≤ st.L.length ∧ (cmF fr n Q st).2.L = st.L.drop q)
 |0, n, fr, Q, st, h, h0, _, _, _ => by omega
 |N + 1, n, fr, Q, st, h, h0, hA, hQ, hF => by
  by_cases hq0 : Q = []
  ·subst hq0
   rw [cmF, if_pos rfl]
   refine ⟨rfl, rfl, fun h => by simp [h], fun h => ⟨1, ?_, by simp⟩⟩
   simp only [Bool.or_eq_false_iff] at h
   cases hl : st.L with
   |nil => rw [hl] at h; simp at h
   |cons a r => simp
  by_cases h1 : n ≤ 1
  ·have hn1 : n = 1 := by omega
   have hl1 : Q.length = 1 := by
    have := one_place hA (fr := fr) (fun p hp => by have := hQ p hp; omega)
    have : Q.length ≠ 0 := fun h => hq0 (List.eq_nil_of_length_eq_zero h)
    omega
   rw [cmF, if_neg hq0, dif_pos h1, hl1]
   refine ⟨by simp, ?_, fun h => h, fun h => ⟨0, by omega, by simp⟩⟩
   cases hl : st.F with
   |nil => rw [hl, List.length_nil] at hF; omega
   |cons a r => simp
  have hs := splitN_spec (n := n) (by omega)
  rw [cmF, if_neg hq0, dif_neg h1]
  obtain ⟨k, hk⟩ : ∃ k, k = splitN n := ⟨_, rfl⟩
  rw [← hk] at hs ⊢
  obtain ⟨c1, c2⟩ := cut_props (t := fr + (k : Int)) hA
  have ck := cutK_le (P := Q) (t := fr + (k : Int))
  generalize cutK Q (fr + (k : Int)) = x at c1 c2 ck ⊢
  have l1 : (Q.take x).length = x := by rw [List.length_take]; omega
  have l2 : (Q.drop x).length = Q.length - x := List.length_drop
  obtain ⟨a1, a2, a3, a4⟩ := cm_use N k fr (Q.take x) st (by omega) (by omega) hA.take (fun p hp => ⟨(hQ p (List.mem_of_mem_take hp)).1, c1 p hp⟩) (by omega)
  generalize cmF fr k (Q.take x) st = r at a1 a2 a3 a4 ⊢
  rw [l1] at a1
  obtain ⟨b1, b2, b3, b4⟩ := cm_use N (n - k) (fr + (k : Int)) (Q.drop x) r.2 (by omega) (by omega) hA.drop (fun p hp => ⟨c2 p hp, by have := (hQ p (List.mem_of_mem_drop hp)).2; omega⟩) (by rw [a1, List.length_drop, List.length_drop]; omega)
  generalize cmF (fr + (k : Int)) (n - k) (Q.drop x) r.2 = r' at b1 b2 b3 b4 ⊢
  simp only
  refine ⟨by rw [b1, a1, List.drop_drop, l2, show x + (Q.length - x) = Q.length by omega], b2.trans a2, fun h => b3 (a3 h), fun h => ?_⟩
  have hrs : r.2.s = false := by
   cases hh : r.2.s with
   |false => rfl
   |true => rw [b3 hh] at h; cases h
  obtain ⟨p, hp, ep⟩ := a4 hrs
  obtain ⟨q, hq, eq⟩ := b4 h
  rw [ep, List.length_drop] at hq
  exact ⟨p + q, by omega, by rw [eq, ep, List.drop_drop]⟩
attribute [local irreducible] evL sem onG onI onV
theorem rasc_app {σ : H} {v : Value} {P : List Int} {n : Int} (hP : Ps σ v P) (hn : P.length < 1000000) :
  App Tryd.prog (.func 45) #[] #[v, .int .i64 n] σ fun w σ' => σ' = σ ∧ w = .bool (ascF n (-1) P) := by
 refine App.of_sem mixed Tryd.func45 t45 k45 r45 (Nat.le_of_ble_eq_true rfl) ?_
 obtain ⟨a, c, rfl⟩ := hP.slice
 unfold s45
 simp only [↓eD, eZ, ↓reduceIte, Nat.reduceEqDiff, Nat.reduceAdd, Nat.reduceMul, reduceCtorEq, Nat.reduceLeDiff, Int.reduceLT, Int.reduceLE, Int.reduceToNat, Int.reduceEq, Nat.reduceLT, undef_eq]
 refine loop_for (J := fun i e τ => τ = σ ∧ i ≤ P.length ∧ e = [(0, .slice a P.length c), (1, .int .i64 n), (5, .int .i64 (i : Int))] ∧ ∃ l : Int, -1 ≤ l ∧ (i = 0 → l = -1) ∧ (0 < i → 0 ≤ l ∧ P[i - 1]? = some l) ∧ ascF n l (P.drop i) = ascF n (-1) P) P.length ⟨rfl, by omega, rfl, -1, by omega, fun _ => rfl, fun h => by omega, rfl⟩ ?_
 rintro i e _ hi ⟨rfl, _, rfl, l, hl1, hl0, hlp, hl⟩
 by_cases h0 : i < P.length
 ·have d0 : decide ((i : Int) < (P.length : Int)) = true := by rw [decide_eq_true]; omega
  have hb : (0 : Int) ≤ (i : Int) ∧ (i : Int) < (P.length : Int) := by omega
  have hw : IntKind.wrap .i64 ((i : Int) + 1) = ((i + 1 : Nat) : Int) := by rw [wrap64' (by omega) (by omega)]; omega
  obtain ⟨ab, ao, rfl, hr⟩ := hP.at h0
  rw [List.drop_eq_getElem_cons h0, ascF] at hl
  have hpi : P[i]? = some P[i] := List.getElem?_eq_getElem h0
  generalize P[i] = p at hr hl hpi
  by_cases g1 : p < 0
  ·have e1 : decide (p < 0) = true := decide_eq_true g1
   rw [if_pos (.inl (by omega))] at hl
   simp only [↓eD, eZ, ↓reduceIte, Nat.reduceEqDiff, Nat.reduceAdd, Nat.reduceMul, reduceCtorEq, Nat.reduceLeDiff, Int.reduceLT, Int.reduceLE, Int.reduceToNat, Int.reduceEq, Nat.reduceLT, d0, hb, Int.toNat_natCast, hr, e1, undef_eq]
   rw [← hl]
  have e1 : decide (p < 0) = false := decide_eq_false g1
  by_cases g2 : n ≤ p
  ·have e2 : decide (n ≤ p) = true := decide_eq_true g2
   rw [if_pos (.inr g2)] at hl
   simp only [↓eD, eZ, ↓reduceIte, Nat.reduceEqDiff, Nat.reduceAdd, Nat.reduceMul, reduceCtorEq, Nat.reduceLeDiff, Int.reduceLT, Int.reduceLE, Int.reduceToNat, Int.reduceEq, Nat.reduceLT, d0, hb, Int.toNat_natCast, hr, e1, e2, undef_eq]
   rw [← hl]
  have e2 : decide (n ≤ p) = false := decide_eq_false g2
  by_cases g3 : 0 < i
  case neg =>
   have e3 : decide (0 < (i : Int)) = false := by rw [decide_eq_false]; omega
   have := hl0 (by omega)
   rw [if_neg (by omega)] at hl
   simp only [↓eD, eZ, ↓reduceIte, Nat.reduceEqDiff, Nat.reduceAdd, Nat.reduceMul, reduceCtorEq, Nat.reduceLeDiff, Int.reduceLT, Int.reduceLE, Int.reduceToNat, Int.reduceEq, Nat.reduceLT, d0, hb, Int.toNat_natCast, hr, e1, e2, e3, hw, undef_eq]
   exact ⟨h0, by omega, p, by omega, fun h => by simp at h, fun _ => ⟨by omega, hpi⟩, hl⟩
  have e3 : decide (0 < (i : Int)) = true := by rw [decide_eq_true]; omega
  obtain ⟨hl2, hlq⟩ := hlp g3
  have wi : IntKind.wrap .i64 ((i : Int) - 1) = ((i - 1 : Nat) : Int) := by rw [wrap64' (by omega) (by omega)]; omega
  have hb' : (0 : Int) ≤ ((i - 1 : Nat) : Int) ∧ ((i - 1 : Nat) : Int) < (P.length : Int) := by omega
  obtain ⟨ab', ao', he, hr'⟩ := hP.at (i := i - 1) (by omega)
  rw [show P[i - 1]'(by omega) = l from Option.some.inj ((List.getElem?_eq_getElem (by omega)).symm.trans hlq)] at hr'
  injection he with he
  injection he with he1 he2
  subst he1 he2
  by_cases g4 : p ≤ l
  ·have e4 : decide (p ≤ l) = true := decide_eq_true g4
   rw [if_pos (.inl g4)] at hl
   simp only [↓eD, eZ, ↓reduceIte, Nat.reduceEqDiff, Nat.reduceAdd, Nat.reduceMul, reduceCtorEq, Nat.reduceLeDiff, Int.reduceLT, Int.reduceLE, Int.reduceToNat, Int.reduceEq, Nat.reduceLT, d0, hb, hb', wi, Int.toNat_natCast, hr, hr', e1, e2, e3, e4, undef_eq]
   rw [← hl]
  have e4 : decide (p ≤ l) = false := decide_eq_false g4
  rw [if_neg (by omega)] at hl
  simp only [↓eD, eZ, ↓reduceIte, Nat.reduceEqDiff, Nat.reduceAdd, Nat.reduceMul, reduceCtorEq, Nat.reduceLeDiff, Int.reduceLT, Int.reduceLE, Int.reduceToNat, Int.reduceEq, Nat.reduceLT, d0, hb, hb', wi, Int.toNat_natCast, hr, hr', e1, e2, e3, e4, hw, undef_eq]
  exact ⟨h0, by omega, p, by omega, fun h => by simp at h, fun _ => ⟨by omega, hpi⟩, hl⟩
 ·have d0 : decide ((i : Int) < (P.length : Int)) = false := by rw [decide_eq_false]; omega
  have : i = P.length := by omega
  subst this
  rw [List.drop_length, ascF] at hl
  simp only [↓eD, eZ, ↓reduceIte, Nat.reduceEqDiff, Nat.reduceAdd, Nat.reduceMul, reduceCtorEq, Nat.reduceLeDiff, Int.reduceLT, Int.reduceLE, Int.reduceToNat, Int.reduceEq, Nat.reduceLT, d0, undef_eq]
  rw [← hl]
theorem withinF_snoc {P : List Int} {a b p : Int} : withinF (P ++ [p]) a b = if a ≤ p ∧ p < b then withinF P a b ++ [p] else withinF P a b := by
 unfold withinF
 rw [List.filter_append]
 split
 ·rename_i h; simp [h]
 ·rename_i h; simp; omega
theorem rwithin_app {σ : H} {v : Value} {P : List Int} {x y : Int} (hP : Ps σ v P) (hn : P.length < 1000) :
  App Tryd.prog (.func 68) #[] #[v, .int .i64 x, .int .i64 y] σ fun w σ' => Old σ σ' ∧ Ps σ' w (withinF P x y) := by
 refine App.of_sem mixed Tryd.func68 t68 k68 r68 (Nat.le_of_ble_eq_true rfl) ?_
 obtain ⟨a, c, rfl⟩ := hP.slice
 unfold s68
 simp only [↓eD, eZ, ↓reduceIte, Nat.reduceEqDiff, Nat.reduceAdd, Nat.reduceMul, reduceCtorEq, Nat.reduceLeDiff, Int.reduceLT, Int.reduceLE, Int.reduceToNat, Int.reduceEq, Nat.reduceLT, undef_eq]
 refine loop_for (J := fun i e η => i ≤ P.length ∧ ∃ u, e = [(0, .slice a P.length c), (1, .int .i64 x), (2, .int .i64 y), (7, u), (8, .int .i64 (i : Int))] ∧ Two σ η u (.slice none 0 0) (withinF (P.take i) x y) []) P.length
  ⟨by omega, _, rfl, Old.refl, Grown.nil, Grown.nil, fun c h => by cases h⟩ ?_
 rintro i e η hi ⟨_, u, rfl, hT⟩
 have hu : u.oneCell' = true := hT.p.one
 by_cases h0 : i < P.length
 ·have d0 : decide ((i : Int) < (P.length : Int)) = true := by rw [decide_eq_true]; omega
  have hb : (0 : Int) ≤ (i : Int) ∧ (i : Int) < (P.length : Int) := by omega
  have hw : IntKind.wrap .i64 ((i : Int) + 1) = ((i + 1 : Nat) : Int) := by rw [wrap64' (by omega) (by omega)]; omega
  obtain ⟨ab, ao, rfl, hr⟩ := (hP.Old hT.o).at h0
  have hsn := withinF_snoc (P := P.take i) (p := P[i]) (a := x) (b := y)
  rw [← List.take_succ_eq_append_getElem h0] at hsn
  generalize P[i] = p at hr hsn
  by_cases g1 : x ≤ p
  case neg =>
   have e1 : decide (x ≤ p) = false := decide_eq_false g1
   rw [if_neg (by omega)] at hsn
   simp only [↓eD, eZ, ↓reduceIte, Nat.reduceEqDiff, Nat.reduceAdd, Nat.reduceMul, reduceCtorEq, Nat.reduceLeDiff, Int.reduceLT, Int.reduceLE, Int.reduceToNat, Int.reduceEq, Nat.reduceLT, d0, hb, Int.toNat_natCast, hr, e1, hw, undef_eq]
   exact ⟨h0, by omega, u, rfl, by rw [hsn]; exact hT⟩
  have e1 : decide (x ≤ p) = true := decide_eq_true g1
  by_cases g2 : p < y
  case neg =>
   have e2 : decide (p < y) = false := decide_eq_false g2
   rw [if_neg (by omega)] at hsn
   simp only [↓eD, eZ, ↓reduceIte, Nat.reduceEqDiff, Nat.reduceAdd, Nat.reduceMul, reduceCtorEq, Nat.reduceLeDiff, Int.reduceLT, Int.reduceLE, Int.reduceToNat, Int.reduceEq, Nat.reduceLT, d0, hb, Int.toNat_natCast, hr, e1, e2, hw, undef_eq]
   exact ⟨h0, by omega, u, rfl, by rw [hsn]; exact hT⟩
  have e2 : decide (p < y) = true := decide_eq_true g2
  rw [if_pos ⟨g1, g2⟩] at hsn
  have hlw : (withinF (P.take i) x y).length < 1000 := by have := withinF_len (P := P.take i) (a := x) (b := y); rw [List.length_take] at this; omega
  obtain ⟨w, τ', ha, hT'⟩ := hT.pushP (x := p) hlw
  have hr' : ∀ M, rd1 (ap η M) ⟨ab, ao + i, none⟩ = some (.int .i64 p) := fun M => rd1_old hr
  rw [← ap_nil (σ := η)]
  simp only [↓eD, eZ, ↓reduceIte, Nat.reduceEqDiff, Nat.reduceAdd, Nat.reduceMul, reduceCtorEq, Nat.reduceLeDiff, Int.reduceLT, Int.reduceLE, Int.reduceToNat, Int.reduceEq, Nat.reduceLT, d0, hb, Int.toNat_natCast, hr', e1, e2, undef_eq]
  refine onV_of ha ?_
  simp only [↓eD, eZ, ↓reduceIte, Nat.reduceEqDiff, Nat.reduceAdd, Nat.reduceMul, reduceCtorEq, Nat.reduceLeDiff, Int.reduceLT, Int.reduceLE, Int.reduceToNat, Int.reduceEq, Nat.reduceLT, hw, undef_eq]
  exact ⟨h0, by omega, w, rfl, by rw [hsn]; exact hT'⟩
 ·have d0 : decide ((i : Int) < (P.length : Int)) = false := by rw [decide_eq_false]; omega
  have : i = P.length := by omega
  subst this
  rw [List.take_length] at hT
  simp only [↓eD, eZ, ↓reduceIte, Nat.reduceEqDiff, Nat.reduceAdd, Nat.reduceMul, reduceCtorEq, Nat.reduceLeDiff, Int.reduceLT, Int.reduceLE, Int.reduceToNat, Int.reduceEq, Nat.reduceLT, d0, undef_eq]
  exact ⟨hT.o, hT.ps⟩
theorem rmany1_app : ∀ (N : Nat) (σ : H) (v u : Value) (L : List (List Int)) (fr : Nat) (P : List Int), L.length ≤ N → 0 < L.length → L.length ≤ 1000 → fr + L.length ≤ 100000 → P.length < 1000 → Asc P → Ls σ v L → Ps σ u P → Glob σ →
  App Tryd.prog (.func 46) #[] #[v, .int .i64 (fr : Int), u] σ fun w σ' => Old σ σ' ∧ Grown σ σ' 16 w ((manyF L fr (withinF P fr (fr + L.length : Nat))).map digC).flatten (manyF L fr (withinF P fr (fr + L.length : Nat))).length := by
 intro N
 induction N with
 |zero => intro σ v u L fr P h1 h2; omega
 |succ N ih =>
  intro σ v u L fr P hN hpos hn hfr hP hA hL hU hG
  refine App.of_sem mixed Tryd.func46 t46 k46 r46 (Nat.le_of_ble_eq_true rfl) ?_
  obtain ⟨a, c, rfl⟩ := hL.slice
  have wf0 : IntKind.wrap .i64 ((fr : Int) + (L.length : Int)) = ((fr + L.length : Nat) : Int) := by rw [wrap64' (by omega) (by omega)]; omega
  unfold s46
  simp only [↓eD, eZ, ↓reduceIte, Nat.reduceEqDiff, Nat.reduceAdd, Nat.reduceMul, reduceCtorEq, Nat.reduceLeDiff, Int.reduceLT, Int.reduceLE, Int.reduceToNat, Int.reduceEq, Nat.reduceLT, wf0, undef_eq]
  refine appK_of (rwithin_app hU hP) ?_
  rintro w τ ⟨oτ, hW⟩
  have hQA := withinF_asc (a := (fr : Int)) (b := ((fr + L.length : Nat) : Int)) hA
  have hQm : ∀ p ∈ withinF P (fr : Int) ((fr + L.length : Nat) : Int), (fr : Int) ≤ p ∧ p < ((fr + L.length : Nat) : Int) := fun p hp => withinF_mem hp
  have hQl : (withinF P (fr : Int) ((fr + L.length : Nat) : Int)).length < 1000 := Nat.lt_of_le_of_lt withinF_len hP
  generalize withinF P (fr : Int) ((fr + L.length : Nat) : Int) = Q at hW hQA hQm hQl ⊢
  obtain ⟨ua, uc, rfl⟩ := hW.slice
  have hLτ := hL.Old oτ
  have hGτ := hG.Old oτ
  by_cases h0 : Q.length = 0
  ·have e1 : decide ((Q.length : Int) = 0) = true := by rw [decide_eq_true]; omega
   have hR : manyF L fr Q = [rootF L] := by rw [manyF, if_pos (List.eq_nil_of_length_eq_zero h0)]
   simp only [↓eD, eZ, ↓reduceIte, Nat.reduceEqDiff, Nat.reduceAdd, Nat.reduceMul, reduceCtorEq, Nat.reduceLeDiff, Int.reduceLT, Int.reduceLE, Int.reduceToNat, Int.reduceEq, Nat.reduceLT, e1, undef_eq]
   refine appK_at (rroot_app hLτ (by omega) hGτ) ?_
   have D16 := rootF_len hL.d
   rw [hR]
   generalize rootF L = D at D16 ⊢
   obtain ⟨l1, l2, l3, l4⟩ := dig_len D16
   rw [← ap_nil (σ := τ)]
   simp only [↓eD, eZ, ↓reduceIte, Nat.reduceEqDiff, Nat.reduceAdd, Nat.reduceMul, reduceCtorEq, Nat.reduceLeDiff, Int.reduceLT, Int.reduceLE, Int.reduceToNat, Int.reduceEq, Nat.reduceLT, rep16, l1, l2, l3, l4, undef_eq]
   exact ⟨oτ.trans .ap, Grown.lit (ver := 0) (by simp [l1]) (by decide) oτ.1 (by rw [ap_new0]; simp)⟩
  have e1 : decide ((Q.length : Int) = 0) = false := by rw [decide_eq_false]; omega
  have hQn : Q ≠ [] := fun h => h0 (by rw [h]; rfl)
  by_cases h1 : L.length = 1
  ·have e2 : decide ((L.length : Int) = 1) = true := by rw [decide_eq_true]; omega
   have hR : manyF L fr Q = [] := by rw [manyF, if_neg hQn, dif_pos (by omega)]
   simp only [↓eD, eZ, ↓reduceIte, Nat.reduceEqDiff, Nat.reduceAdd, Nat.reduceMul, reduceCtorEq, Nat.reduceLeDiff, Int.reduceLT, Int.reduceLE, Int.reduceToNat, Int.reduceEq, Nat.reduceLT, e1, e2, undef_eq]
   rw [hR]
   exact ⟨oτ, Grown.nil⟩
  have e2 : decide ((L.length : Int) = 1) = false := by rw [decide_eq_false]; omega
  have hs := splitN_spec (n := L.length) (by omega)
  simp only [↓eD, eZ, ↓reduceIte, Nat.reduceEqDiff, Nat.reduceAdd, Nat.reduceMul, reduceCtorEq, Nat.reduceLeDiff, Int.reduceLT, Int.reduceLE, Int.reduceToNat, Int.reduceEq, Nat.reduceLT, e1, e2, undef_eq]
  refine appK_at (rsplit_app (by omega) (by omega)) ?_
  obtain ⟨k, hk⟩ : ∃ k, k = splitN L.length := ⟨_, rfl⟩
  rw [← hk] at hs ⊢
  have hR : manyF L fr Q = manyF (L.take k) fr (Q.take (cutK Q ((fr + k : Nat) : Int))) ++ manyF (L.drop k) ((fr + k : Nat) : Int) (Q.drop (cutK Q ((fr + k : Nat) : Int))) := by
   rw [manyF, if_neg hQn, dif_neg (by omega), ← hk, Int.natCast_add]
  have hl1 : (L.take k).length = k := by rw [List.length_take]; omega
  have hl2 : (L.drop k).length = L.length - k := by rw [List.length_drop]
  have c1 : withinF Q (fr : Int) ((fr + k : Nat) : Int) = Q.take (cutK Q ((fr + k : Nat) : Int)) := withinF_left hQA hQm
  have c2 : withinF Q ((fr + k : Nat) : Int) ((fr + L.length : Nat) : Int) = Q.drop (cutK Q ((fr + k : Nat) : Int)) := withinF_right hQA hQm
  rw [← c1, ← c2] at hR
  have hbig : L.length < big := Nat.lt_of_le_of_lt hn (by decide)
  obtain ⟨v1, s1, L1, _⟩ := hLτ.sub (lo := 0) (hi := k) (xl := none) (xh := some (.int .i64 (k : Int))) (xm := none) (by omega) (by omega) (by omega) (.inr ⟨rfl, rfl⟩) (.inl rfl) (.inl rfl)
  obtain ⟨v2, s2, L2, _⟩ := hLτ.sub (lo := k) (hi := L.length) (xl := some (.int .i64 (k : Int))) (xh := none) (xm := none) (by omega) (by omega) (by omega) (.inl rfl) (.inr ⟨rfl, rfl, rfl⟩) (.inl rfl)
  rw [List.drop_zero] at L1
  rw [List.take_length] at L2
  have wf : IntKind.wrap .i64 ((fr : Int) + (k : Int)) = ((fr + k : Nat) : Int) := by rw [wrap64' (by omega) (by omega)]; omega
  have m1 := manyF_len (N := k) (L := L.take k) (fr := (fr : Int)) (P := withinF Q (fr : Int) ((fr + k : Nat) : Int)) (by omega) (by omega)
  have m2 := manyF_len (N := L.length - k) (L := L.drop k) (fr := ((fr + k : Nat) : Int)) (P := withinF Q ((fr + k : Nat) : Int) ((fr + L.length : Nat) : Int)) (by omega) (by omega)
  have d1 := manyF_dig (N := k) (L := L.take k) (fr := (fr : Int)) (P := withinF Q (fr : Int) ((fr + k : Nat) : Int)) (by omega) L1.d
  have d2 := manyF_dig (N := L.length - k) (L := L.drop k) (fr := ((fr + k : Nat) : Int)) (P := withinF Q ((fr + k : Nat) : Int) ((fr + L.length : Nat) : Int)) (by omega) L2.d
  have i1 := fun (θ : H) (o : Old τ θ) => ih θ v1 _ (L.take k) fr Q (by omega) (by omega) (by omega) (by omega) hQl hQA (L1.Old o) (hW.Old o) (hGτ.Old o)
  have i2 := fun (θ : H) (o : Old τ θ) => ih θ v2 _ (L.drop k) (fr + k) Q (by omega) (by omega) (by omega) (by omega) hQl hQA (L2.Old o) (hW.Old o) (hGτ.Old o)
  rw [hl1] at i1
  rw [hl2, show fr + k + (L.length - k) = fr + L.length by omega] at i2
  rw [hR]
  generalize manyF (L.take k) (fr : Int) (withinF Q (fr : Int) ((fr + k : Nat) : Int)) = A at i1 m1 d1 ⊢
  generalize manyF (L.drop k) ((fr + k : Nat) : Int) (withinF Q ((fr + k : Nat) : Int) ((fr + L.length : Nat) : Int)) = B at i2 m2 d2 ⊢
  have hfl : ∀ {M : List (List Int)}, (∀ d ∈ M, d.length = 16) → (M.map digC).flatten.length = M.length * 16 := fun h => by rw [flatten_length (dig_rows h), List.length_map]
  rw [← ap_nil (σ := τ)]
  simp only [↓eD, eZ, ↓reduceIte, Nat.reduceEqDiff, Nat.reduceAdd, Nat.reduceMul, reduceCtorEq, Nat.reduceLeDiff, Int.reduceLT, Int.reduceLE, Int.reduceToNat, Int.reduceEq, Nat.reduceLT, s1, s2, wf, undef_eq]
  refine appK_of (i1 _ .ap) ?_
  rintro w1 θ ⟨oθ, g1⟩
  have l1 := grown_ls g1 d1
  have sT : (ap τ [.cells 0 [] (0, 0)]).size = τ.size + 1 := by simp [ap_size]
  have hs' : (sized τ.size).size = τ.size := sized_size
  have t0 : θ[τ.size]? = some (.cells 0 [] (0, 0)) := (oθ.2 _ (by omega)).trans (by rw [ap_new0]; rfl)
  have oτθ : Old τ θ := Old.ap.trans oθ
  have g0 : Grown (sized τ.size) θ 16 (.slice (some ⟨τ.size, 0, none⟩) 0 0) [] 0 := Grown.lit (ver := 0) rfl (by decide) (by omega) t0
  obtain ⟨w2, θ2, ha, AA⟩ := append_grown (bytes := 16) g0 (by omega) (by rw [hs']; exact oτθ.1) l1.x (hfl d1) dig_ones (by omega) (by omega)
  obtain ⟨w1a, w1c, rfl⟩ := g1.slice
  simp only [↓eD, eZ, ↓reduceIte, Nat.reduceEqDiff, Nat.reduceAdd, Nat.reduceMul, reduceCtorEq, Nat.reduceLeDiff, Int.reduceLT, Int.reduceLE, Int.reduceToNat, Int.reduceEq, Nat.reduceLT, undef_eq]
  refine onV_of ha ?_
  have o2 : Old τ θ2 := AA.Old' g0 (by omega) oτθ
  have gA := AA.grown
  rw [List.nil_append, Nat.zero_add] at gA
  obtain ⟨w2a, w2c, rfl⟩ := gA.slice
  simp only [↓eD, eZ, ↓reduceIte, Nat.reduceEqDiff, Nat.reduceAdd, Nat.reduceMul, reduceCtorEq, Nat.reduceLeDiff, Int.reduceLT, Int.reduceLE, Int.reduceToNat, Int.reduceEq, Nat.reduceLT, undef_eq]
  refine appK_of (i2 _ o2) ?_
  rintro w3 θ3 ⟨o3, g3⟩
  have l3 := grown_ls g3 d2
  obtain ⟨w3a, w3c, rfl⟩ := g3.slice
  have gA3 := gA.old o3
  obtain ⟨w4, θ4, hb, BB⟩ := append_grown (bytes := 16) gA3 (by omega) (by rw [hs']; exact (o2.trans o3).1) l3.x (hfl d2) dig_ones (by omega) (by omega)
  simp only [↓eD, eZ, ↓reduceIte, Nat.reduceEqDiff, Nat.reduceAdd, Nat.reduceMul, reduceCtorEq, Nat.reduceLeDiff, Int.reduceLT, Int.reduceLE, Int.reduceToNat, Int.reduceEq, Nat.reduceLT, undef_eq]
  refine onV_of hb ?_
  have o4 : Old τ θ4 := BB.Old' gA3 (by omega) (o2.trans o3)
  have g4 := BB.grown
  simp only [↓eD, eZ, ↓reduceIte, Nat.reduceEqDiff, Nat.reduceAdd, Nat.reduceMul, reduceCtorEq, Nat.reduceLeDiff, Int.reduceLT, Int.reduceLE, Int.reduceToNat, Int.reduceEq, Nat.reduceLT, undef_eq]
  refine ⟨oτ.trans o4, ?_⟩
  rw [List.map_append, List.flatten_append, List.length_append]
  exact g4.from (by rw [hs']; exact oτ.1)
theorem rmany_app {σ : H} {v u : Value} {L : List (List Int)} {Q : List Int} (hL : Ls σ v L) (hU : Ps σ u Q) (hn : L.length ≤ 1000) (hQ : Q.length < 1000) (hG : Glob σ) :
  App Tryd.prog (.func 22) #[] #[v, u] σ fun w σ' => Old σ σ' ∧ ∃ x, w = .agg #[x, .int .i64 (manyE L Q)] ∧ Ls σ' x (manyP L Q) := by
 refine App.of_sem mixed Tryd.func22 t22 k22 r22 (Nat.le_of_ble_eq_true rfl) ?_
 obtain ⟨a, c, rfl⟩ := hL.slice
 obtain ⟨ua, uc, rfl⟩ := hU.slice
 rw [← ap_nil (σ := σ)]
 unfold s22 manyE manyP
 simp only [↓eD, eZ, ↓reduceIte, Nat.reduceEqDiff, Nat.reduceAdd, Nat.reduceMul, reduceCtorEq, Nat.reduceLeDiff, Int.reduceLT, Int.reduceLE, Int.reduceToNat, Int.reduceEq, Nat.reduceLT, undef_eq]
 refine appK_at (rasc_app (hU.Old .ap) (by omega)) ?_
 cases g1 : ascF (L.length : Int) (-1) Q with
 |false =>
  simp only [↓eD, eZ, ↓reduceIte, Nat.reduceEqDiff, Nat.reduceAdd, Nat.reduceMul, reduceCtorEq, Nat.reduceLeDiff, Int.reduceLT, Int.reduceLE, Int.reduceToNat, Int.reduceEq, Nat.reduceLT, Bool.not_false, undef_eq]
  rw [ap_nil]
  exact ⟨.ap, _, rfl, ls_nil⟩
 |true =>
 rw [if_pos rfl, if_pos rfl]
 by_cases g2 : L.length = 0
 ·have d2 : decide ((L.length : Int) = 0) = true := by rw [decide_eq_true]; omega
  rw [if_pos g2]
  simp only [↓eD, eZ, ↓reduceIte, Nat.reduceEqDiff, Nat.reduceAdd, Nat.reduceMul, reduceCtorEq, Nat.reduceLeDiff, Int.reduceLT, Int.reduceLE, Int.reduceToNat, Int.reduceEq, Nat.reduceLT, d2, Bool.not_true, undef_eq]
  rw [ap_nil]
  exact ⟨.ap, _, rfl, ls_nil⟩
 have d2 : decide ((L.length : Int) = 0) = false := by rw [decide_eq_false]; omega
 rw [if_neg g2]
 simp only [↓eD, eZ, ↓reduceIte, Nat.reduceEqDiff, Nat.reduceAdd, Nat.reduceMul, reduceCtorEq, Nat.reduceLeDiff, Int.reduceLT, Int.reduceLE, Int.reduceToNat, Int.reduceEq, Nat.reduceLT, d2, Bool.not_true, undef_eq]
 obtain ⟨hA, hm⟩ := asc_of g1
 have hw : withinF Q ((0 : Nat) : Int) ((0 + L.length : Nat) : Int) = Q := withinF_all fun p hp => by have := hm p hp; omega
 have h9 := rmany1_app L.length _ _ _ L 0 Q (Nat.le_refl _) (by omega) hn (by omega) hQ hA (hL.Old (.ap (l := [.cells 0 [.slice none 0 0, .int .i64 0] (0, 0)]))) (hU.Old .ap) (hG.Old .ap)
 rw [hw] at h9
 refine appK_of h9 ?_
 rintro u' τ ⟨oτ, hJ⟩
 rw [show ((0 : Nat) : Int) = 0 from rfl] at hJ
 have md := manyF_dig (N := L.length) (L := L) (fr := 0) (P := Q) (Nat.le_refl _) hL.d
 generalize manyF L 0 Q = R at hJ md ⊢
 obtain ⟨va, vc, rfl⟩ := hJ.slice
 have z0 : τ[σ.size]? = some (.cells 0 [.slice none 0 0, .int .i64 0] (0, 0)) := (oτ.2 _ (by rw [ap_size]; simp)).trans (by rw [ap_new0]; rfl)
 have k1 : wrN τ ⟨σ.size, 0, none⟩ [.slice va R.length vc, .int .i64 0] = some (τ.setIfInBounds σ.size (.cells 1 [.slice va R.length vc, .int .i64 0] (0, 0))) := by
  rw [wrN_eq, if_neg (by simp), z0, wrc_cells, if_pos ⟨by simp, rfl⟩]
  rfl
 have rf := rdN_all (n := 2) (get_set (k := .cells 1 [.slice va R.length vc, .int .i64 0] (0, 0)) z0) rfl
 simp only [↓eD, eZ, ↓reduceIte, Nat.reduceEqDiff, Nat.reduceAdd, Nat.reduceMul, reduceCtorEq, Nat.reduceLeDiff, Int.reduceLT, Int.reduceLE, Int.reduceToNat, Int.reduceEq, Nat.reduceLT, k1, rf, undef_eq]
 rw [ap_nil]
 have oF : Old σ τ := Old.ap.trans oτ
 have hg := hJ.set (b := σ.size) (k := .cells 1 [.slice va R.length vc, .int .i64 0] (0, 0)) (by rw [ap_size]; simp)
 exact ⟨oF.set (Nat.le_refl _), _, rfl, grown_ls hg md⟩
end Go.Proofs.YtjgbbhfihcmphaaDoor
