/- Walks and plain laws. Conditions: none. -/
import Derived.Test.YtjgbbhfihcmphaaDoorM4a
set_option linter.all false
set_option maxRecDepth 10000
set_option maxHeartbeats 4000000
namespace Go.Proofs.YtjgbbhfihcmphaaDoor
open Go Go.Cn Go.RowKit
attribute [local irreducible] evL sem onG onI onV
def lit19 : List Value := [.int .u8 0, .int .u8 0, .int .u8 0, .int .u8 0, .int .u8 0, .int .u8 0, .int .u8 0, .int .u8 0, .int .u8 0, .int .u8 0, .int .u8 0, .int .u8 0, .int .u8 0, .int .u8 0, .int .u8 0, .int .u8 0, .int .i64 0, .int .i64 0, .bool false]
def c19 (D : List Int) (f p : Int) (b : Bool) : List Value := digC D ++ [.int .i64 f, .int .i64 p, .bool b]
theorem c19_len {D : List Int} {f p : Int} {b : Bool} (h : D.length = 16) : (c19 D f p b).length = 19 := by unfold c19; rw [List.length_append, digC_length, h]; rfl
theorem c19_one {D : List Int} {f p : Int} {b : Bool} : (c19 D f p b).all Value.oneCell' = true := by unfold c19; rw [List.all_append, digC_one]; rfl
theorem c19_zero : c19 zeroD 0 0 false = [.int .u8 0, .int .u8 0, .int .u8 0, .int .u8 0, .int .u8 0, .int .u8 0, .int .u8 0, .int .u8 0, .int .u8 0, .int .u8 0, .int .u8 0, .int .u8 0, .int .u8 0, .int .u8 0, .int .u8 0, .int .u8 0, .int .i64 0, .int .i64 0, .bool false] := rfl
theorem c19_nil {D : List Int} {f p : Int} {b : Bool} (h : D.length = 16) : (c19 D f p b = []) = False := eq_false (by intro h9; have := c19_len (f := f) (p := p) (b := b) h; rw [h9] at this; cases this)
theorem c19_put {D : List Int} {f p : Int} {b : Bool} (h : D.length = 16) : sets [.int .u8 0, .int .u8 0, .int .u8 0, .int .u8 0, .int .u8 0, .int .u8 0, .int .u8 0, .int .u8 0, .int .u8 0, .int .u8 0, .int .u8 0, .int .u8 0, .int .u8 0, .int .u8 0, .int .u8 0, .int .u8 0, .int .i64 0, .int .i64 0, .bool false] 0 (c19 D f p b) = c19 D f p b := by
 have l := c19_len (f := f) (p := p) (b := b) h
 rw [sets_all (by rw [l]; show 0 + 19 ≤ 19; omega), l]
 show [] ++ c19 D f p b ++ [] = _
 rw [List.append_nil]
 rfl
theorem set19 {X : List Value} (h : X.length = 16) : sets [.int .u8 0, .int .u8 0, .int .u8 0, .int .u8 0, .int .u8 0, .int .u8 0, .int .u8 0, .int .u8 0, .int .u8 0, .int .u8 0, .int .u8 0, .int .u8 0, .int .u8 0, .int .u8 0, .int .u8 0, .int .u8 0, .int .i64 0, .int .i64 0, .bool false] 0 X = X ++ [.int .i64 0, .int .i64 0, .bool false] := by
 have e : ([.int .u8 0, .int .u8 0, .int .u8 0, .int .u8 0, .int .u8 0, .int .u8 0, .int .u8 0, .int .u8 0, .int .u8 0, .int .u8 0, .int .u8 0, .int .u8 0, .int .u8 0, .int .u8 0, .int .u8 0, .int .u8 0, .int .i64 0, .int .i64 0, .bool false] : List Value) = List.replicate 16 (.int .u8 0) ++ [.int .i64 0, .int .i64 0, .bool false] := rfl
 rw [e, sets_all (by rw [h]; simp), h]
 rfl
section
variable {X : List Value} {a b c y : Value}
theorem set16 (h : X.length = 16) : (X ++ [a, b, c]).set 16 y = X ++ [y, b, c] := by rw [List.set_append_right _ _ (by omega), h]; rfl
theorem set17' (h : X.length = 16) : (X ++ [a, b, c]).set 17 y = X ++ [a, y, c] := by rw [List.set_append_right _ _ (by omega), h]; rfl
theorem set18 (h : X.length = 16) : (X ++ [a, b, c]).set 18 y = X ++ [a, b, y] := by rw [List.set_append_right _ _ (by omega), h]; rfl
theorem len3 (h : X.length = 16) : (X ++ [a, b, c]).length = 19 := by rw [List.length_append, h]; rfl
end
theorem c19_get {D : List Int} {f p : Int} {b : Bool} (h : D.length = 16) : (c19 D f p b)[16]? = some (.int .i64 f) ∧ (c19 D f p b)[17]? = some (.int .i64 p) ∧ (c19 D f p b)[18]? = some (.bool b) ∧ (c19 D f p b).take 16 = digC D := by
 have lD : (digC D).length = 16 := by rw [digC_length, h]
 unfold c19
 refine ⟨?_, ?_, ?_, List.take_left' lD⟩
 all_goals
  rw [List.getElem?_append_right (by rw [lD]; omega), lD]
  rfl
theorem put19 {θ : H} {b : Nat} {D : List Int} {f p : Int} {q : Bool} (hD : D.length = 16) (hb : θ[b]? = some (.cells 0 lit19 (0, 0))) :
  wrN θ ⟨b, 0, none⟩ (c19 D f p q) = some (θ.setIfInBounds b (.cells 1 (c19 D f p q) (0, 0))) ∧ rdN (θ.setIfInBounds b (.cells 1 (c19 D f p q) (0, 0))) ⟨b, 0, none⟩ 19 = some (c19 D f p q) := by
 have l := c19_len (f := f) (p := p) (b := q) hD
 refine ⟨?_, rdN_all (get_set hb) l⟩
 rw [wrN_eq, if_neg (by intro h; rw [h] at l; cases l), hb, wrc_cells, if_pos ⟨by rw [l]; show 0 + 19 ≤ 19; omega, c19_one⟩, sets_all (by rw [l]; show 0 + 19 ≤ 19; omega), l]
 rw [show List.take 0 lit19 = [] from rfl, show List.drop (0 + 19) lit19 = [] from rfl, List.append_nil]
 rfl
theorem read19 {θ : H} {b ver : Nat} {D : List Int} {f p : Int} {q : Bool} (hD : D.length = 16) (hb : θ[b]? = some (.cells ver (c19 D f p q) (0, 0))) :
  rdN θ ⟨b, 0, none⟩ 16 = some (digC D) ∧ rd1 θ ⟨b, 16, none⟩ = some (.int .i64 f) ∧ rd1 θ ⟨b, 17, none⟩ = some (.int .i64 p) ∧ rd1 θ ⟨b, 18, none⟩ = some (.bool q) := by
 have l := c19_len (f := f) (p := p) (b := q) hD
 have lD : (digC D).length = 16 := by rw [digC_length, hD]
 refine ⟨?_, rd1_of hb .refl ?_, rd1_of hb .refl ?_, rd1_of hb .refl ?_⟩
 ·rw [rdN_eq, hb, rdcN_cells, if_neg (by decide), if_pos (by rw [l]; show 0 + 16 ≤ 19; omega), List.drop_zero]
  unfold c19
  rw [List.take_left' lD]
 all_goals
  unfold c19
  rw [List.getElem?_append_right (by rw [lD]; omega), lD]
  rfl
theorem rwalk_app : ∀ (N : Nat) (σ : H) (n fr : Nat) (P : List Int) (F L : List (List Int)) (u f v : Value), n ≤ N → 0 < n → fr + n ≤ 2199023255552 → P.length < 1000 → F.length ≤ 1000 → L.length ≤ 1000 → Asc P →
  Ps σ u P → Ls σ f F → Ls σ v L → Glob σ → (withinF P fr (fr + n : Nat)).length ≤ F.length →
  App Tryd.prog (.func 50) #[] #[.int .i64 (fr : Int), .int .i64 (n : Int), u, f, v] σ fun w σ' => Old σ σ' ∧ ∃ D x y, D.length = 16 ∧ w = .agg (c19 D x y (!(cmF fr n (withinF P fr (fr + n : Nat)) ⟨L, false, F, false⟩).2.s)).toArray ∧
   ((cmF fr n (withinF P fr (fr + n : Nat)) ⟨L, false, F, false⟩).2.s = false → D = (cmF fr n (withinF P fr (fr + n : Nat)) ⟨L, false, F, false⟩).1 ∧ x = ((withinF P fr (fr + n : Nat)).length : Int) ∧ y = (L.length : Int) - ((cmF fr n (withinF P fr (fr + n : Nat)) ⟨L, false, F, false⟩).2.L.length : Int)) := by
 intro N
 induction N with
 |zero => intro σ n fr P F L u f v h1 h2; omega
 |succ N ih =>
  intro σ n fr P F L u f v hN hpos hmx hP hFn hLn hA hU hF hL hG hle
  refine App.of_sem mixed Tryd.func50 t50 k50 r50 (Nat.le_of_ble_eq_true rfl) ?_
  obtain ⟨ua, uc, rfl⟩ := hU.slice
  obtain ⟨fa, fc, rfl⟩ := hF.slice
  obtain ⟨va, vc, rfl⟩ := hL.slice
  have wf0 : IntKind.wrap .i64 ((fr : Int) + (n : Int)) = ((fr + n : Nat) : Int) := by rw [wrap64' (by omega) (by omega)]; omega
  rw [← ap_nil (σ := σ)]
  unfold s50
  simp only [↓eD, eZ, ↓reduceIte, Nat.reduceEqDiff, Nat.reduceAdd, Nat.reduceMul, reduceCtorEq, Nat.reduceLeDiff, Int.reduceLT, Int.reduceLE, Int.reduceToNat, Int.reduceEq, Nat.reduceLT, wf0, undef_eq]
  refine appK_of (rwithin_app (hU.Old .ap) hP) ?_
  rintro w τ ⟨oτ, hW⟩
  have t0 : τ[σ.size]? = some (.cells 0 lit19 (0, 0)) := (oτ.2 _ (by rw [ap_size]; simp)).trans (by rw [ap_new0]; rfl)
  have sτ : σ.size < τ.size := (Array.getElem?_eq_some_iff.1 t0).1
  replace oτ : Old σ τ := Old.ap.trans oτ
  have hQA := withinF_asc (a := (fr : Int)) (b := ((fr + n : Nat) : Int)) hA
  have hQm : ∀ p ∈ withinF P (fr : Int) ((fr + n : Nat) : Int), (fr : Int) ≤ p ∧ p < ((fr + n : Nat) : Int) := fun p hp => withinF_mem hp
  have hQl : (withinF P (fr : Int) ((fr + n : Nat) : Int)).length < 1000 := Nat.lt_of_le_of_lt withinF_len hP
  generalize withinF P (fr : Int) ((fr + n : Nat) : Int) = Q at hW hQA hQm hQl hle ⊢
  obtain ⟨wa, wc, rfl⟩ := hW.slice
  have hLτ := hL.Old oτ
  have hFτ := hF.Old oτ
  have hGτ := hG.Old oτ
  by_cases h0 : Q.length = 0
  ·have e1 : decide ((Q.length : Int) = 0) = true := by rw [decide_eq_true]; omega
   have hR : cmF fr n Q ⟨L, false, F, false⟩ = (headD L, ⟨L.tail, false || L.isEmpty, F, false⟩) := by rw [cmF, if_pos (List.eq_nil_of_length_eq_zero h0)]
   rw [hR]
   by_cases h1 : L.length = 0
   ·have e2 : decide ((L.length : Int) = 0) = true := by rw [decide_eq_true]; omega
    have hL0 := List.eq_nil_of_length_eq_zero h1
    obtain ⟨w1, r1⟩ := put19 (f := 0) (p := 0) (q := false) zeroD_len t0
    rw [c19_zero] at w1 r1
    simp only [↓eD, eZ, ↓reduceIte, Nat.reduceEqDiff, Nat.reduceAdd, Nat.reduceMul, reduceCtorEq, Nat.reduceLeDiff, Int.reduceLT, Int.reduceLE, Int.reduceToNat, Int.reduceEq, Nat.reduceLT, e1, e2, w1, r1, undef_eq]
    rw [← c19_zero, hL0]
    exact ⟨oτ.set (Nat.le_refl _), zeroD, 0, 0, zeroD_len, rfl, fun h => by cases h⟩
   have e2 : decide ((L.length : Int) = 0) = false := by rw [decide_eq_false]; omega
   have hb : (0 : Int) ≤ 0 ∧ (0 : Int) < (L.length : Int) := by omega
   obtain ⟨b, o, rfl, hr⟩ := hLτ.at (i := 0) (by omega)
   rw [Nat.zero_mul, Nat.add_zero] at hr
   have D16 := hL.d (L[0]'(by omega)) (List.getElem_mem _)
   have hh : headD L = L[0]'(by omega) := by cases L with
    |nil => simp at h1
    |cons x r => rfl
   have he : L.isEmpty = false := by cases L with
    |nil => simp at h1
    |cons x r => rfl
   rw [hh, he]
   generalize L[0]'(by omega) = D at hr D16 ⊢
   obtain ⟨l1, l2, l3, l4⟩ := dig_len D16
   have tn0 : Int.toNat 0 = 0 := rfl
   obtain ⟨w1, r1⟩ := put19 (f := 0) (p := 1) (q := true) D16 t0
   unfold c19 at w1 r1
   have l3 : ∀ a b c, (digC D ++ [a, b, c]).length = 19 := fun _ _ _ => len3 l1
   simp only [↓eD, eZ, ↓reduceIte, Nat.reduceEqDiff, Nat.reduceAdd, Nat.reduceMul, reduceCtorEq, Nat.reduceLeDiff, Int.reduceLT, Int.reduceLE, Int.reduceToNat, Int.reduceEq, Nat.reduceLT, e1, e2, hb, tn0, hr, l1, set19 l1, set17' l1, set18 l1, l3, w1, r1, undef_eq]
   exact ⟨oτ.set (Nat.le_refl _), D, 0, 1, D16, rfl, fun _ => ⟨rfl, by omega, by rw [List.length_tail]; omega⟩⟩
  have e1 : decide ((Q.length : Int) = 0) = false := by rw [decide_eq_false]; omega
  have hQn : Q ≠ [] := fun h => h0 (by rw [h]; rfl)
  by_cases h1 : n = 1
  ·have e2 : decide ((n : Int) = 1) = true := by rw [decide_eq_true]; omega
   have hR : cmF fr n Q ⟨L, false, F, false⟩ = (headD F, ⟨L, false, F.tail, false || F.isEmpty⟩) := by rw [cmF, if_neg hQn, dif_pos (by omega)]
   rw [hR]
   have hq1 := one_place hQA (fr := (fr : Int)) (fun p hp => by have := hQm p hp; omega)
   have hb : (0 : Int) ≤ 0 ∧ (0 : Int) < (F.length : Int) := by omega
   obtain ⟨b, o, rfl, hr⟩ := hFτ.at (i := 0) (by omega)
   rw [Nat.zero_mul, Nat.add_zero] at hr
   have D16 := hF.d (F[0]'(by omega)) (List.getElem_mem _)
   have hh : headD F = F[0]'(by omega) := by
    cases F with
    |nil => simp at hb
    |cons x r => rfl
   rw [hh]
   generalize F[0]'(by omega) = D at hr D16 ⊢
   obtain ⟨l1, l2, l3', l4⟩ := dig_len D16
   have tn0 : Int.toNat 0 = 0 := rfl
   obtain ⟨w1, r1⟩ := put19 (f := 1) (p := 0) (q := true) D16 t0
   unfold c19 at w1 r1
   have l3 : ∀ a b c, (digC D ++ [a, b, c]).length = 19 := fun _ _ _ => len3 l1
   simp only [↓eD, eZ, ↓reduceIte, Nat.reduceEqDiff, Nat.reduceAdd, Nat.reduceMul, reduceCtorEq, Nat.reduceLeDiff, Int.reduceLT, Int.reduceLE, Int.reduceToNat, Int.reduceEq, Nat.reduceLT, e1, e2, hb, tn0, hr, l1, set19 l1, set16 l1, set18 l1, l3, w1, r1, undef_eq]
   exact ⟨oτ.set (Nat.le_refl _), D, 1, 0, D16, rfl, fun _ => ⟨rfl, by omega, by simp⟩⟩
  have e2 : decide ((n : Int) = 1) = false := by rw [decide_eq_false]; omega
  have hs := splitN_spec (n := n) (by omega)
  simp only [↓eD, eZ, ↓reduceIte, Nat.reduceEqDiff, Nat.reduceAdd, Nat.reduceMul, reduceCtorEq, Nat.reduceLeDiff, Int.reduceLT, Int.reduceLE, Int.reduceToNat, Int.reduceEq, Nat.reduceLT, e1, e2, undef_eq]
  refine appK_at (rsplit_app (by omega) (by omega)) ?_
  obtain ⟨k, hk⟩ : ∃ k, k = splitN n := ⟨_, rfl⟩
  rw [← hk] at hs ⊢
  have c1 : withinF Q (fr : Int) ((fr + k : Nat) : Int) = Q.take (cutK Q ((fr + k : Nat) : Int)) := withinF_left hQA hQm
  have c2 : withinF Q ((fr + k : Nat) : Int) ((fr + n : Nat) : Int) = Q.drop (cutK Q ((fr + k : Nat) : Int)) := withinF_right hQA hQm
  have ck := cutK_le (P := Q) (t := ((fr + k : Nat) : Int))
  have hR : cmF fr n Q ⟨L, false, F, false⟩ = (nodeF (cmF fr k (Q.take (cutK Q ((fr + k : Nat) : Int))) ⟨L, false, F, false⟩).1 (cmF ((fr + k : Nat) : Int) (n - k) (Q.drop (cutK Q ((fr + k : Nat) : Int))) (cmF fr k (Q.take (cutK Q ((fr + k : Nat) : Int))) ⟨L, false, F, false⟩).2).1,
    (cmF ((fr + k : Nat) : Int) (n - k) (Q.drop (cutK Q ((fr + k : Nat) : Int))) (cmF fr k (Q.take (cutK Q ((fr + k : Nat) : Int))) ⟨L, false, F, false⟩).2).2) := by
   rw [cmF, if_neg hQn, dif_neg (by omega), ← hk, Int.natCast_add]
  have hl1 : (Q.take (cutK Q ((fr + k : Nat) : Int))).length = cutK Q ((fr + k : Nat) : Int) := by rw [List.length_take]; omega
  have hl2 : (Q.drop (cutK Q ((fr + k : Nat) : Int))).length = Q.length - cutK Q ((fr + k : Nat) : Int) := List.length_drop
  have hm2 : ∀ p ∈ Q.drop (cutK Q ((fr + k : Nat) : Int)), ((fr + k : Nat) : Int) ≤ p ∧ p < ((fr + k : Nat) : Int) + ((n - k : Nat) : Int) := fun p hp => by
   rw [← c2] at hp
   have := withinF_mem hp
   omega
  obtain ⟨a1, a2, a3, a4⟩ := cm_use k k (fr : Int) (Q.take (cutK Q ((fr + k : Nat) : Int))) ⟨L, false, F, false⟩ (Nat.le_refl _) (by omega) hQA.take (fun p hp => by rw [← c1] at hp; have := withinF_mem hp; omega) (by rw [hl1]; show _ ≤ F.length; omega)
  have i1 := ih τ k fr Q F L _ _ _ (by omega) (by omega) (by omega) hQl hFn hLn hQA hW hFτ hLτ hGτ (by rw [c1, hl1]; omega)
  rw [c1, hl1] at i1
  rw [hR]
  have hQd : Asc (Q.drop (cutK Q ((fr + k : Nat) : Int))) := hQA.drop
  generalize Q.take (cutK Q ((fr + k : Nat) : Int)) = Q1 at i1 a1 a2 a3 a4 hl1 ⊢
  generalize hQ2 : Q.drop (cutK Q ((fr + k : Nat) : Int)) = Q2 at c2 hl2 hm2 hQd ⊢
  generalize cutK Q ((fr + k : Nat) : Int) = x at i1 hl1 hl2 ck
  rw [hl1] at a1
  generalize cmF fr k Q1 ⟨L, false, F, false⟩ = r at i1 a1 a2 a3 a4 ⊢
  obtain ⟨A, st⟩ := r
  simp only at i1 a1 a2 a3 a4 ⊢
  have wf : IntKind.wrap .i64 ((fr : Int) + (k : Int)) = ((fr + k : Nat) : Int) := by rw [wrap64' (by omega) (by omega)]; omega
  have wn : IntKind.wrap .i64 ((n : Int) - (k : Int)) = ((n - k : Nat) : Int) := by rw [wrap64' (by omega) (by omega)]; omega
  simp only [↓eD, eZ, ↓reduceIte, Nat.reduceEqDiff, Nat.reduceAdd, Nat.reduceMul, reduceCtorEq, Nat.reduceLeDiff, Int.reduceLT, Int.reduceLE, Int.reduceToNat, Int.reduceEq, Nat.reduceLT, undef_eq]
  refine appK_of i1 ?_
  rintro _ η ⟨oη, D1, x1, y1, D16, rfl, hx⟩
  have nn := c19_nil (f := x1) (p := y1) (b := !st.s) D16
  have ll := c19_len (f := x1) (p := y1) (b := !st.s) D16
  have oo := c19_one (D := D1) (f := x1) (p := y1) (b := !st.s)
  have pp := c19_put (f := x1) (p := y1) (b := !st.s) D16
  rw [← ap_nil (σ := η)]
  simp only [↓eD, eZ, ↓reduceIte, Nat.reduceEqDiff, Nat.reduceAdd, Nat.reduceMul, reduceCtorEq, Nat.reduceLeDiff, Int.reduceLT, Int.reduceLE, Int.reduceToNat, Int.reduceEq, Nat.reduceLT, nn, ll, oo, pp, undef_eq]
  obtain ⟨g16, g17, g18, gt⟩ := c19_get (f := x1) (p := y1) (b := !st.s) D16
  cases hs1 : st.s with
  |true =>
   rw [hs1, Bool.not_true] at g18 gt g16 g17
   obtain ⟨b1, b2, b3, b4⟩ := cm_use (n - k) (n - k) ((fr + k : Nat) : Int) Q2 st (Nat.le_refl _) (by omega) hQd hm2 (by rw [a1, List.length_drop]; omega)
   have tη : (ap η [.cells 1 (c19 D1 x1 y1 false) (0, 0)])[σ.size]? = some (.cells 0 lit19 (0, 0)) := (ap_old (by have := oη.1; omega)).trans ((oη.2 _ sτ).trans t0)
   obtain ⟨w1, r1⟩ := put19 (f := 0) (p := 0) (q := false) zeroD_len tη
   rw [c19_zero] at w1 r1
   simp only [↓eD, eZ, ↓reduceIte, Nat.reduceEqDiff, Nat.reduceAdd, Nat.reduceMul, reduceCtorEq, Nat.reduceLeDiff, Int.reduceLT, Int.reduceLE, Int.reduceToNat, Int.reduceEq, Nat.reduceLT, g18, w1, r1, Bool.not_false, undef_eq]
   rw [← c19_zero, b3 hs1]
   exact ⟨(oτ.trans (oη.trans .ap)).set (Nat.le_refl _), zeroD, 0, 0, zeroD_len, rfl, fun h => by cases h⟩
  |false =>
  rw [hs1, Bool.not_false] at g18 gt g16 g17
  obtain ⟨rfl, rfl, rfl⟩ := hx hs1
  obtain ⟨q, hq, hsq⟩ := a4 hs1
  obtain ⟨sL, sS, sF, sT⟩ := st
  simp only at hs1 a1 a2 hsq hq g16 g17 g18 gt nn ll oo pp ⊢
  subst hs1 a1 a2 hsq
  rw [List.length_drop, show (L.length : Int) - ((L.length - q : Nat) : Int) = (q : Int) by omega] at g16 g17 g18 gt ⊢
  obtain ⟨v1, s1, F1, _⟩ := hFτ.sub (lo := x) (hi := F.length) (xl := some (.int .i64 (x : Int))) (xh := none) (xm := none) (by omega) (by omega) (Nat.lt_of_le_of_lt hFn (by decide)) (.inl rfl) (.inr ⟨rfl, rfl, rfl⟩) (.inl rfl)
  obtain ⟨v2, s2, L2, _⟩ := hLτ.sub (lo := q) (hi := L.length) (xl := some (.int .i64 (q : Int))) (xh := none) (xm := none) hq (by omega) (Nat.lt_of_le_of_lt hLn (by decide)) (.inl rfl) (.inr ⟨rfl, rfl, rfl⟩) (.inl rfl)
  rw [List.take_length] at F1 L2
  simp only [↓eD, eZ, ↓reduceIte, Nat.reduceEqDiff, Nat.reduceAdd, Nat.reduceMul, reduceCtorEq, Nat.reduceLeDiff, Int.reduceLT, Int.reduceLE, Int.reduceToNat, Int.reduceEq, Nat.reduceLT, g16, g17, g18, s1, s2, wf, wn, Bool.not_true, undef_eq]
  obtain ⟨X, hX⟩ : ∃ X, X = ap η [.cells 1 (c19 D1 x q true) (0, 0), .cells 0 [.int .u8 0, .int .u8 0, .int .u8 0, .int .u8 0, .int .u8 0, .int .u8 0, .int .u8 0, .int .u8 0, .int .u8 0, .int .u8 0, .int .u8 0, .int .u8 0, .int .u8 0, .int .u8 0, .int .u8 0, .int .u8 0, .int .i64 0, .int .i64 0, .bool false] (0, 0)] := ⟨_, rfl⟩
  rw [← hX]
  have oX : Old η X := by rw [hX]; exact .ap
  have sX : X.size = η.size + 2 := by rw [hX]; simp [ap_size]
  have x0 : X[η.size]? = some (.cells 1 (c19 D1 x q true) (0, 0)) := by rw [hX, ap_new0]; rfl
  have x1 : X[η.size + 1]? = some (.cells 0 lit19 (0, 0)) := by rw [hX, ap_new]; rfl
  clear hX
  have oτX := oη.trans oX
  have i2 := ih X (n - k) (fr + k) Q (F.drop x) (L.drop q) _ _ _ (by omega) (by omega) (by omega) hQl (by rw [List.length_drop]; omega) (by rw [List.length_drop]; omega) hQA (hW.Old oτX) (F1.Old oτX) (L2.Old oτX) (hGτ.Old oτX) (by rw [show fr + k + (n - k) = fr + n by omega, c2, hl2, List.length_drop]; omega)
  rw [show fr + k + (n - k) = fr + n by omega, c2, hl2, List.length_drop] at i2
  obtain ⟨b1, b2, b3, b4⟩ := cm_use (n - k) (n - k) ((fr + k : Nat) : Int) Q2 ⟨L.drop q, false, F.drop x, false⟩ (Nat.le_refl _) (by omega) hQd hm2 (by show Q2.length ≤ (F.drop x).length; rw [List.length_drop]; omega)
  generalize cmF ((fr + k : Nat) : Int) (n - k) Q2 ⟨L.drop q, false, F.drop x, false⟩ = r2 at i2 b1 b2 b3 b4 ⊢
  refine appK_of i2 ?_
  rintro _ ζ ⟨oζ, D2, x2, y2, D216, rfl, hx2⟩
  obtain ⟨w2, -⟩ := put19 (f := x2) (p := y2) (q := !r2.2.s) D216 ((oζ.2 _ (by omega)).trans x1)
  obtain ⟨V, hV⟩ : ∃ V, V = ζ.setIfInBounds (η.size + 1) (.cells 1 (c19 D2 x2 y2 (!r2.2.s)) (0, 0)) := ⟨_, rfl⟩
  rw [← hV] at w2
  have v1' : V[η.size + 1]? = some (.cells 1 (c19 D2 x2 y2 (!r2.2.s)) (0, 0)) := by rw [hV]; exact get_set ((oζ.2 _ (by omega)).trans x1)
  have v0' : V[η.size]? = some (.cells 1 (c19 D1 x q true) (0, 0)) := by rw [hV]; exact (get_set_ne (by omega)).trans ((oζ.2 _ (by omega)).trans x0)
  have oV : Old η V := by rw [hV]; exact (oX.trans oζ).set (by omega)
  clear hV
  obtain ⟨p1, p2, p3, p4⟩ := read19 D16 v0'
  obtain ⟨q1, q2, q3, q4⟩ := read19 D216 v1'
  have nn2 := c19_nil (f := x2) (p := y2) (b := !r2.2.s) D216
  have ll2 := c19_len (f := x2) (p := y2) (b := !r2.2.s) D216
  simp only [↓eD, eZ, ↓reduceIte, Nat.reduceEqDiff, Nat.reduceAdd, Nat.reduceMul, reduceCtorEq, Nat.reduceLeDiff, Int.reduceLT, Int.reduceLE, Int.reduceToNat, Int.reduceEq, Nat.reduceLT, w2, ll2, p1, p2, p3, p4, q1, q2, q3, q4, undef_eq]
  refine appK_at (rnode_app D16 D216 (hGτ.Old (oη.trans oV))) ?_
  have N16 : (nodeF D1 D2).length = 16 := nodeF_len
  have hfin : r2.2.s = false → nodeF D1 D2 = nodeF D1 r2.1 ∧ IntKind.wrap .i64 ((x : Int) + x2) = (Q.length : Int) ∧ IntKind.wrap .i64 ((q : Int) + y2) = (L.length : Int) - (r2.2.L.length : Int) := fun h => by
   obtain ⟨e1, e2, e3⟩ := hx2 h
   obtain ⟨q', hq', e4⟩ := b4 h
   have l4 : r2.2.L.length = L.length - q - q' := by rw [e4]; show ((L.drop q).drop q').length = _; rw [List.length_drop, List.length_drop]
   have hq'' : q' ≤ L.length - q := by have h9 : q' ≤ (L.drop q).length := hq'; rwa [List.length_drop] at h9
   refine ⟨by rw [e1], ?_, ?_⟩
   ·rw [wrap64' (by omega) (by omega)]; omega
   ·rw [wrap64' (by omega) (by omega)]; omega
  generalize nodeF D1 D2 = E at N16 hfin ⊢
  generalize IntKind.wrap .i64 ((x : Int) + x2) = X2 at hfin ⊢
  generalize IntKind.wrap .i64 ((q : Int) + y2) = Y2 at hfin ⊢
  obtain ⟨m1, m2, m3, m4⟩ := dig_len N16
  have l3 : ∀ a b c, (digC E ++ [a, b, c]).length = 19 := fun _ _ _ => len3 m1
  obtain ⟨w1, r1⟩ := put19 (f := X2) (p := Y2) (q := !r2.2.s) N16 ((oV.2 _ (by have := oη.1; omega)).trans ((oη.2 _ sτ).trans t0))
  unfold c19 at w1 r1
  simp only [↓eD, eZ, ↓reduceIte, Nat.reduceEqDiff, Nat.reduceAdd, Nat.reduceMul, reduceCtorEq, Nat.reduceLeDiff, Int.reduceLT, Int.reduceLE, Int.reduceToNat, Int.reduceEq, Nat.reduceLT, p2, p3, q2, q3, q4, m1, set19 m1, set16 m1, set17' m1, set18 m1, l3, w1, r1, undef_eq]
  exact ⟨(oτ.trans (oη.trans oV)).set (Nat.le_refl _), E, X2, Y2, N16, rfl, hfin⟩
theorem rchkm_app {σ : H} {v u f : Value} {root : List Int} {Q : List Int} {F L : List (List Int)} {n : Int} (hr : root.length = 16) (hU : Ps σ u Q) (hF : Ls σ f F) (hL : Ls σ v L) (hQ : Q.length < 1000) (hn : L.length ≤ 1000) (hn' : F.length ≤ 1000) (hG : Glob σ) :
  App Tryd.prog (.func 24) #[] #[.int .i64 n, u, f, v, .agg (digC root).toArray] σ fun w σ' => σ' = σ ∧ w = .bool (chkM n Q F L root) := by
 refine App.forget (App.of_sem mixed Tryd.func24 t24 k24 r24 (Nat.le_of_ble_eq_true rfl) ?_)
 obtain ⟨a, c, rfl⟩ := hL.slice
 obtain ⟨ua, uc, rfl⟩ := hU.slice
 obtain ⟨fa, fc, rfl⟩ := hF.slice
 obtain ⟨p1, p2, p3, p4⟩ := dig_len hr
 rw [← ap_nil (σ := σ)]
 unfold s24 chkM
 by_cases g1 : n < 0
 ·have d1 : decide (n < 0) = true := decide_eq_true g1
  rw [if_pos (.inl g1)]
  simp only [↓eD, eZ, ↓reduceIte, Nat.reduceEqDiff, Nat.reduceAdd, Nat.reduceMul, reduceCtorEq, Nat.reduceLeDiff, Int.reduceLT, Int.reduceLE, Int.reduceToNat, Int.reduceEq, Nat.reduceLT, p1, p2, d1, undef_eq]
  first | exact ⟨.ap, rfl, rfl⟩ | exact ⟨.ap, rfl⟩
 have d1 : decide (n < 0) = false := decide_eq_false g1
 by_cases g2 : 1099511627776 < n
 ·have d2 : decide (1099511627776 < n) = true := decide_eq_true g2
  rw [if_pos (.inr (.inl g2))]
  simp only [↓eD, eZ, ↓reduceIte, Nat.reduceEqDiff, Nat.reduceAdd, Nat.reduceMul, reduceCtorEq, Nat.reduceLeDiff, Int.reduceLT, Int.reduceLE, Int.reduceToNat, Int.reduceEq, Nat.reduceLT, p1, p2, d1, d2, undef_eq]
  first | exact ⟨.ap, rfl, rfl⟩ | exact ⟨.ap, rfl⟩
 have d2 : decide (1099511627776 < n) = false := decide_eq_false g2
 simp only [↓eD, eZ, ↓reduceIte, Nat.reduceEqDiff, Nat.reduceAdd, Nat.reduceMul, reduceCtorEq, Nat.reduceLeDiff, Int.reduceLT, Int.reduceLE, Int.reduceToNat, Int.reduceEq, Nat.reduceLT, p1, p2, d1, d2, undef_eq]
 refine appK_at (rasc_app (hU.Old .ap) (by omega)) ?_
 cases g3 : ascF n (-1) Q with
 |false =>
  rw [if_pos (.inr (.inr (.inl rfl)))]
  simp only [↓eD, eZ, ↓reduceIte, Nat.reduceEqDiff, Nat.reduceAdd, Nat.reduceMul, reduceCtorEq, Nat.reduceLeDiff, Int.reduceLT, Int.reduceLE, Int.reduceToNat, Int.reduceEq, Nat.reduceLT, Bool.not_false, undef_eq]
  first | exact ⟨.ap, rfl, rfl⟩ | exact ⟨.ap, rfl⟩
 |true =>
 by_cases g4 : F.length = Q.length
 case neg =>
  have d4 : decide ((F.length : Int) = (Q.length : Int)) = false := by rw [decide_eq_false]; omega
  rw [if_pos (.inr (.inr (.inr g4)))]
  simp only [↓eD, eZ, ↓reduceIte, Nat.reduceEqDiff, Nat.reduceAdd, Nat.reduceMul, reduceCtorEq, Nat.reduceLeDiff, Int.reduceLT, Int.reduceLE, Int.reduceToNat, Int.reduceEq, Nat.reduceLT, d4, Bool.not_true, Bool.not_false, undef_eq]
  first | exact ⟨.ap, rfl, rfl⟩ | exact ⟨.ap, rfl⟩
 have d4 : decide ((F.length : Int) = (Q.length : Int)) = true := by rw [decide_eq_true]; omega
 rw [if_neg (fun h => h.elim g1 fun h => h.elim g2 fun h => h.elim (fun h => by cases h) fun h => h g4)]
 obtain ⟨m, rfl⟩ : ∃ m : Nat, n = (m : Int) := ⟨n.toNat, by omega⟩
 rw [Int.toNat_natCast]
 by_cases g5 : (m : Int) = 0
 ·have d5 : decide ((m : Int) = 0) = true := decide_eq_true g5
  rw [if_pos g5]
  by_cases g6 : L.length = 0
  ·have d6 : decide ((L.length : Int) = 0) = true := by rw [decide_eq_true]; omega
   have hLe : L.isEmpty = true := by rw [List.isEmpty_iff]; exact List.eq_nil_of_length_eq_zero g6
   have ae := aggEq_dig (a := root) (b := emptyF) hr emptyF_len
   simp only [↓eD, eZ, ↓reduceIte, Nat.reduceEqDiff, Nat.reduceAdd, Nat.reduceMul, reduceCtorEq, Nat.reduceLeDiff, Int.reduceLT, Int.reduceLE, Int.reduceToNat, Int.reduceEq, Nat.reduceLT, p1, p2, d4, d5, d6, Bool.not_true, undef_eq]
   refine appK_at (rempty_app (hG.Old .ap)) ?_
   simp only [↓eD, eZ, ↓reduceIte, Nat.reduceEqDiff, Nat.reduceAdd, Nat.reduceMul, reduceCtorEq, Nat.reduceLeDiff, Int.reduceLT, Int.reduceLE, Int.reduceToNat, Int.reduceEq, Nat.reduceLT, ae, hLe, p1, p2, undef_eq]
   first | exact ⟨.ap, rfl, by rw [Bool.and_true]⟩ | exact ⟨.ap, rfl⟩ | exact .ap
  ·have d6 : decide ((L.length : Int) = 0) = false := by rw [decide_eq_false]; omega
   have hLe : L.isEmpty = false := by cases L with
    |nil => simp at g6
    |cons x r => rfl
   simp only [↓eD, eZ, ↓reduceIte, Nat.reduceEqDiff, Nat.reduceAdd, Nat.reduceMul, reduceCtorEq, Nat.reduceLeDiff, Int.reduceLT, Int.reduceLE, Int.reduceToNat, Int.reduceEq, Nat.reduceLT, p1, p2, d4, d5, d6, Bool.not_true, undef_eq]
   first | exact ⟨.ap, rfl, by rw [hLe, Bool.and_false]⟩ | (rw [hLe, Bool.and_false]; first | exact ⟨.ap, rfl, rfl⟩ | exact ⟨.ap, rfl⟩ | exact .ap)
 have d5 : decide ((m : Int) = 0) = false := decide_eq_false g5
 rw [if_neg g5]
 obtain ⟨hA, hm⟩ := asc_of g3
 have hw : withinF Q ((0 : Nat) : Int) ((0 + m : Nat) : Int) = Q := withinF_all fun p hp => by have := hm p hp; omega
 simp only [↓eD, eZ, ↓reduceIte, Nat.reduceEqDiff, Nat.reduceAdd, Nat.reduceMul, reduceCtorEq, Nat.reduceLeDiff, Int.reduceLT, Int.reduceLE, Int.reduceToNat, Int.reduceEq, Nat.reduceLT, p1, p2, d4, d5, Bool.not_true, undef_eq]
 have o1 : Old σ (ap σ [.cells 0 (digC root) (0, 0)]) := .ap
 have h9 := rwalk_app m _ m 0 Q F L _ _ _ (Nat.le_refl _) (by omega) (by omega) hQ hn' hn hA (hU.Old o1) (hF.Old o1) (hL.Old o1) (hG.Old o1) (by rw [hw]; omega)
 rw [hw, show ((0 : Nat) : Int) = 0 from rfl] at h9
 refine appK_of h9 ?_
 clear h9
 generalize cmF 0 m Q ⟨L, false, F, false⟩ = r
 rintro _ τ ⟨oτ, D, x, y, D16, rfl, hx⟩
 have t0 : τ[σ.size]? = some (.cells 0 (digC root) (0, 0)) := (oτ.2 _ (by rw [ap_size]; simp)).trans (by rw [ap_new0]; rfl)
 have nn := c19_nil (f := x) (p := y) (b := !r.2.s) D16
 have ll := c19_len (f := x) (p := y) (b := !r.2.s) D16
 have oo := c19_one (D := D) (f := x) (p := y) (b := !r.2.s)
 have pp := c19_put (f := x) (p := y) (b := !r.2.s) D16
 obtain ⟨g16, g17, g18, gt⟩ := c19_get (f := x) (p := y) (b := !r.2.s) D16
 obtain ⟨l1, l2, l3, l4⟩ := dig_len D16
 have rt : ∀ M, rdN (ap τ M) ⟨σ.size, 0, none⟩ 16 = some (digC root) := fun M => rdb_of t0 .ap p1
 have oF : Old σ τ := o1.trans oτ
 have ae := aggEq_dig (a := D) (b := root) D16 hr
 cases hs : r.2.s with
 |true =>
  rw [hs, Bool.not_true] at nn ll oo pp g16 g17 g18 gt
  rw [← ap_nil (σ := τ)]
  simp only [↓eD, eZ, ↓reduceIte, Nat.reduceEqDiff, Nat.reduceAdd, Nat.reduceMul, reduceCtorEq, Nat.reduceLeDiff, Int.reduceLT, Int.reduceLE, Int.reduceToNat, Int.reduceEq, Nat.reduceLT, nn, ll, oo, pp, g18, Bool.not_true, undef_eq]
  first | exact ⟨oF.trans .ap, rfl, by rw [Bool.and_false, Bool.false_and]⟩ | exact ⟨oF.trans .ap, rfl⟩ | exact oF.trans .ap
 |false =>
  obtain ⟨rfl, rfl, rfl⟩ := hx hs
  rw [hs, Bool.not_false] at nn ll oo pp g16 g17 g18 gt
  rw [← ap_nil (σ := τ)]
  by_cases g6 : r.2.L.length = 0
  ·have d6 : decide ((L.length : Int) - (r.2.L.length : Int) = (L.length : Int)) = true := by rw [decide_eq_true]; omega
   have hLe : r.2.L.isEmpty = true := by rw [List.isEmpty_iff]; exact List.eq_nil_of_length_eq_zero g6
   simp only [↓eD, eZ, ↓reduceIte, Nat.reduceEqDiff, Nat.reduceAdd, Nat.reduceMul, reduceCtorEq, Nat.reduceLeDiff, Int.reduceLT, Int.reduceLE, Int.reduceToNat, Int.reduceEq, Nat.reduceLT, nn, ll, oo, pp, g17, g18, d6, gt, rt, ae, Bool.not_false, undef_eq]
   exact ⟨oF.trans .ap, rfl, by rw [hLe, Bool.and_true]⟩
  ·have d6 : decide ((L.length : Int) - (r.2.L.length : Int) = (L.length : Int)) = false := by rw [decide_eq_false]; omega
   have hLe : r.2.L.isEmpty = false := by
    cases hl : r.2.L with
    |nil => rw [hl] at g6; simp at g6
    |cons x r => rfl
   simp only [↓eD, eZ, ↓reduceIte, Nat.reduceEqDiff, Nat.reduceAdd, Nat.reduceMul, reduceCtorEq, Nat.reduceLeDiff, Int.reduceLT, Int.reduceLE, Int.reduceToNat, Int.reduceEq, Nat.reduceLT, nn, ll, oo, pp, g17, g18, d6, Bool.not_false, undef_eq]
   first | exact ⟨oF.trans .ap, rfl, by rw [hLe, Bool.and_false]⟩ | exact ⟨oF.trans .ap, rfl⟩ | exact oF.trans .ap
theorem manyP_len {L : List (List Int)} {Q : List Int} (h : L.length ≤ 40) : (manyP L Q).length ≤ 40 := by
 unfold manyP
 split
 ·split
  ·simp
  ·have := manyF_len (N := L.length) (L := L) (fr := 0) (P := Q) (Nat.le_refl _) (by omega); omega
 ·simp
theorem law4 {σ : H} {v u f p : Value} {L F M : List (List Int)} {Q : List Int} {n : Int} {root : List Int} (hL : Ls σ v L) (hU : Ps σ u Q) (hF : Ls σ f F) (hM : Ls σ p M) (hr : root.length = 16) (hG : HGlob σ) (hR : Glob σ) (hB : BGlob σ) :
  App Tryd.prog (.func 4) #[] #[v, u, .int .i64 n, f, p, .agg (digC root).toArray] σ fun w σ' => Old σ σ' ∧ w = .bool true := by
 refine App.of_sem mixed Tryd.func4 t4 k4 r4 (Nat.le_of_ble_eq_true rfl) ?_
 obtain ⟨a, c, rfl⟩ := hL.slice
 obtain ⟨ua, uc, rfl⟩ := hU.slice
 obtain ⟨fa, fc, rfl⟩ := hF.slice
 obtain ⟨pa, pc, rfl⟩ := hM.slice
 obtain ⟨q1, q2, q3, q4⟩ := dig_len hr
 rw [← ap_nil (σ := σ)]
 unfold s4
 by_cases h1 : 40 < L.length
 ·have e1 : decide ((40 : Int) < (L.length : Int)) = true := by rw [decide_eq_true]; omega
  simp only [↓eD, eZ, ↓reduceIte, Nat.reduceEqDiff, Nat.reduceAdd, Nat.reduceMul, reduceCtorEq, Nat.reduceLeDiff, Int.reduceLT, Int.reduceLE, Int.reduceToNat, Int.reduceEq, Nat.reduceLT, e1, q1, q2, undef_eq]
  refine appK_of (sanity_app (hG.Old .ap) (hR.Old .ap) (hB.Old .ap)) ?_
  rintro _ τ ⟨o, rfl⟩
  simp only [↓eD, eZ, ↓reduceIte, Nat.reduceEqDiff, Nat.reduceAdd, Nat.reduceMul, reduceCtorEq, Nat.reduceLeDiff, Int.reduceLT, Int.reduceLE, Int.reduceToNat, Int.reduceEq, Nat.reduceLT, undef_eq]
  rw [ap_nil]
  exact Old.ap.trans o
 have e1 : decide ((40 : Int) < (L.length : Int)) = false := by rw [decide_eq_false]; omega
 by_cases h2 : 12 < Q.length
 ·have e2 : decide ((12 : Int) < (Q.length : Int)) = true := by rw [decide_eq_true]; omega
  simp only [↓eD, eZ, ↓reduceIte, Nat.reduceEqDiff, Nat.reduceAdd, Nat.reduceMul, reduceCtorEq, Nat.reduceLeDiff, Int.reduceLT, Int.reduceLE, Int.reduceToNat, Int.reduceEq, Nat.reduceLT, e1, e2, q1, q2, undef_eq]
  refine appK_of (sanity_app (hG.Old .ap) (hR.Old .ap) (hB.Old .ap)) ?_
  rintro _ τ ⟨o, rfl⟩
  simp only [↓eD, eZ, ↓reduceIte, Nat.reduceEqDiff, Nat.reduceAdd, Nat.reduceMul, reduceCtorEq, Nat.reduceLeDiff, Int.reduceLT, Int.reduceLE, Int.reduceToNat, Int.reduceEq, Nat.reduceLT, undef_eq]
  rw [ap_nil]
  exact Old.ap.trans o
 have e2 : decide ((12 : Int) < (Q.length : Int)) = false := by rw [decide_eq_false]; omega
 by_cases h3 : 12 < F.length
 ·have e3 : decide ((12 : Int) < (F.length : Int)) = true := by rw [decide_eq_true]; omega
  simp only [↓eD, eZ, ↓reduceIte, Nat.reduceEqDiff, Nat.reduceAdd, Nat.reduceMul, reduceCtorEq, Nat.reduceLeDiff, Int.reduceLT, Int.reduceLE, Int.reduceToNat, Int.reduceEq, Nat.reduceLT, e1, e2, e3, q1, q2, undef_eq]
  refine appK_of (sanity_app (hG.Old .ap) (hR.Old .ap) (hB.Old .ap)) ?_
  rintro _ τ ⟨o, rfl⟩
  simp only [↓eD, eZ, ↓reduceIte, Nat.reduceEqDiff, Nat.reduceAdd, Nat.reduceMul, reduceCtorEq, Nat.reduceLeDiff, Int.reduceLT, Int.reduceLE, Int.reduceToNat, Int.reduceEq, Nat.reduceLT, undef_eq]
  rw [ap_nil]
  exact Old.ap.trans o
 have e3 : decide ((12 : Int) < (F.length : Int)) = false := by rw [decide_eq_false]; omega
 by_cases h4 : 60 < M.length
 ·have e4 : decide ((60 : Int) < (M.length : Int)) = true := by rw [decide_eq_true]; omega
  simp only [↓eD, eZ, ↓reduceIte, Nat.reduceEqDiff, Nat.reduceAdd, Nat.reduceMul, reduceCtorEq, Nat.reduceLeDiff, Int.reduceLT, Int.reduceLE, Int.reduceToNat, Int.reduceEq, Nat.reduceLT, e1, e2, e3, e4, q1, q2, undef_eq]
  refine appK_of (sanity_app (hG.Old .ap) (hR.Old .ap) (hB.Old .ap)) ?_
  rintro _ τ ⟨o, rfl⟩
  simp only [↓eD, eZ, ↓reduceIte, Nat.reduceEqDiff, Nat.reduceAdd, Nat.reduceMul, reduceCtorEq, Nat.reduceLeDiff, Int.reduceLT, Int.reduceLE, Int.reduceToNat, Int.reduceEq, Nat.reduceLT, undef_eq]
  rw [ap_nil]
  exact Old.ap.trans o
 have e4 : decide ((60 : Int) < (M.length : Int)) = false := by rw [decide_eq_false]; omega
 simp only [↓eD, eZ, ↓reduceIte, Nat.reduceEqDiff, Nat.reduceAdd, Nat.reduceMul, reduceCtorEq, Nat.reduceLeDiff, Int.reduceLT, Int.reduceLE, Int.reduceToNat, Int.reduceEq, Nat.reduceLT, e1, e2, e3, e4, q1, q2, undef_eq]
 refine appK_of (lmany_app (hL.Old .ap) (hU.Old .ap) (by omega) (by omega) (hG.Old .ap)) ?_
 rintro _ τ ⟨oτ, x, rfl, hx⟩
 have z0 : τ[σ.size]? = some (.cells 0 (digC root) (0, 0)) := (oτ.2 _ (by rw [ap_size]; simp)).trans (by rw [ap_new0]; rfl)
 replace oτ : Old σ τ := Old.ap.trans oτ
 obtain ⟨xa, xc, rfl⟩ := hx.slice
 simp only [↓eD, eZ, ↓reduceIte, Nat.reduceEqDiff, Nat.reduceAdd, Nat.reduceMul, reduceCtorEq, Nat.reduceLeDiff, Int.reduceLT, Int.reduceLE, Int.reduceToNat, Int.reduceEq, Nat.reduceLT, undef_eq]
 refine appK_of (rmany_app (hL.Old oτ) (hU.Old oτ) (by omega) (by omega) (hR.Old oτ)) ?_
 rintro _ η ⟨oη, y, rfl, hy⟩
 obtain ⟨ya, yc, rfl⟩ := hy.slice
 have y0 := (oη.2 _ (Array.getElem?_eq_some_iff.1 z0).1).trans z0
 have hxη := hx.Old oη
 have oση := oτ.trans oη
 have hPl := manyP_len (Q := Q) (show L.length ≤ 40 by omega)
 clear hx z0
 generalize manyP L Q = P at hxη hy hPl
 generalize manyE L Q = E
 rw [← ap_nil (σ := η)]
 simp only [↓eD, eZ, ↓reduceIte, Nat.reduceEqDiff, Nat.reduceAdd, Nat.reduceMul, reduceCtorEq, Nat.reduceLeDiff, Int.reduceLT, Int.reduceLE, Int.reduceToNat, Int.reduceEq, Nat.reduceLT, undef_eq]
 obtain ⟨X, hX⟩ : ∃ X, X = ap η [.cells 1 [.slice ya P.length yc, .int .i64 E] (0, 0)] := ⟨_, rfl⟩
 rw [← hX]
 have oX : Old η X := by rw [hX]; exact .ap
 have x0 : X[η.size]? = some (.cells 1 [.slice ya P.length yc, .int .i64 E] (0, 0)) := by rw [hX, ap_new0]; rfl
 clear hX
 have oσX := oση.trans oX
 refine appK_of (sanity_app (hG.Old oσX) (hR.Old oσX) (hB.Old oσX)) ?_
 rintro _ ξ ⟨oξ, rfl⟩
 have oηξ := oX.trans oξ
 have t0 := (oξ.2 _ (Array.getElem?_eq_some_iff.1 x0).1).trans x0
 have t1 := (oηξ.2 _ (Array.getElem?_eq_some_iff.1 y0).1).trans y0
 have a0 : rd1 ξ ⟨η.size, 0, none⟩ = some (.slice ya P.length yc) := rd1_of t0 .refl rfl
 have a1 : rd1 ξ ⟨η.size, 1, none⟩ = some (.int .i64 E) := rd1_of t0 .refl rfl
 have a2 := rdN_all (n := 16) t1 q1
 have eE : decide (E = E) = true := decide_eq_true rfl
 have oσξ := oση.trans oηξ
 simp only [↓eD, eZ, ↓reduceIte, Nat.reduceEqDiff, Nat.reduceAdd, Nat.reduceMul, reduceCtorEq, Nat.reduceLeDiff, Int.reduceLT, Int.reduceLE, Int.reduceToNat, Int.reduceEq, Nat.reduceLT, a0, undef_eq]
 refine appK_at (same_app (hxη.Old oηξ) (hy.Old oηξ) (by omega)) ?_
 rw [decide_eq_true rfl]
 simp only [↓eD, eZ, ↓reduceIte, Nat.reduceEqDiff, Nat.reduceAdd, Nat.reduceMul, reduceCtorEq, Nat.reduceLeDiff, Int.reduceLT, Int.reduceLE, Int.reduceToNat, Int.reduceEq, Nat.reduceLT, a1, a2, eE, undef_eq]
 refine appK_at (chkm_app hr (hU.Old oσξ) (hF.Old oσξ) (hM.Old oσξ) (by omega) (by omega) (by omega) (hG.Old oσξ)) ?_
 simp only [↓eD, eZ, ↓reduceIte, Nat.reduceEqDiff, Nat.reduceAdd, Nat.reduceMul, reduceCtorEq, Nat.reduceLeDiff, Int.reduceLT, Int.reduceLE, Int.reduceToNat, Int.reduceEq, Nat.reduceLT, a2, undef_eq]
 refine appK_at (rchkm_app hr (hU.Old oσξ) (hF.Old oσξ) (hM.Old oσξ) (by omega) (by omega) (by omega) (hR.Old oσξ)) ?_
 cases chkM n Q F M root
 all_goals
  simp only [↓eD, eZ, ↓reduceIte, Nat.reduceEqDiff, Nat.reduceAdd, Nat.reduceMul, reduceCtorEq, Nat.reduceLeDiff, Int.reduceLT, Int.reduceLE, Int.reduceToNat, Int.reduceEq, Nat.reduceLT, undef_eq]
  rw [ap_nil]
  first | exact oσξ | exact ⟨oσξ, rfl⟩
end Go.Proofs.YtjgbbhfihcmphaaDoor
