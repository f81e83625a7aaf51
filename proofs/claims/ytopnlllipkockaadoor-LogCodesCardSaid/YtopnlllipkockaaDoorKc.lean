/- Walks and plain laws. Conditions: none. -/
import Derived.Test.YtopnlllipkockaaDoorKb
set_option linter.all false
set_option maxRecDepth 10000
set_option maxHeartbeats 8000000
namespace Go.Proofs.YtopnlllipkockaaDoor
open Go Go.Cn Go.RowKit
attribute [local irreducible] evL sem onG onI onV
theorem dbad_app {σ : H} : App Tryd.prog (.func 59) #[] #[] σ fun v σ' => Old σ σ' ∧ v = .tuple #[.agg zeroL.toArray, .int .i64 11] := by
 refine App.of_sem mixed Tryd.func59 t59 k59 r59 (Nat.le_of_ble_eq_true rfl) ?_
 rw [← ap_nil (σ := σ)]
 unfold s59
 simp only [↓eD, eZ, ↓reduceIte, Nat.reduceEqDiff, Nat.reduceAdd, Nat.reduceMul, reduceCtorEq, Nat.reduceLeDiff, Int.reduceLT, Int.reduceLE, Int.reduceToNat, Int.reduceEq, Nat.reduceLT, undef_eq]
 first | exact ⟨.ap, rfl⟩ | exact .ap
theorem retz {θ : H} {b : Nat} (h : θ[b]? = some (.cells 0 zeroL (0, 0))) : wrN θ ⟨b, 0, none⟩ zeroL = some (θ.setIfInBounds b (.cells 1 zeroL (0, 0))) := by
 have := ret19 (d := List.replicate 16 0) (c := 0) (v := .slice none 0 0) (w := .slice none 0 0) rfl h rec_one
 rwa [← zeroL_rec] at this
theorem whl_int {σ : H} {a : Option Addr} {c i : Nat} {x : List Int} (h : Whl σ 1 (.slice a x.length c) x.length (x.map (.int .i64))) (hi : i < x.length) : ∃ k o, a = some ⟨k, o, none⟩ ∧ rd1 σ ⟨k, o + i, none⟩ = some (.int .i64 x[i]) := by
 obtain ⟨k, o, h1, h2⟩ := h.at (by omega)
 exact ⟨k, o, h1, rd1_row h2 (by simp [hi])⟩
theorem whl_str {σ : H} {a : Option Addr} {c i : Nat} {x : List ByteArray} (h : Whl σ 1 (.slice a x.length c) x.length (x.map .string)) (hi : i < x.length) : ∃ k o, a = some ⟨k, o, none⟩ ∧ rd1 σ ⟨k, o + i, none⟩ = some (.string x[i]) := by
 obtain ⟨k, o, h1, h2⟩ := h.at (by omega)
 exact ⟨k, o, h1, rd1_row h2 (by simp [hi])⟩
theorem Whl.oldB {σ τ : H} {s n b : Nat} {v : Value} {cs : List Value} (h : Whl σ s v n cs) (hb : ∀ c, baseOf v = some c → c ≠ b) (ho : OldB b σ τ) (hs : 0 < s) : Whl τ s v n cs := by
 obtain ⟨h1, h2 | ⟨k, o, cap, rfl, h3, h4⟩⟩ := h
 ·exact ⟨h1, .inl h2⟩
 ·by_cases hn : n = 0
  ·subst hn
   have hc : cs = [] := by simpa using h1
   subst hc
   refine ⟨h1, .inr ⟨k, o, cap, rfl, h3, ?_⟩⟩
   rw [Nat.zero_mul, rdN_eq, if_pos rfl]
  ·refine ⟨h1, .inr ⟨k, o, cap, rfl, h3, ?_⟩⟩
   have hne := hb k rfl
   have hk : k < σ.size := by
    rw [rdN_eq, if_neg (Nat.mul_ne_zero hn (by omega))] at h4
    cases hq : σ[k]? with
    |none => simp only [hq] at h4; cases h4
    |some q => exact (Array.getElem?_eq_some_iff.1 hq).1
   rw [rdN_eq] at h4 ⊢
   show (if n * s = 0 then some [] else rdcN τ[k]? _ (n * s)) = _
   rw [ho.2 k hk hne]
   exact h4
theorem entsOf_get : ∀ {D : List ByteArray} {x : List Int} {i : Nat} (h : i < D.length), (entsOf x D)[i]? = some ⟨(x.drop (4 * i)).getD 0 0, (x.drop (4 * i)).getD 1 0, (x.drop (4 * i)).getD 2 0, (x.drop (4 * i)).getD 3 0, D[i]⟩
 |s :: D, x, 0, h => by rw [entsOf]; simp
 |s :: D, x, i + 1, h => by
  rw [entsOf, List.getElem?_cons_succ, entsOf_get (by simpa using h), List.drop_drop, show 4 + 4 * i = 4 * (i + 1) by omega]
  simp
theorem seasOf_get : ∀ {x b : List Int} {i : Nat} (h : i < x.length), (seasOf x b)[i]? = some ⟨x[i], (b.drop (32 * i)).take 16, ((b.drop (32 * i)).drop 16).take 16⟩
 |s :: D, x, 0, h => by rw [seasOf]; simp
 |s :: D, x, i + 1, h => by
  rw [seasOf, List.getElem?_cons_succ, seasOf_get (by simpa using h), List.drop_drop, show 32 + 32 * i = 32 * (i + 1) by omega]
  simp
theorem take_get {α : Type} {l : List α} {i : Nat} {x : α} (h : l[i]? = some x) : l.take (i + 1) = l.take i ++ [x] := by
 obtain ⟨hi, rfl⟩ := List.getElem?_eq_some_iff.1 h
 exact List.take_succ_eq_append_getElem hi
theorem OldB.set {b : Nat} {σ τ : H} {k : Blk} (h : OldB b σ τ) : OldB b σ (τ.setIfInBounds b k) := ⟨by simpa using h.1, fun c h1 h2 => (get_set_ne (Ne.symm h2)).trans (h.2 c h1 h2)⟩
theorem OldB.grow {b : Nat} {σ τ τ1 τ' : H} {s n0 n : Nat} {v v' : Value} {cs0 cs : List Value} (h : OldB b σ τ) (ho : Old τ τ1) (A : Ap (sized σ.size) τ1 τ' s v v' cs n) (hg : Grown (sized σ.size) τ1 s v cs0 n0) : OldB b σ τ' := by
 have h1 := h.1
 have h2 := ho.1
 have h3 := A.size
 refine ⟨by omega, fun c hc hne => ?_⟩
 have h4 : σ[c]? = some σ[c] := Array.getElem?_eq_getElem hc
 rw [h4]
 exact A.low hg (by rw [sized_size]; exact hc) ((ho.2 c (by omega)).trans ((h.2 c hc hne).trans h4))
theorem OldB.Old' {b : Nat} {σ τ τ' : H} (h : OldB b σ τ) (ho : Old τ τ') : OldB b σ τ' := by
 have h1 := h.1
 have h2 := ho.1
 exact ⟨by omega, fun c hc hne => (ho.2 c (by omega)).trans (h.2 c hc hne)⟩
theorem OldB.old {b : Nat} {ρ σ τ : H} (h : OldB b σ τ) (ho : Old ρ σ) (hb : ρ.size ≤ b) : Old ρ τ := by
 have h1 := h.1
 have h2 := ho.1
 exact ⟨by omega, fun c hc => (h.2 c (by omega) (by omega)).trans (ho.2 c hc)⟩
theorem rdN_lt {σ : H} {k o n : Nat} {cs : List Value} (h : rdN σ ⟨k, o, none⟩ n = some cs) (hn : 0 < n) : k < σ.size := by
 rw [rdN_eq, if_neg (by omega)] at h
 cases hq : σ[k]? with
 |none => simp only [hq] at h; cases h
 |some q => exact (Array.getElem?_eq_some_iff.1 hq).1
theorem wdecode_app {σ : H} {sl : Value} {b : List Int} (hw : Whl σ 1 sl b.length (digC b)) (hb : Byt b) (hl : b.length < 1000000) (hH : HGlob σ) :
  App Tryd.prog (.func 34) #[] #[sl] σ fun v σ' => Old σ σ' ∧ ∃ l' a1 b1 a2 b2, v = .tuple #[.agg l'.toArray, .int .i64 (decF b).2] ∧ LgR σ' l' (decF b).1 a1 b1 a2 b2 ∧ ((decF b).2 = 0 → LgV σ' l' (decF b).1 a1 b1 a2 b2) := by
 refine App.of_sem mixed Tryd.func34 t34 k34 r34 (Nat.le_of_ble_eq_true rfl) ?_
 obtain ⟨a, c, rfl⟩ := hw.slice
 rw [← ap_nil (σ := σ)]
 unfold s34
 have lz : zeroL.length = 19 := rfl
 by_cases h16 : b.length < 16
 ·have d1 : decide ((b.length : Int) < 16) = true := by rw [decide_eq_true]; omega
  have hf : decF b = (.zero, 11) := if_pos h16
  simp only [↓eD, eZ, ↓reduceIte, Nat.reduceEqDiff, Nat.reduceAdd, Nat.reduceMul, reduceCtorEq, Nat.reduceLeDiff, Int.reduceLT, Int.reduceLE, Int.reduceToNat, Int.reduceEq, Nat.reduceLT, d1, undef_eq]
  rw [← zeroL]
  refine appK_of dbad_app ?_
  rintro v η ⟨hη, rfl⟩
  have z2 : η[σ.size]? = some (.cells 0 zeroL (0, 0)) := (hη.2 _ (by simp [ap_size])).trans (by rw [ap_new0]; rfl)
  have w := retz z2
  have r := rdN_all (get_set (k := .cells 1 zeroL (0, 0)) z2) lz
  simp only [↓eD, eZ, ↓reduceIte, Nat.reduceEqDiff, Nat.reduceAdd, Nat.reduceMul, reduceCtorEq, Nat.reduceLeDiff, Int.reduceLT, Int.reduceLE, Int.reduceToNat, Int.reduceEq, Nat.reduceLT, lz, w, r, hf, undef_eq]
  exact ⟨(Old.ap.trans hη).set (Nat.le_refl _), zeroL, none, 0, none, 0, rfl, zr, fun h => by cases h⟩
 have d1 : decide ((b.length : Int) < 16) = false := by rw [decide_eq_false]; omega
 have hu : decF b = _ := if_neg h16
 obtain ⟨v16, hs16, hv16⟩ := sliceV_whl (lo := 0) (hi := 16) (L := none) (hw.Old (Old.ap (l := [.cells 0 zeroL (0, 0)]))) (.inr ⟨rfl, rfl⟩) (by omega) (by omega)
 rw [Nat.mul_one, Nat.mul_one, digC_sub, List.drop_zero] at hv16
 obtain ⟨ka, kc, rfl⟩ := hv16.slice
 obtain ⟨k, o, rfl, hr16⟩ := hv16.at (by omega)
 rw [Nat.mul_one] at hr16
 obtain ⟨v1, hs1, hw1, hbase1⟩ := whl_suf (lo := 16) (hw.Old (Old.ap (l := [.cells 0 zeroL (0, 0), .cells 1 (recC (b.take 16) 0 (.slice none 0 0) (.slice none 0 0)) (0, 0)]))) (by omega)
 rw [Nat.mul_one, digC_drop] at hw1
 have ld : (b.take 16).length = 16 := by rw [List.length_take]; omega
 have tb : (16 ≤ 16) = True := by simp
 have rs19 : ∀ z : List Value, z.length = 19 → sets z 0 (recC (b.take 16) 0 (.slice none 0 0) (.slice none 0 0)) = recC (b.take 16) 0 (.slice none 0 0) (.slice none 0 0) := fun z hz => rec_sets ld hz
 rw [Nat.sub_zero] at hs16 hv16 hr16
 have hs1' : sliceV 1 (.slice a b.length c) (some (.int .i64 16)) none none = some v1 := hs1
 have hb0 : sets zeroL 0 (digC (b.take 16)) = recC (b.take 16) 0 (.slice none 0 0) (.slice none 0 0) := rec_build ld
 have hbl : (b.drop 16).length = b.length - 16 := List.length_drop
 rw [← hbl] at hw1
 simp only [↓eD, eZ, ↓reduceIte, Nat.reduceEqDiff, Nat.reduceAdd, Nat.reduceMul, reduceCtorEq, Nat.reduceLeDiff, Int.reduceLT, Int.reduceLE, Int.reduceToNat, Int.reduceEq, Nat.reduceLT, d1, undef_eq]
 rw [← zeroL]
 refine onV_of hs16 ?_
 simp only [↓eD, eZ, ↓reduceIte, Nat.reduceEqDiff, Nat.reduceAdd, Nat.reduceMul, reduceCtorEq, Nat.reduceLeDiff, Int.reduceLT, Int.reduceLE, Int.reduceToNat, Int.reduceEq, Nat.reduceLT, hr16, digC_length, ld, lz, hb0, rec_len ld, rec_take ld, rs19, rec_one, rec_ne, hs1', undef_eq]
 generalize hT1 : ap σ [.cells 0 zeroL (0, 0), .cells 1 (recC (b.take 16) 0 (.slice none 0 0) (.slice none 0 0)) (0, 0)] = T1 at hw1
 have oT1 : Old σ T1 := by rw [← hT1]; exact .ap
 have sT1 : T1.size = σ.size + 2 := by rw [← hT1]; simp [ap_size]
 have z0 : T1[σ.size]? = some (.cells 0 zeroL (0, 0)) := by rw [← hT1, ap_new0]; rfl
 have z1 : T1[σ.size + 1]? = some (.cells 1 (recC (b.take 16) 0 (.slice none 0 0) (.slice none 0 0)) (0, 0)) := by rw [← hT1, ap_new]; rfl
 clear hT1
 have hb1 : Byt (b.drop 16) := byt_drop hb
 refine appK_of (wget_ints_app hw1 hb1 (by omega)) ?_
 rintro v θ1 ⟨ho1, xs, rfl, gx⟩
 generalize hX : listF getF 1 (b.drop 16) = X at gx ⊢
 obtain ⟨x, n, e⟩ := X
 dsimp only at gx ⊢
 have wx := gx.whl
 obtain ⟨xa, xc, rfl⟩ := gx.slice
 have oθ1 : Old σ θ1 := oT1.trans ho1
 have y0 : θ1[σ.size]? = some (.cells 0 zeroL (0, 0)) := (ho1.2 _ (by omega)).trans z0
 have y1 := (ho1.2 _ (by omega)).trans z1
 rw [hX] at hu
 dsimp only at hu
 by_cases he : e = 0
 case neg =>
  have de : decide (e = 0) = false := decide_eq_false he
  have hf : decF b = (.zero, 11) := by rw [hu, if_pos (.inl he)]
  simp only [↓eD, eZ, ↓reduceIte, Nat.reduceEqDiff, Nat.reduceAdd, Nat.reduceMul, reduceCtorEq, Nat.reduceLeDiff, Int.reduceLT, Int.reduceLE, Int.reduceToNat, Int.reduceEq, Nat.reduceLT, de, Bool.not_false, undef_eq]
  refine appK_of dbad_app ?_
  rintro v η ⟨hη, rfl⟩
  have zη := (hη.2 _ (Array.getElem?_eq_some_iff.1 y0).1).trans y0
  have wη := retz zη
  have rη := rdN_all (get_set (k := .cells 1 zeroL (0, 0)) zη) lz
  simp only [↓eD, eZ, ↓reduceIte, Nat.reduceEqDiff, Nat.reduceAdd, Nat.reduceMul, reduceCtorEq, Nat.reduceLeDiff, Int.reduceLT, Int.reduceLE, Int.reduceToNat, Int.reduceEq, Nat.reduceLT, lz, wη, rη, hf, undef_eq]
  exact ⟨(oθ1.trans hη).set (Nat.le_refl _), zeroL, none, 0, none, 0, rfl, zr, fun h => by cases h⟩
 subst he
 have de : decide ((0 : Int) = 0) = true := rfl
 obtain ⟨i1, i2, i3⟩ := listF_read int_one hb1 hX
 by_cases hx3 : 3 ≤ x.length
 case neg =>
  have d3 : decide ((x.length : Int) < 3) = true := by rw [decide_eq_true]; omega
  have hf : decF b = (.zero, 11) := by rw [hu, if_pos (.inr (by unfold formX; rw [decide_eq_false_iff_not]; exact fun h => hx3 h.1))]
  simp only [↓eD, eZ, ↓reduceIte, Nat.reduceEqDiff, Nat.reduceAdd, Nat.reduceMul, reduceCtorEq, Nat.reduceLeDiff, Int.reduceLT, Int.reduceLE, Int.reduceToNat, Int.reduceEq, Nat.reduceLT, de, d3, Bool.not_true, Bool.not_false, undef_eq]
  refine appK_of dbad_app ?_
  rintro v η ⟨hη, rfl⟩
  have zη := (hη.2 _ (Array.getElem?_eq_some_iff.1 y0).1).trans y0
  have wη := retz zη
  have rη := rdN_all (get_set (k := .cells 1 zeroL (0, 0)) zη) lz
  simp only [↓eD, eZ, ↓reduceIte, Nat.reduceEqDiff, Nat.reduceAdd, Nat.reduceMul, reduceCtorEq, Nat.reduceLeDiff, Int.reduceLT, Int.reduceLE, Int.reduceToNat, Int.reduceEq, Nat.reduceLT, lz, wη, rη, hf, undef_eq]
  exact ⟨(oθ1.trans hη).set (Nat.le_refl _), zeroL, none, 0, none, 0, rfl, zr, fun h => by cases h⟩
 have d3 : decide ((x.length : Int) < 3) = false := by rw [decide_eq_false]; omega
 obtain ⟨xk, xo, hxa, rx0⟩ := whl_int wx (i := 0) (by omega)
 obtain ⟨_, _, hxa1, rx1⟩ := whl_int wx (i := 1) (by omega)
 obtain ⟨_, _, hxa2, rx2⟩ := whl_int wx (i := 2) (by omega)
 subst hxa
 injection hxa1 with hxa1
 injection hxa1 with q1 q2
 subst q1 q2
 injection hxa2 with hxa2
 injection hxa2 with q1 q2
 subst q1 q2
 have gd : ∀ j (h : j < x.length), x.getD j 0 = x[j] := fun j h => (List.getElem_eq_getD (l := x) (i := j) 0 (h := h)).symm
 obtain ⟨x0, hx0⟩ : ∃ x0, x0 = x.getD 0 0 := ⟨_, rfl⟩
 obtain ⟨x1, hx1⟩ : ∃ x1, x1 = x.getD 1 0 := ⟨_, rfl⟩
 obtain ⟨x2, hx2⟩ : ∃ x2, x2 = x.getD 2 0 := ⟨_, rfl⟩
 rw [← gd 0 (by omega), ← hx0] at rx0
 rw [← gd 1 (by omega), ← hx1] at rx1
 rw [← gd 2 (by omega), ← hx2] at rx2
 rw [Nat.add_zero] at rx0
 have bx1 : (0:Int) ≤ 1 ∧ (1:Int) < (x.length : Int) := by omega
 have bx2 : (0:Int) ≤ 2 ∧ (2:Int) < (x.length : Int) := by omega
 have bx0 : (0:Int) ≤ 0 ∧ (0:Int) < (x.length : Int) := by omega
 have tn1 : Int.toNat 1 = 1 := rfl
 have tn2 : Int.toNat 2 = 2 := rfl
 have tn0 : Int.toNat 0 = 0 := rfl
 simp only [↓eD, eZ, ↓reduceIte, Nat.reduceEqDiff, Nat.reduceAdd, Nat.reduceMul, reduceCtorEq, Nat.reduceLeDiff, Int.reduceLT, Int.reduceLE, Int.reduceToNat, Int.reduceEq, Nat.reduceLT, de, d3, bx1, tn1, rx1, Bool.not_true, undef_eq]
 refine appK_at within_app ?_
 by_cases hw1' : 0 ≤ x1 ∧ x1 ≤ 4096
 case neg =>
  have dw : (decide (0 ≤ x1) && decide (x1 ≤ 4096)) = false := by rw [← Bool.decide_and]; exact decide_eq_false hw1'
  have hf : decF b = (.zero, 11) := by rw [hu, if_pos (.inr (by unfold formX; rw [decide_eq_false_iff_not, ← hx1]; exact fun h => hw1' ⟨h.2.1, h.2.2.1⟩))]
  simp only [↓eD, eZ, ↓reduceIte, Nat.reduceEqDiff, Nat.reduceAdd, Nat.reduceMul, reduceCtorEq, Nat.reduceLeDiff, Int.reduceLT, Int.reduceLE, Int.reduceToNat, Int.reduceEq, Nat.reduceLT, dw, Bool.not_false, undef_eq]
  refine appK_of dbad_app ?_
  rintro v η ⟨hη, rfl⟩
  have zη := (hη.2 _ (Array.getElem?_eq_some_iff.1 y0).1).trans y0
  have wη := retz zη
  have rη := rdN_all (get_set (k := .cells 1 zeroL (0, 0)) zη) lz
  simp only [↓eD, eZ, ↓reduceIte, Nat.reduceEqDiff, Nat.reduceAdd, Nat.reduceMul, reduceCtorEq, Nat.reduceLeDiff, Int.reduceLT, Int.reduceLE, Int.reduceToNat, Int.reduceEq, Nat.reduceLT, lz, wη, rη, hf, undef_eq]
  exact ⟨(oθ1.trans hη).set (Nat.le_refl _), zeroL, none, 0, none, 0, rfl, zr, fun h => by cases h⟩
 have dw1 : (decide (0 ≤ x1) && decide (x1 ≤ 4096)) = true := by rw [← Bool.decide_and]; exact decide_eq_true hw1'
 simp only [↓eD, eZ, ↓reduceIte, Nat.reduceEqDiff, Nat.reduceAdd, Nat.reduceMul, reduceCtorEq, Nat.reduceLeDiff, Int.reduceLT, Int.reduceLE, Int.reduceToNat, Int.reduceEq, Nat.reduceLT, dw1, bx2, tn2, rx2, Bool.not_true, undef_eq]
 refine appK_at within_app ?_
 by_cases hw2' : 0 ≤ x2 ∧ x2 ≤ 256
 case neg =>
  have dw : (decide (0 ≤ x2) && decide (x2 ≤ 256)) = false := by rw [← Bool.decide_and]; exact decide_eq_false hw2'
  have hf : decF b = (.zero, 11) := by rw [hu, if_pos (.inr (by unfold formX; rw [decide_eq_false_iff_not, ← hx2]; exact fun h => hw2' ⟨h.2.2.2.1, h.2.2.2.2.1⟩))]
  simp only [↓eD, eZ, ↓reduceIte, Nat.reduceEqDiff, Nat.reduceAdd, Nat.reduceMul, reduceCtorEq, Nat.reduceLeDiff, Int.reduceLT, Int.reduceLE, Int.reduceToNat, Int.reduceEq, Nat.reduceLT, dw, Bool.not_false, undef_eq]
  refine appK_of dbad_app ?_
  rintro v η ⟨hη, rfl⟩
  have zη := (hη.2 _ (Array.getElem?_eq_some_iff.1 y0).1).trans y0
  have wη := retz zη
  have rη := rdN_all (get_set (k := .cells 1 zeroL (0, 0)) zη) lz
  simp only [↓eD, eZ, ↓reduceIte, Nat.reduceEqDiff, Nat.reduceAdd, Nat.reduceMul, reduceCtorEq, Nat.reduceLeDiff, Int.reduceLT, Int.reduceLE, Int.reduceToNat, Int.reduceEq, Nat.reduceLT, lz, wη, rη, hf, undef_eq]
  exact ⟨(oθ1.trans hη).set (Nat.le_refl _), zeroL, none, 0, none, 0, rfl, zr, fun h => by cases h⟩
 have dw2 : (decide (0 ≤ x2) && decide (x2 ≤ 256)) = true := by rw [← Bool.decide_and]; exact decide_eq_true hw2'
 have wm1 : IntKind.wrap .i64 (4 * x1) = 4 * x1 := wrap64' (by omega) (by omega)
 have wm2 : IntKind.wrap .i64 (3 + 4 * x1) = 3 + 4 * x1 := wrap64' (by omega) (by omega)
 have wm3 : IntKind.wrap .i64 (3 + 4 * x1 + x2) = 3 + 4 * x1 + x2 := wrap64' (by omega) (by omega)
 by_cases hxl : (x.length : Int) = 3 + 4 * x1 + x2
 case neg =>
  have dx : decide ((x.length : Int) = 3 + 4 * x1 + x2) = false := decide_eq_false hxl
  have hf : decF b = (.zero, 11) := by rw [hu, if_pos (.inr (by unfold formX; rw [decide_eq_false_iff_not, ← hx1, ← hx2]; exact fun h => hxl h.2.2.2.2.2))]
  simp only [↓eD, eZ, ↓reduceIte, Nat.reduceEqDiff, Nat.reduceAdd, Nat.reduceMul, reduceCtorEq, Nat.reduceLeDiff, Int.reduceLT, Int.reduceLE, Int.reduceToNat, Int.reduceEq, Nat.reduceLT, dw2, bx1, tn1, rx1, bx2, tn2, rx2, wm1, wm2, wm3, dx, Bool.not_true, Bool.not_false, undef_eq]
  refine appK_of dbad_app ?_
  rintro v η ⟨hη, rfl⟩
  have zη := (hη.2 _ (Array.getElem?_eq_some_iff.1 y0).1).trans y0
  have wη := retz zη
  have rη := rdN_all (get_set (k := .cells 1 zeroL (0, 0)) zη) lz
  simp only [↓eD, eZ, ↓reduceIte, Nat.reduceEqDiff, Nat.reduceAdd, Nat.reduceMul, reduceCtorEq, Nat.reduceLeDiff, Int.reduceLT, Int.reduceLE, Int.reduceToNat, Int.reduceEq, Nat.reduceLT, lz, wη, rη, hf, undef_eq]
  exact ⟨(oθ1.trans hη).set (Nat.le_refl _), zeroL, none, 0, none, 0, rfl, zr, fun h => by cases h⟩
 have dx : decide ((x.length : Int) = 3 + 4 * x1 + x2) = true := decide_eq_true hxl
 have hfx : formX x = true := by unfold formX; rw [decide_eq_true_eq, ← hx1, ← hx2]; omega
 rw [if_neg (by rw [hfx]; simp)] at hu
 obtain ⟨va, ca, hva⟩ := hw1.slice
 subst hva
 obtain ⟨v2, hs2, hw2, hbase2⟩ := whl_suf (lo := n) (hw1.Old ho1) (by rw [hbl] at i3; rw [hbl]; omega)
 rw [Nat.mul_one, digC_drop] at hw2
 have hbl2 : ((b.drop 16).drop n).length = (b.drop 16).length - n := List.length_drop
 rw [← hbl2] at hw2
 have hb2 : Byt ((b.drop 16).drop n) := byt_drop hb1
 simp only [↓eD, eZ, ↓reduceIte, Nat.reduceEqDiff, Nat.reduceAdd, Nat.reduceMul, reduceCtorEq, Nat.reduceLeDiff, Int.reduceLT, Int.reduceLE, Int.reduceToNat, Int.reduceEq, Nat.reduceLT, dw2, bx1, tn1, rx1, bx2, tn2, rx2, wm1, wm2, wm3, dx, hs2, Bool.not_true, Bool.not_false, undef_eq]
 refine appK_of (wget_strs_app hw2 hb2 (by omega)) ?_
 rintro v θ2 ⟨ho2, ds, rfl, gd2⟩
 generalize hY : listF bytF 1 ((b.drop 16).drop n) = Y at gd2 ⊢
 obtain ⟨D, m, f⟩ := Y
 rw [hY] at hu
 dsimp only at gd2 hu ⊢
 have wd := gd2.whl
 obtain ⟨da, dc, rfl⟩ := gd2.slice
 have oθ2 : Old σ θ2 := oθ1.trans ho2
 have w0 := (ho2.2 _ (Array.getElem?_eq_some_iff.1 y0).1).trans y0
 have w1 := (ho2.2 _ (Array.getElem?_eq_some_iff.1 y1).1).trans y1
 have rx0' := rd1_Old ho2 rx0
 have rx1' := rd1_Old ho2 rx1
 have rx2' := rd1_Old ho2 rx2
 by_cases hf0 : f = 0
 case neg =>
  have df : decide (f = 0) = false := decide_eq_false hf0
  have hf : decF b = (.zero, 11) := by rw [hu, if_pos (.inl hf0)]
  simp only [↓eD, eZ, ↓reduceIte, Nat.reduceEqDiff, Nat.reduceAdd, Nat.reduceMul, reduceCtorEq, Nat.reduceLeDiff, Int.reduceLT, Int.reduceLE, Int.reduceToNat, Int.reduceEq, Nat.reduceLT, df, Bool.not_false, undef_eq]
  refine appK_of dbad_app ?_
  rintro v η ⟨hη, rfl⟩
  have zη := (hη.2 _ (Array.getElem?_eq_some_iff.1 w0).1).trans w0
  have wη := retz zη
  have rη := rdN_all (get_set (k := .cells 1 zeroL (0, 0)) zη) lz
  simp only [↓eD, eZ, ↓reduceIte, Nat.reduceEqDiff, Nat.reduceAdd, Nat.reduceMul, reduceCtorEq, Nat.reduceLeDiff, Int.reduceLT, Int.reduceLE, Int.reduceToNat, Int.reduceEq, Nat.reduceLT, lz, wη, rη, hf, undef_eq]
  exact ⟨(oθ2.trans hη).set (Nat.le_refl _), zeroL, none, 0, none, 0, rfl, zr, fun h => by cases h⟩
 subst hf0
 obtain ⟨s1, _, s3⟩ := listF_read str_one hb2 hY
 by_cases hDl : (D.length : Int) = x1
 case neg =>
  have dD : decide ((D.length : Int) = x1) = false := decide_eq_false hDl
  have hf : decF b = (.zero, 11) := by rw [hu, if_pos (.inr (by rw [← hx1]; exact hDl))]
  simp only [↓eD, eZ, ↓reduceIte, Nat.reduceEqDiff, Nat.reduceAdd, Nat.reduceMul, reduceCtorEq, Nat.reduceLeDiff, Int.reduceLT, Int.reduceLE, Int.reduceToNat, Int.reduceEq, Nat.reduceLT, de, bx1, tn1, rx1', dD, Bool.not_true, Bool.not_false, undef_eq]
  refine appK_of dbad_app ?_
  rintro v η ⟨hη, rfl⟩
  have zη := (hη.2 _ (Array.getElem?_eq_some_iff.1 w0).1).trans w0
  have wη := retz zη
  have rη := rdN_all (get_set (k := .cells 1 zeroL (0, 0)) zη) lz
  simp only [↓eD, eZ, ↓reduceIte, Nat.reduceEqDiff, Nat.reduceAdd, Nat.reduceMul, reduceCtorEq, Nat.reduceLeDiff, Int.reduceLT, Int.reduceLE, Int.reduceToNat, Int.reduceEq, Nat.reduceLT, lz, wη, rη, hf, undef_eq]
  exact ⟨(oθ2.trans hη).set (Nat.le_refl _), zeroL, none, 0, none, 0, rfl, zr, fun h => by cases h⟩
 have dD : decide ((D.length : Int) = x1) = true := decide_eq_true hDl
 rw [if_neg (fun h => h.elim (fun h => h rfl) (fun h => h (by rw [← hx1]; exact hDl)))] at hu
 obtain ⟨vb, cb, hvb⟩ := hw2.slice
 subst hvb
 obtain ⟨v3, hs3, hw3, hbase3⟩ := whl_suf (lo := m) (hw2.Old ho2) (by omega)
 rw [Nat.mul_one, digC_drop] at hw3
 have hdd : ((b.drop 16).drop n).drop m = (b.drop 16).drop (n + m) := List.drop_drop
 rw [hdd] at hw3
 have hbl3 : ((b.drop 16).drop (n + m)).length = (b.drop 16).length - (n + m) := List.length_drop
 have hbl3' : ((b.drop 16).drop n).length - m = ((b.drop 16).drop (n + m)).length := by omega
 rw [hbl3'] at hw3
 obtain ⟨vc, cc, hvc⟩ := hw3.slice
 subst hvc
 have wm4 : IntKind.wrap .i64 (32 * x2) = 32 * x2 := wrap64' (by omega) (by omega)
 by_cases hbt : (((b.drop 16).drop (n + m)).length : Int) = 32 * x2
 case neg =>
  have dt : decide ((((b.drop 16).drop (n + m)).length : Int) = 32 * x2) = false := decide_eq_false hbt
  have hf : decF b = (.zero, 11) := by rw [hu, if_pos (by rw [← hx2]; omega)]
  simp only [↓eD, eZ, ↓reduceIte, Nat.reduceEqDiff, Nat.reduceAdd, Nat.reduceMul, reduceCtorEq, Nat.reduceLeDiff, Int.reduceLT, Int.reduceLE, Int.reduceToNat, Int.reduceEq, Nat.reduceLT, de, bx1, tn1, rx1', dD, hs3, bx2, tn2, rx2', wm4, dt, Bool.not_true, Bool.not_false, undef_eq]
  refine appK_of dbad_app ?_
  rintro v η ⟨hη, rfl⟩
  have zη := (hη.2 _ (Array.getElem?_eq_some_iff.1 w0).1).trans w0
  have wη := retz zη
  have rη := rdN_all (get_set (k := .cells 1 zeroL (0, 0)) zη) lz
  simp only [↓eD, eZ, ↓reduceIte, Nat.reduceEqDiff, Nat.reduceAdd, Nat.reduceMul, reduceCtorEq, Nat.reduceLeDiff, Int.reduceLT, Int.reduceLE, Int.reduceToNat, Int.reduceEq, Nat.reduceLT, lz, wη, rη, hf, undef_eq]
  exact ⟨(oθ2.trans hη).set (Nat.le_refl _), zeroL, none, 0, none, 0, rfl, zr, fun h => by cases h⟩
 have dt : decide ((((b.drop 16).drop (n + m)).length : Int) = 32 * x2) = true := decide_eq_true hbt
 rw [if_neg (by rw [← hx2]; omega)] at hu
 obtain ⟨v4, hs4, hw4, hbase4⟩ := whl_suf (lo := 3) (wx.Old ho2) (by omega)
 rw [Nat.mul_one] at hw4
 have hs4' : sliceV 1 (.slice (some ⟨xk, xo, none⟩) x.length xc) (some (.int .i64 3)) none none = some v4 := hs4
 have k16 : wrN θ2 ⟨σ.size + 1, 16, none⟩ [.int .i64 x0] = some (θ2.setIfInBounds (σ.size + 1) (.cells 2 (recC (b.take 16) x0 (.slice none 0 0) (.slice none 0 0)) (0, 0))) := by
  rw [wrN_eq, if_neg (by simp), w1, wrc_cells, if_pos ⟨by rw [rec_len ld]; show 16 + 1 ≤ 19; omega, rfl⟩]
  show some (θ2.setIfInBounds (σ.size + 1) (.cells 2 ((recC (b.take 16) 0 (.slice none 0 0) (.slice none 0 0)).set 16 _) (0, 0))) = _
  rw [rec_s16 ld]
 simp only [↓eD, eZ, ↓reduceIte, Nat.reduceEqDiff, Nat.reduceAdd, Nat.reduceMul, reduceCtorEq, Nat.reduceLeDiff, Int.reduceLT, Int.reduceLE, Int.reduceToNat, Int.reduceEq, Nat.reduceLT, de, bx1, tn1, rx1', dD, hs3, bx2, tn2, rx2', wm4, dt, bx0, tn0, rx0', hs4', k16, Bool.not_true, Bool.not_false, undef_eq]
 obtain ⟨θb, hθb⟩ : ∃ θb, θb = θ2.setIfInBounds (σ.size + 1) (.cells 2 (recC (b.take 16) x0 (.slice none 0 0) (.slice none 0 0)) (0, 0)) := ⟨_, rfl⟩
 rw [← hθb]
 have oB2 : OldB (σ.size + 1) θ2 θb := by rw [hθb]; exact OldB.set ⟨Nat.le_refl _, fun _ _ _ => rfl⟩
 have oθb : Old σ θb := oB2.old oθ2 (by omega)
 have hsz2 : T1.size ≤ θ1.size := ho1.1
 have hsz3 : θ1.size ≤ θ2.size := ho2.1
 have sθb : θb.size = θ2.size := by rw [hθb]; simp
 have b0 : θb[σ.size]? = some (.cells 0 zeroL (0, 0)) := by rw [hθb]; exact (get_set_ne (by omega)).trans w0
 have b1 : θb[σ.size + 1]? = some (.cells 2 (recC (b.take 16) x0 (.slice none 0 0) (.slice none 0 0)) (0, 0)) := by rw [hθb]; exact get_set w1
 obtain ⟨ka, kb, hka, hkr⟩ := hw.at (by omega)
 have hklt : ka < σ.size := rdN_lt hkr (by omega)
 have nb3 : ∀ q, baseOf (.slice vc ((b.drop 16).drop (n + m)).length cc) = some q → q ≠ σ.size + 1 := fun q hq => by
  have := hbase1 q (hbase2 q (hbase3 q hq))
  rw [hka] at this
  have h9 : some ka = some q := this
  injection h9 with h9
  omega
 have nbd : ∀ q, baseOf (.slice da D.length dc) = some q → q ≠ σ.size + 1 := fun q hq => by have := (gd2.base hq).1; omega
 have nbx : ∀ q, baseOf v4 = some q → q ≠ σ.size + 1 := fun q hq => by have := (gx.base (hbase4 q hq)).1; omega
 have W3 := Whl.oldB hw3 nb3 oB2 (by omega)
 have Wd := Whl.oldB wd nbd oB2 (by omega)
 have W4 := Whl.oldB hw4 nbx oB2 (by omega)
 have hx3l : (x.drop 3).length = x.length - 3 := List.length_drop
 rw [← List.map_drop, ← hx3l] at W4
 obtain ⟨E, hE⟩ : ∃ E, E = entsOf (x.drop 3) D := ⟨_, rfl⟩
 have hEl : E.length = D.length := by rw [hE]; exact entsOf_len
 have hssb : (sized θb.size).size = θb.size := sized_size
 have hDle : D.length ≤ 4096 := by omega
 refine loop_for (J := fun i e τ => i ≤ D.length ∧ ∃ (xi vE : Value) (ver : Nat), e = [(0, .slice vc ((b.drop 16).drop (n + m)).length cc), (2, .pointer (some ⟨σ.size, 0, none⟩)), (4, .func (.func 59) #[] #[]), (5, .pointer (some ⟨σ.size + 1, 0, none⟩)), (6, xi), (118, .slice da D.length dc), (119, .int .i64 (D.length : Int)), (120, .int .i64 (i : Int))] ∧ OldB (σ.size + 1) θb τ ∧ τ[σ.size + 1]? = some (.cells ver (recC (b.take 16) x0 vE (.slice none 0 0)) (0, 0)) ∧ Grown (sized θb.size) τ 5 vE ((E.take i).map entV).flatten i ∧ Whl θb 1 xi (x.drop (3 + 4 * i)).length ((x.drop (3 + 4 * i)).map (.int .i64)) ∧ (∀ q, baseOf xi = some q → q ≠ σ.size + 1)) D.length
  ⟨by omega, v4, _, 2, rfl, ⟨Nat.le_refl _, fun _ _ _ => rfl⟩, b1, .nil, W4, nbx⟩ ?_
 rintro i e τ hi ⟨_, xi, vE, ver, rfl, hB, hbox, hg, Wi, nbi⟩
 by_cases hlt : i < D.length
 ·have dl : decide ((i : Int) < (D.length : Int)) = true := by rw [decide_eq_true]; omega
  have hbd : (0:Int) ≤ (i:Int) ∧ (i:Int) < (D.length : Int) := by omega
  have hw1 : IntKind.wrap .i64 ((i:Int) + 1) = ((i + 1 : Nat) : Int) := by rw [wrap64' (by omega) (by omega)]; omega
  have hyl : (x.drop (3 + 4 * i)).length = x.length - (3 + 4 * i) := List.length_drop
  obtain ⟨y, hy⟩ : ∃ y, y = x.drop (3 + 4 * i) := ⟨_, rfl⟩
  rw [← hy] at Wi hyl
  have Wτ := Whl.oldB Wi nbi hB (by omega)
  have Wdτ := Whl.oldB Wd nbd hB (by omega)
  obtain ⟨ya, yc, rfl⟩ := Wτ.slice
  obtain ⟨yk, yo, hya, ry0⟩ := whl_int Wτ (i := 0) (by omega)
  obtain ⟨_, _, hya1, ry1⟩ := whl_int Wτ (i := 1) (by omega)
  obtain ⟨_, _, hya2, ry2⟩ := whl_int Wτ (i := 2) (by omega)
  obtain ⟨_, _, hya3, ry3⟩ := whl_int Wτ (i := 3) (by omega)
  subst hya
  injection hya1 with hya1
  injection hya1 with q1 q2
  subst q1 q2
  injection hya2 with hya2
  injection hya2 with q1 q2
  subst q1 q2
  injection hya3 with hya3
  injection hya3 with q1 q2
  subst q1 q2
  obtain ⟨dk, dd, hda, rd0⟩ := whl_str Wdτ (i := i) hlt
  subst hda
  have bj : ∀ j : Nat, j < 4 → (0:Int) ≤ (j:Int) ∧ (j:Int) < (y.length : Int) := fun j hj => by omega
  have c0 : (0:Int) ≤ 0 ∧ (0:Int) < (y.length : Int) := by omega
  have c1 : (0:Int) ≤ 1 ∧ (1:Int) < (y.length : Int) := by omega
  have c2 : (0:Int) ≤ 2 ∧ (2:Int) < (y.length : Int) := by omega
  have c3 : (0:Int) ≤ 3 ∧ (3:Int) < (y.length : Int) := by omega
  have tn3 : Int.toNat 3 = 3 := rfl
  rw [Nat.add_zero] at ry0
  have g17 : ∀ M, rd1 (ap τ M) ⟨σ.size + 1, 17, none⟩ = some vE := fun M => rd1_of hbox .ap (rec17 ld)
  obtain ⟨ve, vn, rfl⟩ := hg.slice
  have hget := entsOf_get (x := x.drop 3) (D := D) hlt
  rw [← hE, List.drop_drop, ← hy] at hget
  have gy : ∀ j (h : j < y.length), y.getD j 0 = y[j] := fun j h => (List.getElem_eq_getD (l := y) (i := j) 0 (h := h)).symm
  rw [gy 0 (by omega), gy 1 (by omega), gy 2 (by omega), gy 3 (by omega)] at hget
  have htk := take_get hget
  obtain ⟨v5, hs5, hw5, hbase5⟩ := whl_suf (lo := 4) Wi (by omega)
  rw [Nat.mul_one] at hw5
  have hs5' : sliceV 1 (.slice (some ⟨yk, yo, none⟩) y.length yc) (some (.int .i64 4)) none none = some v5 := hs5
  have ry0' := fun M => rd1_old (l := M) ry0
  have ry1' := fun M => rd1_old (l := M) ry1
  have ry2' := fun M => rd1_old (l := M) ry2
  have ry3' := fun M => rd1_old (l := M) ry3
  have rd0' := fun M => rd1_old (l := M) rd0
  rw [← ap_nil (σ := τ)]
  simp only [↓eD, eZ, ↓reduceIte, Nat.reduceEqDiff, Nat.reduceAdd, Nat.reduceMul, reduceCtorEq, Nat.reduceLeDiff, Int.reduceLT, Int.reduceLE, Int.reduceToNat, Int.reduceEq, Nat.reduceLT, dl, hbd, Int.toNat_natCast, rd0', g17, c0, c1, c2, c3, tn0, tn1, tn2, tn3, ry0', ry1', ry2', ry3', undef_eq]
  have hg1 := hg.old (Old.ap (l := [.cells 0 [.int .i64 y[0], .int .i64 y[1], .int .i64 y[2], .int .i64 y[3], .string D[i]] (0, 0)]))
  have xc : xcells (ap τ [.cells 0 [.int .i64 y[0], .int .i64 y[1], .int .i64 y[2], .int .i64 y[3], .string D[i]] (0, 0)]) 5 (.slice (some ⟨τ.size, 0, none⟩) 1 1) = some (1, [.int .i64 y[0], .int .i64 y[1], .int .i64 y[2], .int .i64 y[3], .string D[i]]) := by
   show (rdN (ap τ _) ⟨τ.size, 0, none⟩ (1 * 5)).map (1, ·) = _
   rw [rdN_all (n := 1 * 5) (by rw [ap_new0]; rfl) rfl]
   rfl
  have hBs := hB.1
  obtain ⟨v6, τ2, ha, A⟩ := append_grown (bytes := 48) hg1 (by omega) (by rw [hssb, ap_size]; omega) xc rfl rfl (by omega) (by omega)
  refine onV_of ha ?_
  have hB2 := hB.grow .ap A hg1
  have hbox2 : τ2[σ.size + 1]? = some (.cells ver (recC (b.take 16) x0 (.slice ve i vn) (.slice none 0 0)) (0, 0)) := A.low hg1 (by rw [hssb]; omega) ((ap_old (Array.getElem?_eq_some_iff.1 hbox).1).trans hbox)
  obtain ⟨ve2, vn2, rfl⟩ := A.grown.slice
  have k17 : wrN τ2 ⟨σ.size + 1, 17, none⟩ [.slice ve2 (i + 1) vn2] = some (τ2.setIfInBounds (σ.size + 1) (.cells (ver + 1) (recC (b.take 16) x0 (.slice ve2 (i + 1) vn2) (.slice none 0 0)) (0, 0))) := by
   rw [wrN_eq, if_neg (by simp), hbox2, wrc_cells, if_pos ⟨by rw [rec_len ld]; show 17 + 1 ≤ 19; omega, rfl⟩]
   show some (τ2.setIfInBounds (σ.size + 1) (.cells (ver + 1) ((recC (b.take 16) x0 (.slice ve i vn) (.slice none 0 0)).set 17 _) (0, 0))) = _
   rw [rec_s17 ld]
  simp only [↓eD, eZ, ↓reduceIte, Nat.reduceEqDiff, Nat.reduceAdd, Nat.reduceMul, reduceCtorEq, Nat.reduceLeDiff, Int.reduceLT, Int.reduceLE, Int.reduceToNat, Int.reduceEq, Nat.reduceLT, k17, hs5', hw1, undef_eq]
  refine ⟨hlt, by omega, v5, .slice ve2 (i + 1) vn2, ver + 1, rfl, hB2.set, get_set hbox2, ?_, ?_, fun q hq => nbi q (hbase5 q hq)⟩
  ·have := A.grown.set (b := σ.size + 1) (k := .cells (ver + 1) (recC (b.take 16) x0 (.slice ve2 (i + 1) vn2) (.slice none 0 0)) (0, 0)) (by rw [hssb]; omega)
   rw [htk, List.map_append, List.flatten_append]
   simpa [entV] using this
  ·have e1 : x.drop (3 + 4 * (i + 1)) = y.drop 4 := by rw [hy, List.drop_drop]; congr 1
   rw [e1, List.length_drop, List.map_drop]
   exact hw5
 have : i = D.length := by omega
 subst this
 have dl : decide ((D.length : Int) < (D.length : Int)) = false := by rw [decide_eq_false]; omega
 obtain ⟨R, hR⟩ : ∃ R, R = x.drop (3 + 4 * D.length) := ⟨_, rfl⟩
 obtain ⟨T, hT⟩ : ∃ T, T = (b.drop 16).drop (n + m) := ⟨_, rfl⟩
 rw [← hR] at Wi
 have hRl : R.length = x.length - (3 + 4 * D.length) := by rw [hR, List.length_drop]
 have hTl : T.length = 32 * R.length := by rw [← hT] at hbt; omega
 obtain ⟨S, hS⟩ : ∃ S, S = seasOf R T := ⟨_, rfl⟩
 have hSl : S.length = R.length := by rw [hS]; exact seasOf_len
 have hRle : R.length ≤ 256 := by omega
 rw [List.take_of_length_le (by omega)] at hg
 have WR := Whl.oldB Wi nbi hB (by omega)
 have WT := Whl.oldB W3 nb3 hB (by omega)
 rw [← hT] at WT nb3
 obtain ⟨xia, xic, rfl⟩ := WR.slice
 have hBs := hB.1
 have oτ : Old σ τ := hB.old oθb (by omega)
 have hsst : (sized τ.size).size = τ.size := sized_size
 simp only [↓eD, eZ, ↓reduceIte, Nat.reduceEqDiff, Nat.reduceAdd, Nat.reduceMul, reduceCtorEq, Nat.reduceLeDiff, Int.reduceLT, Int.reduceLE, Int.reduceToNat, Int.reduceEq, Nat.reduceLT, dl, undef_eq]
 rw [← hT]
 refine loop_for (J := fun j e η => j ≤ R.length ∧ ∃ (ti vS : Value) (ver : Nat), e = [(0, ti), (2, .pointer (some ⟨σ.size, 0, none⟩)), (4, .func (.func 59) #[] #[]), (5, .pointer (some ⟨σ.size + 1, 0, none⟩)), (146, .slice xia R.length xic), (147, .int .i64 (R.length : Int)), (148, .int .i64 (j : Int))] ∧ OldB (σ.size + 1) τ η ∧ η[σ.size + 1]? = some (.cells ver (recC (b.take 16) x0 vE vS) (0, 0)) ∧ Grown (sized τ.size) η 33 vS ((S.take j).map seaV).flatten j ∧ Whl τ 1 ti (T.drop (32 * j)).length (digC (T.drop (32 * j))) ∧ (∀ q, baseOf ti = some q → q ≠ σ.size + 1)) R.length
  ⟨by omega, _, _, ver, rfl, ⟨Nat.le_refl _, fun _ _ _ => rfl⟩, hbox, .nil, WT, nb3⟩ ?_
 rintro j e η hj ⟨_, ti, vS, ver2, rfl, hB2, hbox2, hgS, Wt, nbt⟩
 by_cases hlt : j < R.length
 ·have dl : decide ((j : Int) < (R.length : Int)) = true := by rw [decide_eq_true]; omega
  have hbd : (0:Int) ≤ (j:Int) ∧ (j:Int) < (R.length : Int) := by omega
  have hw1 : IntKind.wrap .i64 ((j:Int) + 1) = ((j + 1 : Nat) : Int) := by rw [wrap64' (by omega) (by omega)]; omega
  have hyl : (T.drop (32 * j)).length = T.length - 32 * j := List.length_drop
  obtain ⟨y, hy⟩ : ∃ y, y = T.drop (32 * j) := ⟨_, rfl⟩
  rw [← hy] at Wt hyl
  have Wη := Whl.oldB Wt nbt hB2 (by omega)
  have WRη := Whl.oldB WR (fun q hq => nbi q hq) hB2 (by omega)
  obtain ⟨rk, ro, hra, rr⟩ := whl_int WRη hlt
  subst hra
  obtain ⟨ta, tc, rfl⟩ := Wη.slice
  obtain ⟨v16, hs16', hv16'⟩ := sliceV_whl (lo := 0) (hi := 16) (L := none) Wη (.inr ⟨rfl, rfl⟩) (by omega) (by omega)
  rw [Nat.mul_one, Nat.mul_one, digC_sub, List.drop_zero, Nat.sub_zero] at hv16'
  obtain ⟨v32, hs32, hv32⟩ := sliceV_whl (lo := 16) (hi := 32) (L := some (.int .i64 ((16 : Nat) : Int))) Wη (.inl rfl) (by omega) (by omega)
  have hv32 : Whl η 1 v32 16 (digC ((y.drop 16).take 16)) := by rw [← digC_sub]; exact hv32
  obtain ⟨pa, pc, rfl⟩ := hv16'.slice
  obtain ⟨pk, po, rfl, hp16⟩ := hv16'.at (by omega)
  rw [Nat.mul_one] at hp16
  obtain ⟨qa, qc, rfl⟩ := hv32.slice
  obtain ⟨qk, qo, rfl, hq16⟩ := hv32.at (by omega)
  rw [Nat.mul_one] at hq16
  have hs16z : sliceV 1 (.slice ta y.length tc) none (some (.int .i64 16)) none = some (.slice (some ⟨pk, po, none⟩) 16 pc) := hs16'
  have hs32z : sliceV 1 (.slice ta y.length tc) (some (.int .i64 16)) (some (.int .i64 32)) none = some (.slice (some ⟨qk, qo, none⟩) 16 qc) := hs32
  obtain ⟨v5, hs5, hw5, hbase5⟩ := whl_suf (lo := 32) Wt (by omega)
  rw [Nat.mul_one, digC_drop] at hw5
  have hs5' : sliceV 1 (.slice ta y.length tc) (some (.int .i64 32)) none none = some v5 := hs5
  have hp16' := fun M => rdN_old (l := M) hp16
  have hq16' := fun M => rdN_old (l := M) hq16
  have hq16'' : ∀ M, rdN (ap η M) ⟨qk, qo, none⟩ 16 = some (digC ((y.drop 16).take 16)) := hq16'
  have rr' := fun M => rd1_old (l := M) rr
  have g18 : ∀ M, rd1 (ap η M) ⟨σ.size + 1, 18, none⟩ = some vS := fun M => rd1_of hbox2 .ap (rec18 ld)
  obtain ⟨vs, vn, rfl⟩ := hgS.slice
  have hget := seasOf_get (x := R) (b := T) hlt
  rw [← hS, ← hy] at hget
  have htk := take_get hget
  obtain ⟨P, hP⟩ : ∃ P, P = y.take 16 := ⟨_, rfl⟩
  obtain ⟨Q, hQ⟩ : ∃ Q, Q = (y.drop 16).take 16 := ⟨_, rfl⟩
  have lP : P.length = 16 := by rw [hP, List.length_take]; omega
  have lQ : Q.length = 16 := by rw [hQ, List.length_take, List.length_drop]; omega
  rw [← hP] at hp16'
  rw [← hQ] at hq16''
  rw [← hP, ← hQ] at htk
  have lp : (digC P).length = 16 := by rw [digC_length, lP]
  have lq : (digC Q).length = 16 := by rw [digC_length, lQ]
  have sb1 : sets [.int .i64 R[j], .int .u8 0, .int .u8 0, .int .u8 0, .int .u8 0, .int .u8 0, .int .u8 0, .int .u8 0, .int .u8 0, .int .u8 0, .int .u8 0, .int .u8 0, .int .u8 0, .int .u8 0, .int .u8 0, .int .u8 0, .int .u8 0, .int .u8 0, .int .u8 0, .int .u8 0, .int .u8 0, .int .u8 0, .int .u8 0, .int .u8 0, .int .u8 0, .int .u8 0, .int .u8 0, .int .u8 0, .int .u8 0, .int .u8 0, .int .u8 0, .int .u8 0, .int .u8 0] 1 (digC P) = .int .i64 R[j] :: (digC P ++ List.replicate 16 (.int .u8 0)) := by
   rw [sets_all (by rw [lp]; simp), lp]
   simp
  have hN : seaV ⟨R[j], P, Q⟩ = .int .i64 R[j] :: (digC P ++ digC Q) := rfl
  have sb2 : sets (.int .i64 R[j] :: (digC P ++ List.replicate 16 (.int .u8 0))) 17 (digC Q) = seaV ⟨R[j], P, Q⟩ := by
   rw [hN, sets_all (by rw [lq]; simp [lp]), lq]
   rw [List.take_succ_cons, List.take_left' lp, List.drop_of_length_le (by simp [lp]), List.append_nil]
   rfl
  have lb1 : (Value.int .i64 R[j] :: (digC P ++ List.replicate 16 (.int .u8 0))).length = 33 := by simp [lp]
  have nok : (⟨R[j], P, Q⟩ : Sea).ok := ⟨lP, lQ⟩
  have sl := seaV_len nok
  have so := seaV_one (s := ⟨R[j], P, Q⟩)
  have sf : ∀ z : List Value, z.length = 33 → sets z 0 (seaV ⟨R[j], P, Q⟩) = seaV ⟨R[j], P, Q⟩ := fun z hz => by rw [sets_all (by omega)]; simp [sl, hz]
  have st : (seaV ⟨R[j], P, Q⟩).take 33 = seaV ⟨R[j], P, Q⟩ := List.take_of_length_le (by omega)
  have sn : (seaV ⟨R[j], P, Q⟩ = []) = False := eq_false (by simp [seaV])
  rw [← ap_nil (σ := η)]
  simp only [↓eD, eZ, ↓reduceIte, Nat.reduceEqDiff, Nat.reduceAdd, Nat.reduceMul, reduceCtorEq, Nat.reduceLeDiff, Int.reduceLT, Int.reduceLE, Int.reduceToNat, Int.reduceEq, Nat.reduceLT, dl, hbd, Int.toNat_natCast, rr', g18, hs16z, hs32z, hp16', hq16'', digC_length, lP, lQ, sb1, sb2, lb1, sl, so, sf, st, sn, undef_eq]
  have hg1 := hgS.old (Old.ap (l := [.cells 0 (seaV ⟨R[j], P, Q⟩) (0, 0)]))
  have xcS : xcells (ap η [.cells 0 (seaV ⟨R[j], P, Q⟩) (0, 0)]) 33 (.slice (some ⟨η.size, 0, none⟩) 1 1) = some (1, seaV ⟨R[j], P, Q⟩) := by
   show (rdN (ap η _) ⟨η.size, 0, none⟩ (1 * 33)).map (1, ·) = _
   rw [rdN_all (n := 1 * 33) (by rw [ap_new0]; rfl) (by rw [sl])]
   rfl
  have hBs2 := hB2.1
  obtain ⟨v6, η2, ha, A⟩ := append_grown (bytes := 40) hg1 (by omega) (by rw [hsst, ap_size]; omega) xcS sl so (by omega) (by omega)
  refine onV_of ha ?_
  have hB3 := hB2.grow .ap A hg1
  have hbox3 : η2[σ.size + 1]? = some (.cells ver2 (recC (b.take 16) x0 vE (.slice vs j vn)) (0, 0)) := A.low hg1 (by rw [hsst]; omega) ((ap_old (Array.getElem?_eq_some_iff.1 hbox2).1).trans hbox2)
  obtain ⟨vs2, vn2, rfl⟩ := A.grown.slice
  have oE : vE.oneCell' = true := hg.one
  have k18 : wrN η2 ⟨σ.size + 1, 18, none⟩ [.slice vs2 (j + 1) vn2] = some (η2.setIfInBounds (σ.size + 1) (.cells (ver2 + 1) (recC (b.take 16) x0 vE (.slice vs2 (j + 1) vn2)) (0, 0))) := by
   rw [wrN_eq, if_neg (by simp), hbox3, wrc_cells, if_pos ⟨by rw [rec_len ld]; show 18 + 1 ≤ 19; omega, rfl⟩]
   show some (η2.setIfInBounds (σ.size + 1) (.cells (ver2 + 1) ((recC (b.take 16) x0 vE (.slice vs j vn)).set 18 _) (0, 0))) = _
   rw [rec_s18 ld]
  simp only [↓eD, eZ, ↓reduceIte, Nat.reduceEqDiff, Nat.reduceAdd, Nat.reduceMul, reduceCtorEq, Nat.reduceLeDiff, Int.reduceLT, Int.reduceLE, Int.reduceToNat, Int.reduceEq, Nat.reduceLT, k18, hs5', hw1, undef_eq]
  refine ⟨hlt, by omega, v5, .slice vs2 (j + 1) vn2, ver2 + 1, rfl, hB3.set, get_set hbox3, ?_, ?_, fun q hq => nbt q (hbase5 q hq)⟩
  ·have := A.grown.set (b := σ.size + 1) (k := .cells (ver2 + 1) (recC (b.take 16) x0 vE (.slice vs2 (j + 1) vn2)) (0, 0)) (by rw [hsst]; omega)
   rw [htk, List.map_append, List.flatten_append]
   simpa using this
  ·have e1 : T.drop (32 * (j + 1)) = y.drop 32 := by rw [hy, List.drop_drop]; congr 1
   rw [e1, List.length_drop]
   exact hw5
 have : j = R.length := by omega
 subst this
 have dl : decide ((R.length : Int) < (R.length : Int)) = false := by rw [decide_eq_false]; omega
 rw [List.take_of_length_le (by omega)] at hgS
 have oη : Old σ η := hB2.old oτ (by omega)
 have gE : Grown (sized θb.size) η 5 vE (E.map entV).flatten D.length := hg.keep fun c k h1 h2 => by
  have h3 := hg.base h1
  rw [hssb] at h3
  rw [hB2.2 c h3.2 (by omega)]
  exact h2
 have lRC := rec_len ld (c := x0) (v := vE) (w := vS)
 have r5 := rdN_all hbox2 lRC
 obtain ⟨ea, ec, rfl⟩ := gE.slice
 obtain ⟨sa, sc, rfl⟩ := hgS.slice
 have hdF : decF b = if checkF (logOf (b.take 16) x D T) ≠ 0 then (.zero, 11) else (logOf (b.take 16) x D T, 0) := by rw [hu, ← hT]
 have hLog : logOf (b.take 16) x D T = ⟨b.take 16, x0, E, S⟩ := by unfold logOf; rw [← hx0, ← hE, ← hR, ← hS]
 rw [hLog] at hdF
 have oks : ∀ s ∈ S, s.ok := by rw [hS]; exact (tail_seas hTl).2.2
 have rowE : Row η 5 (.slice ea E.length ec) (E.map entV) := by
  have h9 : Grown (sized θb.size) η 5 (.slice ea D.length ec) (E.map entV).flatten (E.map entV).length := by rw [List.length_map, hEl]; exact gE
  rw [hEl]
  exact h9.Row entV_rows
 have rowS : Row η 33 (.slice sa S.length sc) (S.map seaV) := by
  have h9 : Grown (sized τ.size) η 33 (.slice sa R.length sc) (S.map seaV).flatten (S.map seaV).length := by rw [List.length_map, hSl]; exact hgS
  rw [hSl]
  exact h9.Row (seaV_rows oks)
 have hxI : ∀ z ∈ x, I64 z := fun z hz => i2 z hz
 have hgetI : ∀ (y : List Int) (k : Nat), (∀ z ∈ y, I64 z) → I64 (y.getD k 0) := fun y k hy => by
  rcases Nat.lt_or_ge k y.length with h9 | h9
  ·rw [← List.getElem_eq_getD (l := y) (i := k) 0 (h := h9)]; exact hy _ (List.getElem_mem h9)
  ·have h8 : y.getD k 0 = 0 := by rw [List.getD_eq_getElem?_getD, List.getElem?_eq_none h9]; rfl
   rw [h8]; unfold I64; omega
 have V : LgV η (recC (b.take 16) x0 (.slice ea E.length ec) (.slice sa S.length sc)) ⟨b.take 16, x0, E, S⟩ ea ec sa sc := by
  refine ⟨rfl, rowE, rowS, ?_, ?_, ⟨ld, by rw [hx0]; exact hgetI x 0 hxI, ?_, by simp only [hEl]; omega⟩, fun s hs => ⟨oks s hs, ?_⟩, by simp only [hSl]; omega⟩
  ·simp only [hEl]; exact gE.cap
  ·simp only [hSl]; exact hgS.cap
  ·intro z hz
   obtain ⟨i, hi, hi2⟩ := List.mem_iff_getElem.1 hz
   have hi : i < E.length := hi
   have hi2 : E[i] = z := hi2
   have hiD : i < D.length := by omega
   have h9 := entsOf_get (x := x.drop 3) (D := D) (i := i) (by omega)
   rw [← hE, List.getElem?_eq_getElem hi, hi2] at h9
   have h8 : ∀ z ∈ (x.drop 3).drop (4 * i), I64 z := fun z hz => hxI z (List.mem_of_mem_drop (List.mem_of_mem_drop hz))
   have h7 := Option.some.inj h9
   have hdm : D[i]'(by omega) ∈ D := List.getElem_mem _
   have hsz : (D[i]'(by omega)).size < 100000000000 := by
    have hle : (D[i]'(by omega)).size ≤ (bytesF (D[i]'(by omega))).length := by unfold bytesF; rw [List.length_append, strI_len]; omega
    have hle2 : (bytesF (D[i]'(by omega))).length ≤ (D.flatMap bytesF).length := by
     have hi3 : i < D.length := by omega
     have h5 : D = D.take i ++ D[i] :: D.drop (i + 1) := by rw [← List.drop_eq_getElem_cons hi3, List.take_append_drop]
     generalize D[i]'(by omega) = w at h5
     rw [h5, List.flatMap_append, List.flatMap_cons, List.length_append, List.length_append]
     omega
    have hle3 : (D.flatMap bytesF).length ≤ m := by
     have h6 := congrArg List.length s1
     unfold encL at h6
     rw [List.length_append, List.length_take] at h6
     omega
    omega
   rw [h7]
   exact ⟨hgetI _ _ h8, hgetI _ _ h8, hgetI _ _ h8, hgetI _ _ h8, hsz⟩
  ·have h9 := (tail_seas hTl).2.1
   rw [← hS] at h9
   have : s.end_ ∈ R := by rw [← h9]; exact List.mem_map_of_mem hs
   rw [hR] at this
   exact hxI _ (List.mem_of_mem_drop this)
 rw [hEl, hSl] at V
 simp only [↓eD, eZ, ↓reduceIte, Nat.reduceEqDiff, Nat.reduceAdd, Nat.reduceMul, reduceCtorEq, Nat.reduceLeDiff, Int.reduceLT, Int.reduceLE, Int.reduceToNat, Int.reduceEq, Nat.reduceLT, dl, r5, lRC, undef_eq]
 refine appK_at (lcheck_app V (hH.Old oη)) ?_
 have e0 : η[σ.size]? = some (.cells 0 zeroL (0, 0)) := by
  have h9 : τ[σ.size]? = some (.cells 0 zeroL (0, 0)) := (hB.2 _ (by omega) (by omega)).trans b0
  exact (hB2.2 _ (by omega) (by omega)).trans h9
 by_cases hck : checkF ⟨b.take 16, x0, E, S⟩ = 0
 case neg =>
  have dc : decide (checkF ⟨b.take 16, x0, E, S⟩ = 0) = false := decide_eq_false hck
  have hf : decF b = (.zero, 11) := by rw [hdF, if_pos hck]
  simp only [↓eD, eZ, ↓reduceIte, Nat.reduceEqDiff, Nat.reduceAdd, Nat.reduceMul, reduceCtorEq, Nat.reduceLeDiff, Int.reduceLT, Int.reduceLE, Int.reduceToNat, Int.reduceEq, Nat.reduceLT, dc, Bool.not_false, undef_eq]
  refine appK_of dbad_app ?_
  rintro v ζ ⟨hη, rfl⟩
  have zη := (hη.2 _ (Array.getElem?_eq_some_iff.1 e0).1).trans e0
  have wη := retz zη
  have rη := rdN_all (get_set (k := .cells 1 zeroL (0, 0)) zη) lz
  simp only [↓eD, eZ, ↓reduceIte, Nat.reduceEqDiff, Nat.reduceAdd, Nat.reduceMul, reduceCtorEq, Nat.reduceLeDiff, Int.reduceLT, Int.reduceLE, Int.reduceToNat, Int.reduceEq, Nat.reduceLT, lz, wη, rη, hf, undef_eq]
  exact ⟨(oη.trans hη).set (Nat.le_refl _), zeroL, none, 0, none, 0, rfl, zr, fun h => by cases h⟩
 have dc : decide (checkF ⟨b.take 16, x0, E, S⟩ = 0) = true := decide_eq_true hck
 have hf : decF b = (⟨b.take 16, x0, E, S⟩, 0) := by rw [hdF, if_neg (fun h => h hck)]
 have wfin := ret19 ld e0 (v := .slice ea D.length ec) (w := .slice sa R.length sc) (c := x0) rec_one
 have rfin := rdN_all (get_set (k := .cells 1 (recC (b.take 16) x0 (.slice ea D.length ec) (.slice sa R.length sc)) (0, 0)) e0) lRC
 simp only [↓eD, eZ, ↓reduceIte, Nat.reduceEqDiff, Nat.reduceAdd, Nat.reduceMul, reduceCtorEq, Nat.reduceLeDiff, Int.reduceLT, Int.reduceLE, Int.reduceToNat, Int.reduceEq, Nat.reduceLT, dc, r5, lRC, wfin, rfin, hf, Bool.not_true, undef_eq]
 have gE2 := gE.set (b := σ.size) (k := .cells 1 (recC (b.take 16) x0 (.slice ea D.length ec) (.slice sa R.length sc)) (0, 0)) (by rw [hssb]; omega)
 have gS2 := hgS.set (b := σ.size) (k := .cells 1 (recC (b.take 16) x0 (.slice ea D.length ec) (.slice sa R.length sc)) (0, 0)) (by rw [hsst]; omega)
 have rowE2 : Row (η.setIfInBounds σ.size (.cells 1 (recC (b.take 16) x0 (.slice ea D.length ec) (.slice sa R.length sc)) (0, 0))) 5 (.slice ea E.length ec) (E.map entV) := by
  have h9 : Grown (sized θb.size) (η.setIfInBounds σ.size (.cells 1 (recC (b.take 16) x0 (.slice ea D.length ec) (.slice sa R.length sc)) (0, 0))) 5 (.slice ea D.length ec) (E.map entV).flatten (E.map entV).length := by rw [List.length_map, hEl]; exact gE2
  rw [hEl]
  exact h9.Row entV_rows
 have rowS2 : Row (η.setIfInBounds σ.size (.cells 1 (recC (b.take 16) x0 (.slice ea D.length ec) (.slice sa R.length sc)) (0, 0))) 33 (.slice sa S.length sc) (S.map seaV) := by
  have h9 : Grown (sized τ.size) (η.setIfInBounds σ.size (.cells 1 (recC (b.take 16) x0 (.slice ea D.length ec) (.slice sa R.length sc)) (0, 0))) 33 (.slice sa R.length sc) (S.map seaV).flatten (S.map seaV).length := by rw [List.length_map, hSl]; exact gS2
  rw [hSl]
  exact h9.Row (seaV_rows oks)
 have V2 : LgV (η.setIfInBounds σ.size (.cells 1 (recC (b.take 16) x0 (.slice ea D.length ec) (.slice sa R.length sc)) (0, 0))) (recC (b.take 16) x0 (.slice ea D.length ec) (.slice sa R.length sc)) ⟨b.take 16, x0, E, S⟩ ea ec sa sc :=
  ⟨by simp only [hEl, hSl], rowE2, rowS2, V.cE, V.cS, V.fit, V.ok, V.nS⟩
 exact ⟨oη.set (Nat.le_refl _), _, ea, ec, sa, sc, rfl, V2.r, fun _ => V2⟩
def badL : List Value := [.int .u8 0, .int .u8 0, .int .u8 0, .int .u8 0, .int .u8 0, .int .u8 0, .int .u8 0, .int .u8 0, .int .u8 0, .int .u8 0, .int .u8 0, .int .u8 0, .int .u8 0, .int .u8 0, .int .u8 0, .int .u8 0, .int .i64 0, .slice none 0 0, .slice none 0 0, .int .i64 0, .int .i64 11]
theorem retb {θ : H} {b : Nat} (h : θ[b]? = some (.cells 0 rd21 (0, 0))) : wrN θ ⟨b, 0, none⟩ badL = some (θ.setIfInBounds b (.cells 1 badL (0, 0))) :=
 ret21 (d := List.replicate 16 0) (c := 0) (a1 := none) (a2 := none) (n1 := 0) (n2 := 0) (c1 := 0) (c2 := 0) (i := 0) (j := 11) rfl h
theorem badV : (badL = []) = False := eq_false (by simp [badL])
theorem rdecode_app {σ : H} {sl : Value} {b : List Int} (hw : Whl σ 1 sl b.length (digC b)) (hb : Byt b) (hl : b.length < 1000000) (hG : Glob σ) :
  App Tryd.prog (.func 35) #[] #[sl] σ fun v σ' => Old σ σ' ∧ ∃ l' a1 b1 a2 b2, v = .agg (l' ++ [Value.int .i64 0, Value.int .i64 (decF b).2]).toArray ∧ LgR σ' l' (decF b).1 a1 b1 a2 b2 ∧ ((decF b).2 = 0 → LgV σ' l' (decF b).1 a1 b1 a2 b2) := by
 refine App.of_sem mixed Tryd.func35 t35 k35 r35 (Nat.le_of_ble_eq_true rfl) ?_
 obtain ⟨a, c, rfl⟩ := hw.slice
 rw [← ap_nil (σ := σ)]
 unfold s35
 have lz : rd21.length = 21 := rfl
 have lb : badL.length = 21 := rfl
 by_cases h16 : b.length < 16
 ·have d1 : decide ((b.length : Int) < 16) = true := by rw [decide_eq_true]; omega
  have hf : decF b = (.zero, 11) := if_pos h16
  simp only [↓eD, eZ, ↓reduceIte, Nat.reduceEqDiff, Nat.reduceAdd, Nat.reduceMul, reduceCtorEq, Nat.reduceLeDiff, Int.reduceLT, Int.reduceLE, Int.reduceToNat, Int.reduceEq, Nat.reduceLT, d1, undef_eq]
  rw [hf]
  exact ⟨.ap, zeroL, none, 0, none, 0, rfl, zr, fun h => by cases h⟩
 have d1 : decide ((b.length : Int) < 16) = false := by rw [decide_eq_false]; omega
 have hu : decF b = _ := if_neg h16
 have ld : (b.take 16).length = 16 := by rw [List.length_take]; omega
 have rs19 : ∀ z : List Value, z.length = 19 → sets z 0 (recC (b.take 16) 0 (.slice none 0 0) (.slice none 0 0)) = recC (b.take 16) 0 (.slice none 0 0) (.slice none 0 0) := fun z hz => rec_sets ld hz
 simp only [↓eD, eZ, ↓reduceIte, Nat.reduceEqDiff, Nat.reduceAdd, Nat.reduceMul, reduceCtorEq, Nat.reduceLeDiff, Int.reduceLT, Int.reduceLE, Int.reduceToNat, Int.reduceEq, Nat.reduceLT, d1, undef_eq]
 refine appK_of (rdigest_app (hw.Old .ap) (by omega)) ?_
 rintro _ _ ⟨rfl, rfl⟩
 obtain ⟨v1, hs1, hw1, hbase1⟩ := whl_suf (lo := 16) (hw.Old (Old.ap (l := [.cells 0 rd21 (0, 0), .cells 1 badL (0, 0), .cells 1 (recC (b.take 16) 0 (.slice none 0 0) (.slice none 0 0)) (0, 0)]))) (by omega)
 rw [Nat.mul_one, digC_drop] at hw1
 have hs1' : sliceV 1 (.slice a b.length c) (some (.int .i64 16)) none none = some v1 := hs1
 have hb0 : sets zeroL 0 (digC (b.take 16)) = recC (b.take 16) 0 (.slice none 0 0) (.slice none 0 0) := rec_build ld
 have hbl : (b.drop 16).length = b.length - 16 := List.length_drop
 rw [← hbl] at hw1
 have lq : (digC (b.take 16)).length = 16 := by rw [digC_length, ld]
 simp only [↓eD, eZ, ↓reduceIte, Nat.reduceEqDiff, Nat.reduceAdd, Nat.reduceMul, reduceCtorEq, Nat.reduceLeDiff, Int.reduceLT, Int.reduceLE, Int.reduceToNat, Int.reduceEq, Nat.reduceLT, lq, rec_build ld, rec_len ld, rec_take ld, rs19, rec_one, rec_ne, hs1', undef_eq]
 rw [← badL, ← rd21]
 generalize hT1 : ap σ [.cells 0 rd21 (0, 0), .cells 1 badL (0, 0), .cells 1 (recC (b.take 16) 0 (.slice none 0 0) (.slice none 0 0)) (0, 0)] = T1 at hw1
 have oT1 : Old σ T1 := by rw [← hT1]; exact .ap
 have sT1 : T1.size = σ.size + 3 := by rw [← hT1]; simp [ap_size]
 have z0 : T1[σ.size]? = some (.cells 0 rd21 (0, 0)) := by rw [← hT1, ap_new0]; rfl
 have z1 : T1[σ.size + 1]? = some (.cells 1 badL (0, 0)) := by rw [← hT1, ap_new]; rfl
 have z2 : T1[σ.size + 2]? = some (.cells 1 (recC (b.take 16) 0 (.slice none 0 0) (.slice none 0 0)) (0, 0)) := by rw [← hT1, ap_new]; rfl
 clear hT1
 have hb1 : Byt (b.drop 16) := byt_drop hb
 refine appK_of (rget_ints_app hw1 hb1 (by omega)) ?_
 rintro v θ1 ⟨ho1, xs, rfl, gx⟩
 generalize hX : listF getF 1 (b.drop 16) = X at gx ⊢
 obtain ⟨x, n, e⟩ := X
 dsimp only at gx ⊢
 have wx := gx.whl
 obtain ⟨xa, xc, rfl⟩ := gx.slice
 have oθ1 : Old σ θ1 := oT1.trans ho1
 have y0 : θ1[σ.size]? = some (.cells 0 rd21 (0, 0)) := (ho1.2 _ (by omega)).trans z0
 have y1 := (ho1.2 _ (by omega)).trans z1
 have y2 := (ho1.2 _ (by omega)).trans z2
 rw [hX] at hu
 dsimp only at hu
 by_cases he : e = 0
 case neg =>
  have de : decide (e = 0) = false := decide_eq_false he
  have hf : decF b = (.zero, 11) := by rw [hu, if_pos (.inl he)]
  have rb := rdN_all y1 lb
  have wb := retb y0
  have rb2 := rdN_all (get_set (k := .cells 1 badL (0, 0)) y0) lb
  simp only [↓eD, eZ, ↓reduceIte, Nat.reduceEqDiff, Nat.reduceAdd, Nat.reduceMul, reduceCtorEq, Nat.reduceLeDiff, Int.reduceLT, Int.reduceLE, Int.reduceToNat, Int.reduceEq, Nat.reduceLT, de, lb, rb, wb, rb2, badV, Bool.not_false, Bool.not_true, undef_eq]
  rw [hf]
  exact ⟨oθ1.set (Nat.le_refl _), zeroL, none, 0, none, 0, rfl, zr, fun h => by cases h⟩
 subst he
 have de : decide ((0 : Int) = 0) = true := rfl
 obtain ⟨i1, i2, i3⟩ := listF_read int_one hb1 hX
 by_cases hx3 : 3 ≤ x.length
 case neg =>
  have d3 : decide ((x.length : Int) < 3) = true := by rw [decide_eq_true]; omega
  have hf : decF b = (.zero, 11) := by rw [hu, if_pos (.inr (by unfold formX; rw [decide_eq_false_iff_not]; exact fun h => hx3 h.1))]
  have rb := rdN_all y1 lb
  have wb := retb y0
  have rb2 := rdN_all (get_set (k := .cells 1 badL (0, 0)) y0) lb
  simp only [↓eD, eZ, ↓reduceIte, Nat.reduceEqDiff, Nat.reduceAdd, Nat.reduceMul, reduceCtorEq, Nat.reduceLeDiff, Int.reduceLT, Int.reduceLE, Int.reduceToNat, Int.reduceEq, Nat.reduceLT, de, d3, lb, rb, wb, rb2, badV, Bool.not_false, Bool.not_true, undef_eq]
  rw [hf]
  exact ⟨oθ1.set (Nat.le_refl _), zeroL, none, 0, none, 0, rfl, zr, fun h => by cases h⟩
 have d3 : decide ((x.length : Int) < 3) = false := by rw [decide_eq_false]; omega
 obtain ⟨xk, xo, hxa, rx0⟩ := whl_int wx (i := 0) (by omega)
 obtain ⟨_, _, hxa1, rx1⟩ := whl_int wx (i := 1) (by omega)
 obtain ⟨_, _, hxa2, rx2⟩ := whl_int wx (i := 2) (by omega)
 subst hxa
 injection hxa1 with hxa1
 injection hxa1 with q1 q2
 subst q1 q2
 injection hxa2 with hxa2
 injection hxa2 with q1 q2
 subst q1 q2
 have gd : ∀ j (h : j < x.length), x.getD j 0 = x[j] := fun j h => (List.getElem_eq_getD (l := x) (i := j) 0 (h := h)).symm
 obtain ⟨x0, hx0⟩ : ∃ x0, x0 = x.getD 0 0 := ⟨_, rfl⟩
 obtain ⟨x1, hx1⟩ : ∃ x1, x1 = x.getD 1 0 := ⟨_, rfl⟩
 obtain ⟨x2, hx2⟩ : ∃ x2, x2 = x.getD 2 0 := ⟨_, rfl⟩
 rw [← gd 0 (by omega), ← hx0] at rx0
 rw [← gd 1 (by omega), ← hx1] at rx1
 rw [← gd 2 (by omega), ← hx2] at rx2
 rw [Nat.add_zero] at rx0
 have bx1 : (0:Int) ≤ 1 ∧ (1:Int) < (x.length : Int) := by omega
 have bx2 : (0:Int) ≤ 2 ∧ (2:Int) < (x.length : Int) := by omega
 have bx0 : (0:Int) ≤ 0 ∧ (0:Int) < (x.length : Int) := by omega
 have tn1 : Int.toNat 1 = 1 := rfl
 have tn2 : Int.toNat 2 = 2 := rfl
 have tn0 : Int.toNat 0 = 0 := rfl
 by_cases ha : 0 ≤ x1
 case neg =>
  have dd : decide (x1 < 0) = true := by rw [decide_eq_true]; omega
  have hf : decF b = (.zero, 11) := by rw [hu, if_pos (.inr (by unfold formX; rw [decide_eq_false_iff_not, ← hx1, ← hx2]; exact fun h => ha h.2.1))]
  have rb := rdN_all y1 lb
  have wb := retb y0
  have rb2 := rdN_all (get_set (k := .cells 1 badL (0, 0)) y0) lb
  simp only [↓eD, eZ, ↓reduceIte, Nat.reduceEqDiff, Nat.reduceAdd, Nat.reduceMul, reduceCtorEq, Nat.reduceLeDiff, Int.reduceLT, Int.reduceLE, Int.reduceToNat, Int.reduceEq, Nat.reduceLT, de, d3, bx1, bx2, tn1, tn2, rx1, rx2, dd, lb, rb, wb, rb2, badV, Bool.not_false, Bool.not_true, undef_eq]
  rw [hf]
  exact ⟨oθ1.set (Nat.le_refl _), zeroL, none, 0, none, 0, rfl, zr, fun h => by cases h⟩
 have da : decide (x1 < 0) = false := by rw [decide_eq_false]; omega
 by_cases hb4 : x1 ≤ 4096
 case neg =>
  have dd : decide (4096 < x1) = true := by rw [decide_eq_true]; omega
  have hf : decF b = (.zero, 11) := by rw [hu, if_pos (.inr (by unfold formX; rw [decide_eq_false_iff_not, ← hx1, ← hx2]; exact fun h => hb4 h.2.2.1))]
  have rb := rdN_all y1 lb
  have wb := retb y0
  have rb2 := rdN_all (get_set (k := .cells 1 badL (0, 0)) y0) lb
  simp only [↓eD, eZ, ↓reduceIte, Nat.reduceEqDiff, Nat.reduceAdd, Nat.reduceMul, reduceCtorEq, Nat.reduceLeDiff, Int.reduceLT, Int.reduceLE, Int.reduceToNat, Int.reduceEq, Nat.reduceLT, de, d3, bx1, bx2, tn1, tn2, rx1, rx2, da, dd, lb, rb, wb, rb2, badV, Bool.not_false, Bool.not_true, undef_eq]
  rw [hf]
  exact ⟨oθ1.set (Nat.le_refl _), zeroL, none, 0, none, 0, rfl, zr, fun h => by cases h⟩
 have db : decide (4096 < x1) = false := by rw [decide_eq_false]; omega
 by_cases hc : 0 ≤ x2
 case neg =>
  have dd : decide (x2 < 0) = true := by rw [decide_eq_true]; omega
  have hf : decF b = (.zero, 11) := by rw [hu, if_pos (.inr (by unfold formX; rw [decide_eq_false_iff_not, ← hx1, ← hx2]; exact fun h => hc h.2.2.2.1))]
  have rb := rdN_all y1 lb
  have wb := retb y0
  have rb2 := rdN_all (get_set (k := .cells 1 badL (0, 0)) y0) lb
  simp only [↓eD, eZ, ↓reduceIte, Nat.reduceEqDiff, Nat.reduceAdd, Nat.reduceMul, reduceCtorEq, Nat.reduceLeDiff, Int.reduceLT, Int.reduceLE, Int.reduceToNat, Int.reduceEq, Nat.reduceLT, de, d3, bx1, bx2, tn1, tn2, rx1, rx2, da, db, dd, lb, rb, wb, rb2, badV, Bool.not_false, Bool.not_true, undef_eq]
  rw [hf]
  exact ⟨oθ1.set (Nat.le_refl _), zeroL, none, 0, none, 0, rfl, zr, fun h => by cases h⟩
 have dc : decide (x2 < 0) = false := by rw [decide_eq_false]; omega
 by_cases hd : x2 ≤ 256
 case neg =>
  have dd : decide (256 < x2) = true := by rw [decide_eq_true]; omega
  have hf : decF b = (.zero, 11) := by rw [hu, if_pos (.inr (by unfold formX; rw [decide_eq_false_iff_not, ← hx1, ← hx2]; exact fun h => hd h.2.2.2.2.1))]
  have rb := rdN_all y1 lb
  have wb := retb y0
  have rb2 := rdN_all (get_set (k := .cells 1 badL (0, 0)) y0) lb
  simp only [↓eD, eZ, ↓reduceIte, Nat.reduceEqDiff, Nat.reduceAdd, Nat.reduceMul, reduceCtorEq, Nat.reduceLeDiff, Int.reduceLT, Int.reduceLE, Int.reduceToNat, Int.reduceEq, Nat.reduceLT, de, d3, bx1, bx2, tn1, tn2, rx1, rx2, da, db, dc, dd, lb, rb, wb, rb2, badV, Bool.not_false, Bool.not_true, undef_eq]
  rw [hf]
  exact ⟨oθ1.set (Nat.le_refl _), zeroL, none, 0, none, 0, rfl, zr, fun h => by cases h⟩
 have de2 : decide (256 < x2) = false := by rw [decide_eq_false]; omega
 have wm1 : IntKind.wrap .i64 (4 * x1) = 4 * x1 := wrap64' (by omega) (by omega)
 have wm2 : IntKind.wrap .i64 (3 + 4 * x1) = 3 + 4 * x1 := wrap64' (by omega) (by omega)
 have wm3 : IntKind.wrap .i64 (3 + 4 * x1 + x2) = 3 + 4 * x1 + x2 := wrap64' (by omega) (by omega)
 by_cases hxl : (x.length : Int) = 3 + 4 * x1 + x2
 case neg =>
  have dd : decide ((x.length : Int) = 3 + 4 * x1 + x2) = false := by rw [decide_eq_false]; omega
  have hf : decF b = (.zero, 11) := by rw [hu, if_pos (.inr (by unfold formX; rw [decide_eq_false_iff_not, ← hx1, ← hx2]; exact fun h => hxl h.2.2.2.2.2))]
  have rb := rdN_all y1 lb
  have wb := retb y0
  have rb2 := rdN_all (get_set (k := .cells 1 badL (0, 0)) y0) lb
  simp only [↓eD, eZ, ↓reduceIte, Nat.reduceEqDiff, Nat.reduceAdd, Nat.reduceMul, reduceCtorEq, Nat.reduceLeDiff, Int.reduceLT, Int.reduceLE, Int.reduceToNat, Int.reduceEq, Nat.reduceLT, de, d3, bx1, bx2, tn1, tn2, rx1, rx2, da, db, dc, de2, wm1, wm2, wm3, dd, lb, rb, wb, rb2, badV, Bool.not_false, Bool.not_true, undef_eq]
  rw [hf]
  exact ⟨oθ1.set (Nat.le_refl _), zeroL, none, 0, none, 0, rfl, zr, fun h => by cases h⟩
 have dx : decide ((x.length : Int) = 3 + 4 * x1 + x2) = true := decide_eq_true hxl
 have hfx : formX x = true := by unfold formX; rw [decide_eq_true_eq, ← hx1, ← hx2]; omega
 rw [if_neg (by rw [hfx]; simp)] at hu
 obtain ⟨va, ca, hva⟩ := hw1.slice
 subst hva
 obtain ⟨v2, hs2, hw2, hbase2⟩ := whl_suf (lo := n) (hw1.Old ho1) (by rw [hbl] at i3; rw [hbl]; omega)
 rw [Nat.mul_one, digC_drop] at hw2
 have hbl2 : ((b.drop 16).drop n).length = (b.drop 16).length - n := List.length_drop
 rw [← hbl2] at hw2
 have hb2 : Byt ((b.drop 16).drop n) := byt_drop hb1
 simp only [↓eD, eZ, ↓reduceIte, Nat.reduceEqDiff, Nat.reduceAdd, Nat.reduceMul, reduceCtorEq, Nat.reduceLeDiff, Int.reduceLT, Int.reduceLE, Int.reduceToNat, Int.reduceEq, Nat.reduceLT, de, d3, bx1, bx2, tn1, tn2, rx1, rx2, da, db, dc, de2, wm1, wm2, wm3, dx, hs2, Bool.not_true, Bool.not_false, undef_eq]
 refine appK_of (rget_strs_app hw2 hb2 (by omega)) ?_
 rintro v θ2 ⟨ho2, ds, rfl, gd2⟩
 generalize hY : listF bytF 1 ((b.drop 16).drop n) = Y at gd2 ⊢
 obtain ⟨D, m, f⟩ := Y
 rw [hY] at hu
 dsimp only at gd2 hu ⊢
 have wd := gd2.whl
 obtain ⟨da', dc', rfl⟩ := gd2.slice
 have oθ2 : Old σ θ2 := oθ1.trans ho2
 have w0 := (ho2.2 _ (Array.getElem?_eq_some_iff.1 y0).1).trans y0
 have w1 := (ho2.2 _ (Array.getElem?_eq_some_iff.1 y1).1).trans y1
 have w2 := (ho2.2 _ (Array.getElem?_eq_some_iff.1 y2).1).trans y2
 have rx0' := rd1_Old ho2 rx0
 have rx1' := rd1_Old ho2 rx1
 have rx2' := rd1_Old ho2 rx2
 by_cases hf0 : f = 0
 case neg =>
  have df : decide (f = 0) = false := decide_eq_false hf0
  have hf : decF b = (.zero, 11) := by rw [hu, if_pos (.inl hf0)]
  have rb := rdN_all w1 lb
  have wb := retb w0
  have rb2 := rdN_all (get_set (k := .cells 1 badL (0, 0)) w0) lb
  simp only [↓eD, eZ, ↓reduceIte, Nat.reduceEqDiff, Nat.reduceAdd, Nat.reduceMul, reduceCtorEq, Nat.reduceLeDiff, Int.reduceLT, Int.reduceLE, Int.reduceToNat, Int.reduceEq, Nat.reduceLT, df, lb, rb, wb, rb2, badV, Bool.not_false, Bool.not_true, undef_eq]
  rw [hf]
  exact ⟨oθ2.set (Nat.le_refl _), zeroL, none, 0, none, 0, rfl, zr, fun h => by cases h⟩
 subst hf0
 obtain ⟨s1, _, s3⟩ := listF_read str_one hb2 hY
 by_cases hDl : (D.length : Int) = x1
 case neg =>
  have dD : decide ((D.length : Int) = x1) = false := decide_eq_false hDl
  have hf : decF b = (.zero, 11) := by rw [hu, if_pos (.inr (by rw [← hx1]; exact hDl))]
  have rb := rdN_all w1 lb
  have wb := retb w0
  have rb2 := rdN_all (get_set (k := .cells 1 badL (0, 0)) w0) lb
  simp only [↓eD, eZ, ↓reduceIte, Nat.reduceEqDiff, Nat.reduceAdd, Nat.reduceMul, reduceCtorEq, Nat.reduceLeDiff, Int.reduceLT, Int.reduceLE, Int.reduceToNat, Int.reduceEq, Nat.reduceLT, de, bx1, tn1, rx1', dD, lb, rb, wb, rb2, badV, Bool.not_false, Bool.not_true, undef_eq]
  rw [hf]
  exact ⟨oθ2.set (Nat.le_refl _), zeroL, none, 0, none, 0, rfl, zr, fun h => by cases h⟩
 have dD : decide ((D.length : Int) = x1) = true := decide_eq_true hDl
 rw [if_neg (fun h => h.elim (fun h => h rfl) (fun h => h (by rw [← hx1]; exact hDl)))] at hu
 have wm4 : IntKind.wrap .i64 (32 * x2) = 32 * x2 := wrap64' (by omega) (by omega)
 have wm5 : IntKind.wrap .i64 ((n : Int) + (m : Int)) = (n : Int) + (m : Int) := wrap64' (by omega) (by omega)
 have wm6 : IntKind.wrap .i64 ((n : Int) + (m : Int) + 32 * x2) = (n : Int) + (m : Int) + 32 * x2 := wrap64' (by omega) (by omega)
 by_cases hbt : ((b.drop 16).length : Int) = (n : Int) + (m : Int) + 32 * x2
 case neg =>
  have dt : decide (((b.drop 16).length : Int) = (n : Int) + (m : Int) + 32 * x2) = false := decide_eq_false hbt
  have hf : decF b = (.zero, 11) := by rw [hu, if_pos (by rw [← hx2]; exact hbt)]
  have rb := rdN_all w1 lb
  have wb := retb w0
  have rb2 := rdN_all (get_set (k := .cells 1 badL (0, 0)) w0) lb
  simp only [↓eD, eZ, ↓reduceIte, Nat.reduceEqDiff, Nat.reduceAdd, Nat.reduceMul, reduceCtorEq, Nat.reduceLeDiff, Int.reduceLT, Int.reduceLE, Int.reduceToNat, Int.reduceEq, Nat.reduceLT, de, bx1, tn1, rx1', dD, bx2, tn2, rx2', wm4, wm5, wm6, dt, lb, rb, wb, rb2, badV, Bool.not_false, Bool.not_true, undef_eq]
  rw [hf]
  exact ⟨oθ2.set (Nat.le_refl _), zeroL, none, 0, none, 0, rfl, zr, fun h => by cases h⟩
 have dt : decide (((b.drop 16).length : Int) = (n : Int) + (m : Int) + 32 * x2) = true := decide_eq_true hbt
 rw [if_neg (by rw [← hx2]; exact fun h => h hbt)] at hu
 have k16 : wrN θ2 ⟨σ.size + 2, 16, none⟩ [.int .i64 x0] = some (θ2.setIfInBounds (σ.size + 2) (.cells 2 (recC (b.take 16) x0 (.slice none 0 0) (.slice none 0 0)) (0, 0))) := by
  rw [wrN_eq, if_neg (by simp), w2, wrc_cells, if_pos ⟨by rw [rec_len ld]; show 16 + 1 ≤ 19; omega, rfl⟩]
  show some (θ2.setIfInBounds (σ.size + 2) (.cells 2 ((recC (b.take 16) 0 (.slice none 0 0) (.slice none 0 0)).set 16 _) (0, 0))) = _
  rw [rec_s16 ld]
 simp only [↓eD, eZ, ↓reduceIte, Nat.reduceEqDiff, Nat.reduceAdd, Nat.reduceMul, reduceCtorEq, Nat.reduceLeDiff, Int.reduceLT, Int.reduceLE, Int.reduceToNat, Int.reduceEq, Nat.reduceLT, de, bx1, tn1, rx1', dD, bx2, tn2, rx2', wm4, wm5, wm6, dt, bx0, tn0, rx0', k16, Bool.not_true, Bool.not_false, undef_eq]
 obtain ⟨θb, hθb⟩ : ∃ θb, θb = θ2.setIfInBounds (σ.size + 2) (.cells 2 (recC (b.take 16) x0 (.slice none 0 0) (.slice none 0 0)) (0, 0)) := ⟨_, rfl⟩
 rw [← hθb]
 have oB2 : OldB (σ.size + 2) θ2 θb := by rw [hθb]; exact OldB.set ⟨Nat.le_refl _, fun _ _ _ => rfl⟩
 have oθb : Old σ θb := oB2.old oθ2 (by omega)
 have hsz2 : T1.size ≤ θ1.size := ho1.1
 have hsz3 : θ1.size ≤ θ2.size := ho2.1
 have sθb : θb.size = θ2.size := by rw [hθb]; simp
 have b0 : θb[σ.size]? = some (.cells 0 rd21 (0, 0)) := by rw [hθb]; exact (get_set_ne (by omega)).trans w0
 have b1 : θb[σ.size + 1]? = some (.cells 1 badL (0, 0)) := by rw [hθb]; exact (get_set_ne (by omega)).trans w1
 have b2 : θb[σ.size + 2]? = some (.cells 2 (recC (b.take 16) x0 (.slice none 0 0) (.slice none 0 0)) (0, 0)) := by rw [hθb]; exact get_set w2
 obtain ⟨ka, kb, hka, hkr⟩ := hw.at (by omega)
 have hklt : ka < σ.size := rdN_lt hkr (by omega)
 have nb1 : ∀ q, baseOf (.slice va (b.drop 16).length ca) = some q → q ≠ σ.size + 2 := fun q hq => by
  have := hbase1 q hq
  rw [hka] at this
  have h9 : some ka = some q := this
  injection h9 with h9
  omega
 have nbd : ∀ q, baseOf (.slice da' D.length dc') = some q → q ≠ σ.size + 2 := fun q hq => by have := (gd2.base hq).1; omega
 have nbx : ∀ q, baseOf (.slice (some ⟨xk, xo, none⟩) x.length xc) = some q → q ≠ σ.size + 2 := fun q hq => by have := (gx.base hq).1; omega
 have W1 := Whl.oldB ((hw1.Old ho1).Old ho2) nb1 oB2 (by omega)
 have Wd := Whl.oldB wd nbd oB2 (by omega)
 have Wx := Whl.oldB (wx.Old ho2) nbx oB2 (by omega)
 obtain ⟨E, hE⟩ : ∃ E, E = entsOf (x.drop 3) D := ⟨_, rfl⟩
 have hEl : E.length = D.length := by rw [hE]; exact entsOf_len
 have hssb : (sized θb.size).size = θb.size := sized_size
 have hDle : D.length ≤ 4096 := by omega
 clear hs2 hw2 hbase2 hs1 hs1' k16 dD dt dx wm1 wm2 wm3 rx0 rx1 rx2 rx1' rx2' rx0'
 subst hDl
 refine loop_for (J := fun i e τ => i ≤ D.length ∧ ∃ (vE : Value) (ver : Nat), e = [(0, .slice va (b.drop 16).length ca), (2, .pointer (some ⟨σ.size, 0, none⟩)), (3, .pointer (some ⟨σ.size + 1, 0, none⟩)), (4, .pointer (some ⟨σ.size + 2, 0, none⟩)), (5, .slice (some ⟨xk, xo, none⟩) x.length xc), (6, .int .i64 (n : Int)), (8, .slice da' D.length dc'), (9, .int .i64 (m : Int)), (11, .int .i64 (i : Int))] ∧ OldB (σ.size + 2) θb τ ∧ τ[σ.size + 2]? = some (.cells ver (recC (b.take 16) x0 vE (.slice none 0 0)) (0, 0)) ∧ Grown (sized θb.size) τ 5 vE ((E.take i).map entV).flatten i) D.length
  ⟨by omega, _, 2, rfl, ⟨Nat.le_refl _, fun _ _ _ => rfl⟩, b2, .nil⟩ ?_
 rintro i e τ hi ⟨_, vE, ver, rfl, hB, hbox, hg⟩
 have Wxτ := Whl.oldB Wx nbx hB (by omega)
 obtain ⟨_, _, hxa1, rx1⟩ := whl_int Wxτ (i := 1) (by omega)
 injection hxa1 with hxa1
 injection hxa1 with q1 q2
 subst q1 q2
 rw [← gd 1 (by omega), ← hx1] at rx1
 have rx1' := fun M => rd1_old (l := M) rx1
 by_cases hlt : i < D.length
 ·have dl : decide ((i : Int) < (D.length : Int)) = true := by rw [decide_eq_true]; omega
  have hbd : (0:Int) ≤ (i:Int) ∧ (i:Int) < (D.length : Int) := by omega
  have hw1 : IntKind.wrap .i64 ((i:Int) + 1) = ((i + 1 : Nat) : Int) := by rw [wrap64' (by omega) (by omega)]; omega
  have wa : IntKind.wrap .i64 (4 * (i:Int)) = 4 * (i:Int) := wrap64' (by omega) (by omega)
  have wb : IntKind.wrap .i64 (3 + 4 * (i:Int)) = ((3 + 4 * i : Nat) : Int) := by rw [wrap64' (by omega) (by omega)]; omega
  have hyl : (x.drop (3 + 4 * i)).length = x.length - (3 + 4 * i) := List.length_drop
  obtain ⟨v4, hs4, hw4, hbase4⟩ := whl_suf (lo := 3 + 4 * i) Wxτ (by omega)
  rw [Nat.mul_one, ← List.map_drop, ← hyl] at hw4
  obtain ⟨y, hy⟩ : ∃ y, y = x.drop (3 + 4 * i) := ⟨_, rfl⟩
  rw [← hy] at hw4 hyl
  have Wdτ := Whl.oldB Wd nbd hB (by omega)
  obtain ⟨ya, yc, rfl⟩ := hw4.slice
  obtain ⟨yk, yo, hya, ry0⟩ := whl_int hw4 (i := 0) (by omega)
  obtain ⟨_, _, hya1, ry1⟩ := whl_int hw4 (i := 1) (by omega)
  obtain ⟨_, _, hya2, ry2⟩ := whl_int hw4 (i := 2) (by omega)
  obtain ⟨_, _, hya3, ry3⟩ := whl_int hw4 (i := 3) (by omega)
  subst hya
  injection hya1 with hya1
  injection hya1 with q1 q2
  subst q1 q2
  injection hya2 with hya2
  injection hya2 with q1 q2
  subst q1 q2
  injection hya3 with hya3
  injection hya3 with q1 q2
  subst q1 q2
  obtain ⟨dk, dd, hda, rd0⟩ := whl_str Wdτ (i := i) hlt
  subst hda
  have c0 : (0:Int) ≤ 0 ∧ (0:Int) < (y.length : Int) := by omega
  have c1 : (0:Int) ≤ 1 ∧ (1:Int) < (y.length : Int) := by omega
  have c2 : (0:Int) ≤ 2 ∧ (2:Int) < (y.length : Int) := by omega
  have c3 : (0:Int) ≤ 3 ∧ (3:Int) < (y.length : Int) := by omega
  have tn3 : Int.toNat 3 = 3 := rfl
  rw [Nat.add_zero] at ry0
  have g17 : ∀ M, rd1 (ap τ M) ⟨σ.size + 2, 17, none⟩ = some vE := fun M => rd1_of hbox .ap (rec17 ld)
  obtain ⟨ve, vn, rfl⟩ := hg.slice
  have hget := entsOf_get (x := x.drop 3) (D := D) hlt
  rw [← hE, List.drop_drop, ← hy] at hget
  have gy : ∀ j (h : j < y.length), y.getD j 0 = y[j] := fun j h => (List.getElem_eq_getD (l := y) (i := j) 0 (h := h)).symm
  rw [gy 0 (by omega), gy 1 (by omega), gy 2 (by omega), gy 3 (by omega)] at hget
  have htk := take_get hget
  have ry0' := fun M => rd1_old (l := M) ry0
  have ry1' := fun M => rd1_old (l := M) ry1
  have ry2' := fun M => rd1_old (l := M) ry2
  have ry3' := fun M => rd1_old (l := M) ry3
  have rd0' := fun M => rd1_old (l := M) rd0
  rw [← ap_nil (σ := τ)]
  have hs4' : sliceV 1 (.slice (some ⟨xk, xo, none⟩) x.length xc) (some (.int .i64 ((3 + 4 * i : Nat) : Int))) none none = some (.slice (some ⟨yk, yo, none⟩) y.length yc) := hs4
  simp only [↓eD, eZ, ↓reduceIte, Nat.reduceEqDiff, Nat.reduceAdd, Nat.reduceMul, reduceCtorEq, Nat.reduceLeDiff, Int.reduceLT, Int.reduceLE, Int.reduceToNat, Int.reduceEq, Nat.reduceLT, dl, bx1, tn1, rx1', wa, wb, hs4', hbd, Int.toNat_natCast, rd0', g17, c0, c1, c2, c3, tn0, tn1, tn2, tn3, ry0', ry1', ry2', ry3', undef_eq]
  have hg1 := hg.old (Old.ap (l := [.cells 0 [.int .i64 y[0], .int .i64 y[1], .int .i64 y[2], .int .i64 y[3], .string D[i]] (0, 0)]))
  have xc' : xcells (ap τ [.cells 0 [.int .i64 y[0], .int .i64 y[1], .int .i64 y[2], .int .i64 y[3], .string D[i]] (0, 0)]) 5 (.slice (some ⟨τ.size, 0, none⟩) 1 1) = some (1, [.int .i64 y[0], .int .i64 y[1], .int .i64 y[2], .int .i64 y[3], .string D[i]]) := by
   show (rdN (ap τ _) ⟨τ.size, 0, none⟩ (1 * 5)).map (1, ·) = _
   rw [rdN_all (n := 1 * 5) (by rw [ap_new0]; rfl) rfl]
   rfl
  have hBs := hB.1
  obtain ⟨v6, τ2, ha, A⟩ := append_grown (bytes := 48) hg1 (by omega) (by rw [hssb, ap_size]; omega) xc' rfl rfl (by omega) (by omega)
  refine onV_of ha ?_
  have hB2 := hB.grow .ap A hg1
  have hbox2 : τ2[σ.size + 2]? = some (.cells ver (recC (b.take 16) x0 (.slice ve i vn) (.slice none 0 0)) (0, 0)) := A.low hg1 (by rw [hssb]; omega) ((ap_old (Array.getElem?_eq_some_iff.1 hbox).1).trans hbox)
  obtain ⟨ve2, vn2, rfl⟩ := A.grown.slice
  have k17 : wrN τ2 ⟨σ.size + 2, 17, none⟩ [.slice ve2 (i + 1) vn2] = some (τ2.setIfInBounds (σ.size + 2) (.cells (ver + 1) (recC (b.take 16) x0 (.slice ve2 (i + 1) vn2) (.slice none 0 0)) (0, 0))) := by
   rw [wrN_eq, if_neg (by simp), hbox2, wrc_cells, if_pos ⟨by rw [rec_len ld]; show 17 + 1 ≤ 19; omega, rfl⟩]
   show some (τ2.setIfInBounds (σ.size + 2) (.cells (ver + 1) ((recC (b.take 16) x0 (.slice ve i vn) (.slice none 0 0)).set 17 _) (0, 0))) = _
   rw [rec_s17 ld]
  simp only [↓eD, eZ, ↓reduceIte, Nat.reduceEqDiff, Nat.reduceAdd, Nat.reduceMul, reduceCtorEq, Nat.reduceLeDiff, Int.reduceLT, Int.reduceLE, Int.reduceToNat, Int.reduceEq, Nat.reduceLT, k17, hw1, undef_eq]
  refine ⟨hlt, by omega, .slice ve2 (i + 1) vn2, ver + 1, hB2.set, get_set hbox2, ?_⟩
  have := A.grown.set (b := σ.size + 2) (k := .cells (ver + 1) (recC (b.take 16) x0 (.slice ve2 (i + 1) vn2) (.slice none 0 0)) (0, 0)) (by rw [hssb]; omega)
  rw [htk, List.map_append, List.flatten_append]
  simpa [entV] using this
 have : i = D.length := by omega
 subst this
 have dl : decide ((D.length : Int) < (D.length : Int)) = false := by rw [decide_eq_false]; omega
 rw [← ap_nil (σ := τ)]
 simp only [↓eD, eZ, ↓reduceIte, Nat.reduceEqDiff, Nat.reduceAdd, Nat.reduceMul, reduceCtorEq, Nat.reduceLeDiff, Int.reduceLT, Int.reduceLE, Int.reduceToNat, Int.reduceEq, Nat.reduceLT, dl, bx1, tn1, rx1', undef_eq]
 rw [ap_nil]
 obtain ⟨R, hR⟩ : ∃ R, R = x.drop (3 + 4 * D.length) := ⟨_, rfl⟩
 obtain ⟨T, hT⟩ : ∃ T, T = (b.drop 16).drop (n + m) := ⟨_, rfl⟩
 obtain ⟨P, hP⟩ : ∃ P, P = b.drop 16 := ⟨_, rfl⟩
 have hRl : R.length = x.length - (3 + 4 * D.length) := by rw [hR, List.length_drop]
 have hx2R : x2 = (R.length : Int) := by omega
 subst hx2R
 have hTl' : T.length = (b.drop 16).length - (n + m) := by rw [hT, List.length_drop]
 have hTl : T.length = 32 * R.length := by omega
 obtain ⟨S, hS⟩ : ∃ S, S = seasOf R T := ⟨_, rfl⟩
 have hSl : S.length = R.length := by rw [hS]; exact seasOf_len
 have hRle : R.length ≤ 256 := by omega
 rw [List.take_of_length_le (by omega)] at hg
 have Wbτ := Whl.oldB W1 nb1 hB (by omega)
 have hBs := hB.1
 have oτ : Old σ τ := hB.old oθb (by omega)
 have hsst : (sized τ.size).size = τ.size := sized_size
 rw [← hP] at hbt hTl' nb1 Wbτ
 rw [← hP]
 have hPT : T = P.drop (n + m) := by rw [hT, hP]
 have oE : vE.oneCell' = true := hg.one
 refine loop_for (J := fun j e η => j ≤ R.length ∧ ∃ (vS : Value) (ver : Nat), e = [(0, .slice va P.length ca), (2, .pointer (some ⟨σ.size, 0, none⟩)), (3, .pointer (some ⟨σ.size + 1, 0, none⟩)), (4, .pointer (some ⟨σ.size + 2, 0, none⟩)), (5, .slice (some ⟨xk, xo, none⟩) x.length xc), (6, .int .i64 (n : Int)), (9, .int .i64 (m : Int)), (13, .int .i64 (j : Int))] ∧ OldB (σ.size + 2) τ η ∧ η[σ.size + 2]? = some (.cells ver (recC (b.take 16) x0 vE vS) (0, 0)) ∧ Grown (sized τ.size) η 33 vS ((S.take j).map seaV).flatten j) R.length
  ⟨by omega, _, ver, rfl, ⟨Nat.le_refl _, fun _ _ _ => rfl⟩, hbox, .nil⟩ ?_
 rintro j e η hj ⟨_, vS, ver2, rfl, hB2, hbox2, hgS⟩
 have Wxη := Whl.oldB Wxτ nbx hB2 (by omega)
 have Wbη := Whl.oldB Wbτ nb1 hB2 (by omega)
 obtain ⟨_, _, hxa2, rx2⟩ := whl_int Wxη (i := 2) (by omega)
 injection hxa2 with hxa2
 injection hxa2 with q1 q2
 subst q1 q2
 obtain ⟨_, _, hxa1, rx1⟩ := whl_int Wxη (i := 1) (by omega)
 injection hxa1 with hxa1
 injection hxa1 with q1 q2
 subst q1 q2
 rw [← gd 1 (by omega), ← hx1] at rx1
 rw [← gd 2 (by omega), ← hx2] at rx2
 have rx1' := fun M => rd1_old (l := M) rx1
 have rx2' := fun M => rd1_old (l := M) rx2
 by_cases hlt : j < R.length
 ·have dl : decide ((j : Int) < (R.length : Int)) = true := by rw [decide_eq_true]; omega
  have hw1 : IntKind.wrap .i64 ((j:Int) + 1) = ((j + 1 : Nat) : Int) := by rw [wrap64' (by omega) (by omega)]; omega
  have wm1 : IntKind.wrap .i64 (4 * (D.length : Int)) = 4 * (D.length : Int) := wrap64' (by omega) (by omega)
  have wm2 : IntKind.wrap .i64 (3 + 4 * (D.length : Int)) = 3 + 4 * (D.length : Int) := wrap64' (by omega) (by omega)
  have wm3 : IntKind.wrap .i64 (3 + 4 * (D.length : Int) + (j : Int)) = ((3 + 4 * D.length + j : Nat) : Int) := by rw [wrap64' (by omega) (by omega)]; omega
  have wn1 : IntKind.wrap .i64 (32 * (j : Int)) = 32 * (j : Int) := wrap64' (by omega) (by omega)
  have wn2 : IntKind.wrap .i64 ((n : Int) + (m : Int) + 32 * (j : Int)) = ((n + m + 32 * j : Nat) : Int) := by rw [wrap64' (by omega) (by omega)]; omega
  have hbd : (0:Int) ≤ ((3 + 4 * D.length + j : Nat) : Int) ∧ ((3 + 4 * D.length + j : Nat) : Int) < (x.length : Int) := by omega
  obtain ⟨_, _, hxaj, rxj⟩ := whl_int Wxη (i := 3 + 4 * D.length + j) (by omega)
  injection hxaj with hxaj
  injection hxaj with q1 q2
  subst q1 q2
  have hRj : R[j] = x[3 + 4 * D.length + j]'(by omega) := by simp only [hR, List.getElem_drop]
  rw [← hRj] at rxj
  have rxj' := fun M => rd1_old (l := M) rxj
  obtain ⟨v5, hs5, hw5, hbase5⟩ := whl_suf (lo := n + m + 32 * j) Wbη (by omega)
  rw [Nat.mul_one, digC_drop] at hw5
  have hyl : (T.drop (32 * j)).length = T.length - 32 * j := List.length_drop
  obtain ⟨y, hy⟩ : ∃ y, y = T.drop (32 * j) := ⟨_, rfl⟩
  have hyP : y = P.drop (n + m + 32 * j) := by rw [hy, hPT, List.drop_drop]
  have hyl2 : P.length - (n + m + 32 * j) = y.length := by rw [hyP, List.length_drop]
  rw [← hy] at hyl
  rw [← hyP, hyl2] at hw5
  have g18 : ∀ M, rd1 (ap η M) ⟨σ.size + 2, 18, none⟩ = some vS := fun M => rd1_of hbox2 .ap (rec18 ld)
  obtain ⟨vs, vn, rfl⟩ := hgS.slice
  have hget := seasOf_get (x := R) (b := T) hlt
  rw [← hS, ← hy] at hget
  have htk := take_get hget
  rw [← ap_nil (σ := η)]
  simp only [↓eD, eZ, ↓reduceIte, Nat.reduceEqDiff, Nat.reduceAdd, Nat.reduceMul, reduceCtorEq, Nat.reduceLeDiff, Int.reduceLT, Int.reduceLE, Int.reduceToNat, Int.reduceEq, Nat.reduceLT, dl, bx1, bx2, tn1, tn2, rx1', rx2', wm1, wm2, wm3, hbd, Int.toNat_natCast, rxj', wm5, wn1, wn2, hs5, undef_eq]
  refine appK_of (rdigest_app (hw5.Old .ap) (by omega)) ?_
  rintro _ _ ⟨rfl, rfl⟩
  obtain ⟨G, hGd⟩ : ∃ G, G = y.take 16 := ⟨_, rfl⟩
  obtain ⟨Q, hQ⟩ : ∃ Q, Q = (y.drop 16).take 16 := ⟨_, rfl⟩
  have lG : G.length = 16 := by rw [hGd, List.length_take]; omega
  have lQ : Q.length = 16 := by rw [hQ, List.length_take, List.length_drop]; omega
  rw [← hGd]
  rw [← hGd, ← hQ] at htk
  have lg : (digC G).length = 16 := by rw [digC_length, lG]
  have sb1 : sets [.int .i64 R[j], .int .u8 0, .int .u8 0, .int .u8 0, .int .u8 0, .int .u8 0, .int .u8 0, .int .u8 0, .int .u8 0, .int .u8 0, .int .u8 0, .int .u8 0, .int .u8 0, .int .u8 0, .int .u8 0, .int .u8 0, .int .u8 0, .int .u8 0, .int .u8 0, .int .u8 0, .int .u8 0, .int .u8 0, .int .u8 0, .int .u8 0, .int .u8 0, .int .u8 0, .int .u8 0, .int .u8 0, .int .u8 0, .int .u8 0, .int .u8 0, .int .u8 0, .int .u8 0] 1 (digC G) = seaV ⟨R[j], G, List.replicate 16 0⟩ := by
   rw [sets_all (by rw [lg]; simp), lg]
   show _ = Value.int .i64 R[j] :: (digC G ++ digC (List.replicate 16 0))
   rw [← digC_rep]
   simp
  have seaok : ∀ q : List Int, q.length = 16 → (⟨R[j], G, q⟩ : Sea).ok := fun q hq => ⟨lG, hq⟩
  have l0 : (List.replicate 16 (0:Int)).length = 16 := rfl
  have sl0 := seaV_len (seaok _ l0)
  have so0 := seaV_one (s := ⟨R[j], G, List.replicate 16 0⟩)
  have sf : ∀ (q : List Int) (z : List Value), q.length = 16 → z.length = 33 → sets z 0 (seaV ⟨R[j], G, q⟩) = seaV ⟨R[j], G, q⟩ := fun q z hq hz => by
   have h9 := seaV_len (seaok q hq)
   rw [sets_all (by omega)]; simp [h9, hz]
  have sf0 := fun z => sf _ z l0
  have st0 : (seaV ⟨R[j], G, List.replicate 16 0⟩).take 33 = seaV ⟨R[j], G, List.replicate 16 0⟩ := List.take_of_length_le (by omega)
  have sn : ∀ q : List Int, (seaV ⟨R[j], G, q⟩ = []) = False := fun q => eq_false (by simp [seaV])
  simp only [↓eD, eZ, ↓reduceIte, Nat.reduceEqDiff, Nat.reduceAdd, Nat.reduceMul, reduceCtorEq, Nat.reduceLeDiff, Int.reduceLT, Int.reduceLE, Int.reduceToNat, Int.reduceEq, Nat.reduceLT, rx1', rxj', lg, sb1, sl0, so0, sf0, st0, sn, undef_eq]
  have hP0 : 0 < P.length := by omega
  refine loop_for (J := fun i e ζ => i ≤ 16 ∧ ∃ ver, e = [(0, .slice va P.length ca), (2, .pointer (some ⟨σ.size, 0, none⟩)), (3, .pointer (some ⟨σ.size + 1, 0, none⟩)), (4, .pointer (some ⟨σ.size + 2, 0, none⟩)), (5, .slice (some ⟨xk, xo, none⟩) x.length xc), (6, .int .i64 (n : Int)), (9, .int .i64 (m : Int)), (13, .int .i64 (j : Int)), (14, .pointer (some ⟨η.size, 0, none⟩)), (15, .int .i64 (i : Int))] ∧ ζ = ap η [.cells ver (seaV ⟨R[j], G, Q.take i ++ List.replicate (16 - i) 0⟩) (0, 0)]) 16 ⟨by omega, 1, rfl, rfl⟩ ?_
  rintro i e ζ hi ⟨_, ver3, rfl, rfl⟩
  by_cases hi16 : i < 16
  ·have c1 : decide ((i : Int) < 16) = true := by rw [decide_eq_true]; omega
   have hbi : (0:Int) ≤ (i:Int) ∧ (i:Int) < ((16 : Nat) : Int) := by omega
   have hwi : IntKind.wrap .i64 ((i:Int) + 1) = ((i + 1 : Nat) : Int) := by rw [wrap64' (by omega) (by omega)]; omega
   have wn3 : IntKind.wrap .i64 (((n + m + 32 * j : Nat) : Int) + 16) = ((n + m + 32 * j + 16 : Nat) : Int) := by rw [wrap64' (by omega) (by omega)]; omega
   have wn4 : IntKind.wrap .i64 (((n + m + 32 * j + 16 : Nat) : Int) + (i : Int)) = ((n + m + 32 * j + 16 + i : Nat) : Int) := by rw [wrap64' (by omega) (by omega)]; omega
   have hbb : (0:Int) ≤ ((n + m + 32 * j + 16 + i : Nat) : Int) ∧ ((n + m + 32 * j + 16 + i : Nat) : Int) < (P.length : Int) := by omega
   obtain ⟨pk, po, hva, hr⟩ := whl_byte Wbη (i := n + m + 32 * j + 16 + i) (by omega)
   subst hva
   have hq : i < Q.length := by omega
   have hPQ : P[n + m + 32 * j + 16 + i]'(by omega) = Q[i] := by
    simp only [hQ, hyP, List.getElem_take, List.getElem_drop]
    congr 1
    omega
   rw [hPQ] at hr
   have hr' : ∀ M, rd1 (ap η M) ⟨pk, po + (n + m + 32 * j + 16 + i), none⟩ = some (.int .u8 Q[i]) := fun M => rd1_old hr
   have lcs : (seaV ⟨R[j], G, Q.take i ++ List.replicate (16 - i) 0⟩).length = 33 := seaV_len (seaok _ (by rw [List.length_append, List.length_take, List.length_replicate]; omega))
   have hnx : (seaV ⟨R[j], G, Q.take i ++ List.replicate (16 - i) 0⟩).set (17 + i) (.int .u8 Q[i]) = seaV ⟨R[j], G, Q.take (i + 1) ++ List.replicate (16 - (i + 1)) 0⟩ := by
    have h16' : 16 - i = (16 - (i + 1)) + 1 := by omega
    have lt : (Q.take i).length = i := by rw [List.length_take]; omega
    show (Value.int .i64 R[j] :: (digC G ++ digC (Q.take i ++ List.replicate (16 - i) 0))).set (17 + i) _ = Value.int .i64 R[j] :: (digC G ++ digC (Q.take (i + 1) ++ List.replicate (16 - (i + 1)) 0))
    rw [show 17 + i = (16 + i) + 1 by omega, List.set_cons_succ, List.set_append, if_neg (by rw [lg]; omega), lg, show 16 + i - 16 = i by omega]
    rw [h16', List.replicate_succ, List.take_succ_eq_append_getElem hq]
    unfold digC
    rw [List.map_append, List.set_append, if_neg (by rw [List.length_map, lt]; omega), List.length_map, lt, Nat.sub_self, List.map_cons, List.set_cons_zero, List.map_append, List.map_append, List.append_assoc]
    rfl
   have hwr : wrN (ap η [.cells ver3 (seaV ⟨R[j], G, Q.take i ++ List.replicate (16 - i) 0⟩) (0, 0)]) ⟨η.size, 17 + i, none⟩ [.int .u8 Q[i]] = some (ap η [.cells (ver3 + 1) (seaV ⟨R[j], G, Q.take (i + 1) ++ List.replicate (16 - (i + 1)) 0⟩) (0, 0)]) := by
    rw [show η.size = η.size + 0 from rfl, wrN_ap, if_neg (by simp)]
    show (wrc (some (.cells ver3 _ (0, 0))) (17 + i) _).map _ = _
    rw [wrc_cells, if_pos ⟨by rw [lcs]; show 17 + i + 1 ≤ 33; omega, rfl⟩]
    show some (ap η [.cells (ver3 + 1) ((seaV ⟨R[j], G, Q.take i ++ List.replicate (16 - i) 0⟩).set (17 + i) (.int .u8 Q[i])) (0, 0)]) = _
    rw [hnx]
   simp only [↓eD, eZ, ↓reduceIte, Nat.reduceEqDiff, Nat.reduceAdd, Nat.reduceMul, reduceCtorEq, Nat.reduceLeDiff, Int.reduceLT, Int.reduceLE, Int.reduceToNat, Int.reduceEq, Nat.reduceLT, c1, hbi, wm5, wn1, wn2, wn3, wn4, hbb, Int.toNat_natCast, Nat.mul_one, hr', hwr, hwi, undef_eq]
   exact ⟨hi16, by omega, ver3 + 1, rfl⟩
  have : i = 16 := by omega
  subst this
  have c1 : decide (((16 : Nat) : Int) < 16) = false := rfl
  have hQ16 : Q.take 16 ++ List.replicate (16 - 16) 0 = Q := by rw [List.take_of_length_le (by omega)]; simp
  rw [hQ16]
  have nok := seaok Q lQ
  have sl := seaV_len nok
  have so := seaV_one (s := ⟨R[j], G, Q⟩)
  have st : (seaV ⟨R[j], G, Q⟩).take 33 = seaV ⟨R[j], G, Q⟩ := List.take_of_length_le (by omega)
  have sfQ := fun z => sf Q z lQ
  simp only [↓eD, eZ, ↓reduceIte, Nat.reduceEqDiff, Nat.reduceAdd, Nat.reduceMul, reduceCtorEq, Nat.reduceLeDiff, Int.reduceLT, Int.reduceLE, Int.reduceToNat, Int.reduceEq, Nat.reduceLT, c1, g18, sl, so, st, sn, sfQ, undef_eq]
  have hg1 := hgS.old (Old.ap (l := [.cells ver3 (seaV ⟨R[j], G, Q⟩) (0, 0), .cells 0 (seaV ⟨R[j], G, Q⟩) (0, 0)]))
  have xcS : xcells (ap η [.cells ver3 (seaV ⟨R[j], G, Q⟩) (0, 0), .cells 0 (seaV ⟨R[j], G, Q⟩) (0, 0)]) 33 (.slice (some ⟨η.size + 1, 0, none⟩) 1 1) = some (1, seaV ⟨R[j], G, Q⟩) := by
   show (rdN (ap η _) ⟨η.size + 1, 0, none⟩ (1 * 33)).map (1, ·) = _
   rw [rdN_all (n := 1 * 33) (by rw [ap_new]; rfl) (by rw [sl])]
   rfl
  have hBs2 := hB2.1
  obtain ⟨v6, η2, ha, A⟩ := append_grown (bytes := 40) hg1 (by omega) (by rw [hsst, ap_size]; omega) xcS sl so (by omega) (by omega)
  refine onV_of ha ?_
  have hB3 := hB2.grow .ap A hg1
  have hbox3 : η2[σ.size + 2]? = some (.cells ver2 (recC (b.take 16) x0 vE (.slice vs j vn)) (0, 0)) := A.low hg1 (by rw [hsst]; omega) ((ap_old (Array.getElem?_eq_some_iff.1 hbox2).1).trans hbox2)
  obtain ⟨vs2, vn2, rfl⟩ := A.grown.slice
  have k18 : wrN η2 ⟨σ.size + 2, 18, none⟩ [.slice vs2 (j + 1) vn2] = some (η2.setIfInBounds (σ.size + 2) (.cells (ver2 + 1) (recC (b.take 16) x0 vE (.slice vs2 (j + 1) vn2)) (0, 0))) := by
   rw [wrN_eq, if_neg (by simp), hbox3, wrc_cells, if_pos ⟨by rw [rec_len ld]; show 18 + 1 ≤ 19; omega, rfl⟩]
   show some (η2.setIfInBounds (σ.size + 2) (.cells (ver2 + 1) ((recC (b.take 16) x0 vE (.slice vs j vn)).set 18 _) (0, 0))) = _
   rw [rec_s18 ld]
  simp only [↓eD, eZ, ↓reduceIte, Nat.reduceEqDiff, Nat.reduceAdd, Nat.reduceMul, reduceCtorEq, Nat.reduceLeDiff, Int.reduceLT, Int.reduceLE, Int.reduceToNat, Int.reduceEq, Nat.reduceLT, k18, hw1, undef_eq]
  refine ⟨hlt, by omega, .slice vs2 (j + 1) vn2, ver2 + 1, hB3.set, get_set hbox3, ?_⟩
  have := A.grown.set (b := σ.size + 2) (k := .cells (ver2 + 1) (recC (b.take 16) x0 vE (.slice vs2 (j + 1) vn2)) (0, 0)) (by rw [hsst]; omega)
  rw [htk, List.map_append, List.flatten_append]
  simpa using this
 have : j = R.length := by omega
 subst this
 have dl : decide ((R.length : Int) < (R.length : Int)) = false := by rw [decide_eq_false]; omega
 rw [List.take_of_length_le (by omega)] at hgS
 have oη : Old σ η := hB2.old oτ (by omega)
 have gE : Grown (sized θb.size) η 5 vE (E.map entV).flatten D.length := hg.keep fun c k h1 h2 => by
  have h3 := hg.base h1
  rw [hssb] at h3
  rw [hB2.2 c h3.2 (by omega)]
  exact h2
 have lRC := rec_len ld (c := x0) (v := vE) (w := vS)
 have r5 := rdN_all hbox2 lRC
 have r5' := fun M => rdN_old (l := M) r5
 obtain ⟨ea, ec, rfl⟩ := gE.slice
 obtain ⟨sa, sc, rfl⟩ := hgS.slice
 have hdF : decF b = if checkF (logOf (b.take 16) x D T) ≠ 0 then (.zero, 11) else (logOf (b.take 16) x D T, 0) := by rw [hu, ← hT]
 have hLog : logOf (b.take 16) x D T = ⟨b.take 16, x0, E, S⟩ := by unfold logOf; rw [← hx0, ← hE, ← hR, ← hS]
 rw [hLog] at hdF
 have oks : ∀ s ∈ S, s.ok := by rw [hS]; exact (tail_seas hTl).2.2
 have rowE : Row η 5 (.slice ea E.length ec) (E.map entV) := by
  have h9 : Grown (sized θb.size) η 5 (.slice ea D.length ec) (E.map entV).flatten (E.map entV).length := by rw [List.length_map, hEl]; exact gE
  rw [hEl]
  exact h9.Row entV_rows
 have rowS : Row η 33 (.slice sa S.length sc) (S.map seaV) := by
  have h9 : Grown (sized τ.size) η 33 (.slice sa R.length sc) (S.map seaV).flatten (S.map seaV).length := by rw [List.length_map, hSl]; exact hgS
  rw [hSl]
  exact h9.Row (seaV_rows oks)
 have hxI : ∀ z ∈ x, I64 z := fun z hz => i2 z hz
 have hgetI : ∀ (y : List Int) (k : Nat), (∀ z ∈ y, I64 z) → I64 (y.getD k 0) := fun y k hy => by
  rcases Nat.lt_or_ge k y.length with h9 | h9
  ·rw [← List.getElem_eq_getD (l := y) (i := k) 0 (h := h9)]; exact hy _ (List.getElem_mem h9)
  ·have h8 : y.getD k 0 = 0 := by rw [List.getD_eq_getElem?_getD, List.getElem?_eq_none h9]; rfl
   rw [h8]; unfold I64; omega
 have V : LgV η (recC (b.take 16) x0 (.slice ea E.length ec) (.slice sa S.length sc)) ⟨b.take 16, x0, E, S⟩ ea ec sa sc := by
  refine ⟨rfl, rowE, rowS, ?_, ?_, ⟨ld, by rw [hx0]; exact hgetI x 0 hxI, ?_, by simp only [hEl]; omega⟩, fun s hs => ⟨oks s hs, ?_⟩, by simp only [hSl]; omega⟩
  ·simp only [hEl]; exact gE.cap
  ·simp only [hSl]; exact hgS.cap
  ·intro z hz
   obtain ⟨i, hi, hi2⟩ := List.mem_iff_getElem.1 hz
   have hi : i < E.length := hi
   have hi2 : E[i] = z := hi2
   have hiD : i < D.length := by omega
   have h9 := entsOf_get (x := x.drop 3) (D := D) (i := i) (by omega)
   rw [← hE, List.getElem?_eq_getElem hi, hi2] at h9
   have h8 : ∀ z ∈ (x.drop 3).drop (4 * i), I64 z := fun z hz => hxI z (List.mem_of_mem_drop (List.mem_of_mem_drop hz))
   have h7 := Option.some.inj h9
   have hdm : D[i]'(by omega) ∈ D := List.getElem_mem _
   have hsz : (D[i]'(by omega)).size < 100000000000 := by
    have hle : (D[i]'(by omega)).size ≤ (bytesF (D[i]'(by omega))).length := by unfold bytesF; rw [List.length_append, strI_len]; omega
    have hle2 : (bytesF (D[i]'(by omega))).length ≤ (D.flatMap bytesF).length := by
     have hi3 : i < D.length := by omega
     have h5 : D = D.take i ++ D[i] :: D.drop (i + 1) := by rw [← List.drop_eq_getElem_cons hi3, List.take_append_drop]
     generalize D[i]'(by omega) = w at h5
     rw [h5, List.flatMap_append, List.flatMap_cons, List.length_append, List.length_append]
     omega
    have hle3 : (D.flatMap bytesF).length ≤ m := by
     have h6 := congrArg List.length s1
     unfold encL at h6
     rw [List.length_append, List.length_take] at h6
     omega
    omega
   rw [h7]
   exact ⟨hgetI _ _ h8, hgetI _ _ h8, hgetI _ _ h8, hgetI _ _ h8, hsz⟩
  ·have h9 := (tail_seas hTl).2.1
   rw [← hS] at h9
   have : s.end_ ∈ R := by rw [← h9]; exact List.mem_map_of_mem hs
   rw [hR] at this
   exact hxI _ (List.mem_of_mem_drop this)
 rw [hEl, hSl] at V
 simp only [↓eD, eZ, ↓reduceIte, Nat.reduceEqDiff, Nat.reduceAdd, Nat.reduceMul, reduceCtorEq, Nat.reduceLeDiff, Int.reduceLT, Int.reduceLE, Int.reduceToNat, Int.reduceEq, Nat.reduceLT, dl, bx2, tn2, rx2, r5, lRC, undef_eq]
 refine appK_at (check_app V.lg (hG.Old oη)) ?_
 have e0 : η[σ.size]? = some (.cells 0 rd21 (0, 0)) := by
  have h9 : τ[σ.size]? = some (.cells 0 rd21 (0, 0)) := (hB.2 _ (by omega) (by omega)).trans b0
  exact (hB2.2 _ (by omega) (by omega)).trans h9
 have e1 : η[σ.size + 1]? = some (.cells 1 badL (0, 0)) := by
  have h9 : τ[σ.size + 1]? = some (.cells 1 badL (0, 0)) := (hB.2 _ (by omega) (by omega)).trans b1
  exact (hB2.2 _ (by omega) (by omega)).trans h9
 by_cases hck : checkF ⟨b.take 16, x0, E, S⟩ = 0
 case neg =>
  have dc : decide (checkF ⟨b.take 16, x0, E, S⟩ = 0) = false := decide_eq_false hck
  have hf : decF b = (.zero, 11) := by rw [hdF, if_pos hck]
  have rb := rdN_all e1 lb
  have wb := retb e0
  have rb2 := rdN_all (get_set (k := .cells 1 badL (0, 0)) e0) lb
  simp only [↓eD, eZ, ↓reduceIte, Nat.reduceEqDiff, Nat.reduceAdd, Nat.reduceMul, reduceCtorEq, Nat.reduceLeDiff, Int.reduceLT, Int.reduceLE, Int.reduceToNat, Int.reduceEq, Nat.reduceLT, dc, lb, rb, wb, rb2, badV, Bool.not_false, Bool.not_true, undef_eq]
  rw [hf]
  exact ⟨oη.set (Nat.le_refl _), zeroL, none, 0, none, 0, rfl, zr, fun h => by cases h⟩
 have dc : decide (checkF ⟨b.take 16, x0, E, S⟩ = 0) = true := decide_eq_true hck
 have hf : decF b = (⟨b.take 16, x0, E, S⟩, 0) := by rw [hdF, if_neg (fun h => h hck)]
 have wfin := ret21 ld (c := x0) (a1 := ea) (n1 := D.length) (c1 := ec) (a2 := sa) (n2 := R.length) (c2 := sc) (i := 0) (j := 0) e0
 have rfin := rdN_all (get_set (k := .cells 1 (recC (b.take 16) x0 (.slice ea D.length ec) (.slice sa R.length sc) ++ [.int .i64 0, .int .i64 0]) (0, 0)) e0) (r21_len ld)
 have bfin : sets rd21 0 (recC (b.take 16) x0 (.slice ea D.length ec) (.slice sa R.length sc)) = _ := r21_b ld
 have d19 : (19 ≤ rd21.length) = True := by rw [lz]; simp
 have lfin := r21_len ld (c := x0) (v := .slice ea D.length ec) (w := .slice sa R.length sc) (y := .int .i64 0) (z := .int .i64 0)
 have nfin := rec_ne1 (d := b.take 16) (c := x0) (v := .slice ea D.length ec) (w := .slice sa R.length sc) (r := [.int .i64 0, .int .i64 0])
 simp only [↓eD, eZ, ↓reduceIte, Nat.reduceEqDiff, Nat.reduceAdd, Nat.reduceMul, reduceCtorEq, Nat.reduceLeDiff, Int.reduceLT, Int.reduceLE, Int.reduceToNat, Int.reduceEq, Nat.reduceLT, dc, r5, lRC, d19, bfin, lfin, nfin, wfin, rfin, if_true, Option.map_some, Bool.not_true, undef_eq]
 rw [hf]
 have gE2 := gE.set (b := σ.size) (k := .cells 1 (recC (b.take 16) x0 (.slice ea D.length ec) (.slice sa R.length sc) ++ [.int .i64 0, .int .i64 0]) (0, 0)) (by rw [hssb]; omega)
 have gS2 := hgS.set (b := σ.size) (k := .cells 1 (recC (b.take 16) x0 (.slice ea D.length ec) (.slice sa R.length sc) ++ [.int .i64 0, .int .i64 0]) (0, 0)) (by rw [hsst]; omega)
 have oζ : Old σ (η.setIfInBounds σ.size (.cells 1 (recC (b.take 16) x0 (.slice ea D.length ec) (.slice sa R.length sc) ++ [.int .i64 0, .int .i64 0]) (0, 0))) := oη.set (Nat.le_refl _)
 generalize η.setIfInBounds σ.size (.cells 1 (recC (b.take 16) x0 (.slice ea D.length ec) (.slice sa R.length sc) ++ [.int .i64 0, .int .i64 0]) (0, 0)) = ζ at gE2 gS2 oζ ⊢
 have rowE2 : Row ζ 5 (.slice ea E.length ec) (E.map entV) := by
  have h9 : Grown (sized θb.size) ζ 5 (.slice ea D.length ec) (E.map entV).flatten (E.map entV).length := by rw [List.length_map, hEl]; exact gE2
  rw [hEl]
  exact h9.Row entV_rows
 have rowS2 : Row ζ 33 (.slice sa S.length sc) (S.map seaV) := by
  have h9 : Grown (sized τ.size) ζ 33 (.slice sa R.length sc) (S.map seaV).flatten (S.map seaV).length := by rw [List.length_map, hSl]; exact gS2
  rw [hSl]
  exact h9.Row (seaV_rows oks)
 have V2 : LgV ζ (recC (b.take 16) x0 (.slice ea D.length ec) (.slice sa R.length sc)) ⟨b.take 16, x0, E, S⟩ ea ec sa sc :=
  ⟨by simp only [hEl, hSl], rowE2, rowS2, V.cE, V.cS, V.fit, V.ok, V.nS⟩
 exact ⟨oζ, _, ea, ec, sa, sc, rfl, V2.r, fun _ => V2⟩
end Go.Proofs.YtopnlllipkockaaDoor
