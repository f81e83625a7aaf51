/- Walks of the functions that the claim reaches. Conditions: none. -/
import Derived.Test.YtajchhghjjlahaaDoorIc
set_option linter.all false
set_option maxRecDepth 10000
set_option maxHeartbeats 8000000
namespace Go.Proofs.YtajchhghjjlahaaDoor
open Go Go.Cn Go.RowKit
attribute [local irreducible] evL sem onG onI onV
theorem nexti_app {σ : H} {sl : Value} {b : List Int} (hw : Whl σ 1 sl b.length (digC b)) (hb : Byt b) (hl : b.length < 1000000000000) :
  App Tryd.prog (.func 47) #[] #[sl, .int .i64 0, .func (.func 48) #[] #[]] σ fun v σ' => Old σ σ' ∧ ∃ s' v2, v = .tuple #[s', v2, .int .i64 (listF getF 1 b).2.2] ∧ ((listF getF 1 b).2.2 = 0 → Grown σ σ' 1 s' ((listF getF 1 b).1.map (Value.int .i64)) (listF getF 1 b).1.length ∧ (listF getF 1 b).2.1 ≤ b.length ∧ Whl σ' 1 v2 (b.drop (listF getF 1 b).2.1).length (digC (b.drop (listF getF 1 b).2.1)) ∧ ∀ q, baseOf v2 = some q → baseOf sl = some q) := by
 refine App.of_sem mixed Tryd.func47 t47 k47 r47 (Nat.le_of_ble_eq_true rfl) ?_
 rw [← ap_nil (σ := σ)]
 unfold s47
 have d0 : decide ((0 : Int) = 0) = true := rfl
 simp only [↓eD, eZ, ↓reduceIte, Nat.reduceEqDiff, Nat.reduceAdd, Nat.reduceMul, reduceCtorEq, Nat.reduceLeDiff, Int.reduceLT, Int.reduceLE, Int.reduceToNat, Int.reduceEq, Nat.reduceLT, d0, Bool.not_true, undef_eq]
 refine appK_of (wget_ints_app (hw.Old .ap) hb hl) ?_
 rintro v η ⟨oη, s', rfl, hg⟩
 generalize hX : listF getF 1 b = X at hg ⊢
 obtain ⟨x, n, e⟩ := X
 dsimp only at hg ⊢
 by_cases he : e = 0
 case neg =>
  have de : decide (e = 0) = false := decide_eq_false he
  simp only [↓eD, eZ, ↓reduceIte, Nat.reduceEqDiff, Nat.reduceAdd, Nat.reduceMul, reduceCtorEq, Nat.reduceLeDiff, Int.reduceLT, Int.reduceLE, Int.reduceToNat, Int.reduceEq, Nat.reduceLT, de, Bool.not_false, undef_eq]
  exact ⟨oη, _, _, rfl, fun h => absurd h he⟩
 subst he
 have hr := listF_read int_one hb hX
 obtain ⟨v2, hs2, hw2, hb2⟩ := whl_suf (lo := n) ((hw.Old .ap).Old oη) hr.2.2
 rw [Nat.mul_one, digC_drop] at hw2
 have hdl : (b.drop n).length = b.length - n := List.length_drop
 rw [← hdl] at hw2
 simp only [↓eD, eZ, ↓reduceIte, Nat.reduceEqDiff, Nat.reduceAdd, Nat.reduceMul, reduceCtorEq, Nat.reduceLeDiff, Int.reduceLT, Int.reduceLE, Int.reduceToNat, Int.reduceEq, Nat.reduceLT, d0, hs2, Bool.not_true, undef_eq]
 exact ⟨oη, _, _, rfl, fun _ => ⟨hg, hr.2.2, hw2, hb2⟩⟩
theorem nexts_app {σ : H} {sl : Value} {b : List Int} (hw : Whl σ 1 sl b.length (digC b)) (hb : Byt b) (hl : b.length < 1000000000000) :
  App Tryd.prog (.func 49) #[] #[sl, .int .i64 0, .func (.func 50) #[] #[]] σ fun v σ' => Old σ σ' ∧ ∃ s' v2, v = .tuple #[s', v2, .int .i64 (listF bytF 1 b).2.2] ∧ ((listF bytF 1 b).2.2 = 0 → Grown σ σ' 1 s' ((listF bytF 1 b).1.map Value.string) (listF bytF 1 b).1.length ∧ (listF bytF 1 b).2.1 ≤ b.length ∧ Whl σ' 1 v2 (b.drop (listF bytF 1 b).2.1).length (digC (b.drop (listF bytF 1 b).2.1)) ∧ ∀ q, baseOf v2 = some q → baseOf sl = some q) := by
 refine App.of_sem mixed Tryd.func49 t49 k49 r49 (Nat.le_of_ble_eq_true rfl) ?_
 rw [← ap_nil (σ := σ)]
 unfold s49
 have d0 : decide ((0 : Int) = 0) = true := rfl
 simp only [↓eD, eZ, ↓reduceIte, Nat.reduceEqDiff, Nat.reduceAdd, Nat.reduceMul, reduceCtorEq, Nat.reduceLeDiff, Int.reduceLT, Int.reduceLE, Int.reduceToNat, Int.reduceEq, Nat.reduceLT, d0, Bool.not_true, undef_eq]
 refine appK_of (wget_strs_app (hw.Old .ap) hb hl) ?_
 rintro v η ⟨oη, s', rfl, hg⟩
 generalize hX : listF bytF 1 b = X at hg ⊢
 obtain ⟨x, n, e⟩ := X
 dsimp only at hg ⊢
 by_cases he : e = 0
 case neg =>
  have de : decide (e = 0) = false := decide_eq_false he
  simp only [↓eD, eZ, ↓reduceIte, Nat.reduceEqDiff, Nat.reduceAdd, Nat.reduceMul, reduceCtorEq, Nat.reduceLeDiff, Int.reduceLT, Int.reduceLE, Int.reduceToNat, Int.reduceEq, Nat.reduceLT, de, Bool.not_false, undef_eq]
  exact ⟨oη, _, _, rfl, fun h => absurd h he⟩
 subst he
 have hr := listF_read str_one hb hX
 obtain ⟨v2, hs2, hw2, hb2⟩ := whl_suf (lo := n) ((hw.Old .ap).Old oη) hr.2.2
 rw [Nat.mul_one, digC_drop] at hw2
 have hdl : (b.drop n).length = b.length - n := List.length_drop
 rw [← hdl] at hw2
 simp only [↓eD, eZ, ↓reduceIte, Nat.reduceEqDiff, Nat.reduceAdd, Nat.reduceMul, reduceCtorEq, Nat.reduceLeDiff, Int.reduceLT, Int.reduceLE, Int.reduceToNat, Int.reduceEq, Nat.reduceLT, d0, hs2, Bool.not_true, undef_eq]
 exact ⟨oη, _, _, rfl, fun _ => ⟨hg, hr.2.2, hw2, hb2⟩⟩
theorem nexte_app {σ : H} {sl : Value} {e : Int} {f : Value} (he : e ≠ 0) :
  App Tryd.prog (.func 49) #[] #[sl, .int .i64 e, f] σ fun v σ' => σ' = σ ∧ v = .tuple #[.slice none 0 0, .slice none 0 0, .int .i64 e] := by
 refine App.of_sem mixed Tryd.func49 t49 k49 r49 (Nat.le_of_ble_eq_true rfl) ?_
 unfold s49
 have d0 : decide (e = 0) = false := decide_eq_false he
 simp only [↓eD, eZ, ↓reduceIte, Nat.reduceEqDiff, Nat.reduceAdd, Nat.reduceMul, reduceCtorEq, Nat.reduceLeDiff, Int.reduceLT, Int.reduceLE, Int.reduceToNat, Int.reduceEq, Nat.reduceLT, d0, Bool.not_false, undef_eq]
 first | rfl | exact ⟨rfl, rfl⟩ | skip
def zeroI : Img := ⟨0, 0, [], []⟩
def segsOf (x : List Int) (t : List ByteArray) : List Seg := List.zipWith Seg.mk x t
def formI (x : List Int) (t : List ByteArray) : Bool := decide (3 ≤ x.length ∧ 0 ≤ x.getD 2 0 ∧ x.getD 2 0 ≤ (t.length : Int) ∧ (t.length : Int) = (x.length : Int) - 3 + x.getD 2 0)
def imgOf (x : List Int) (t : List ByteArray) : Img := ⟨x.getD 0 0, x.getD 1 0, segsOf (x.drop 3) t, (t.drop (x.length - 3)).map strI⟩
def decT (x : List Int) (t : List ByteArray) : Img × Int :=
 if ((t.drop (x.length - 3)).all fun s => decide (s.size = 128)) = false then (zeroI, 11)
 else if checkI (imgOf x t) ≠ 0 then (zeroI, checkI (imgOf x t)) else (imgOf x t, 0)
def decI (b : List Int) : Img × Int :=
 if (listF getF 1 b).2.2 ≠ 0 then (zeroI, (listF getF 1 b).2.2)
 else if (listF bytF 1 (b.drop (listF getF 1 b).2.1)).2.2 ≠ 0 then (zeroI, (listF bytF 1 (b.drop (listF getF 1 b).2.1)).2.2)
 else if (listF getF 1 b).2.1 + (listF bytF 1 (b.drop (listF getF 1 b).2.1)).2.1 ≠ b.length ∨ formI (listF getF 1 b).1 (listF bytF 1 (b.drop (listF getF 1 b).2.1)).1 = false then (zeroI, 11)
 else decT (listF getF 1 b).1 (listF bytF 1 (b.drop (listF getF 1 b).2.1)).1
def z4 : List Value := [.int .i64 0, .int .i64 0, .slice none 0 0, .slice none 0 0]
theorem zeroI_R {σ : H} : ImgR σ z4 zeroI none 0 none 0 := img0_R
theorem ret4 {θ : H} {b : Nat} {e p : Int} {a1 a2 : Option Addr} {n1 n2 c1 c2 : Nat} (h : θ[b]? = some (.cells 0 z4 (0, 0))) : wrN θ ⟨b, 0, none⟩ [.int .i64 e, .int .i64 p, .slice a1 n1 c1, .slice a2 n2 c2] = some (θ.setIfInBounds b (.cells 1 [.int .i64 e, .int .i64 p, .slice a1 n1 c1, .slice a2 n2 c2] (0, 0))) := by
 rw [wrN_eq, if_neg (by simp), h, wrc_cells, if_pos ⟨by simp [z4], rfl⟩]
 rfl
theorem segsOf_get {x : List Int} {t : List ByteArray} {i : Nat} (h1 : i < x.length) (h2 : i < t.length) : (segsOf x t)[i]? = some ⟨x[i], t[i]⟩ := by
 unfold segsOf
 rw [List.getElem?_zipWith, List.getElem?_eq_getElem h1, List.getElem?_eq_getElem h2]
theorem segsOf_len {x : List Int} {t : List ByteArray} : (segsOf x t).length = min x.length t.length := by unfold segsOf; rw [List.length_zipWith]
theorem ldecI_app {σ : H} {sl : Value} {b : List Int} (hw : Whl σ 1 sl b.length (digC b)) (hb : Byt b) (hl : b.length < 1000000) :
  App Tryd.prog (.func 24) #[] #[sl] σ fun v σ' => Old σ σ' ∧ ∃ l' a1 b1 a2 b2, v = .tuple #[.agg l'.toArray, .int .i64 (decI b).2] ∧ ImgR σ' l' (decI b).1 a1 b1 a2 b2 := by
 refine App.of_sem mixed Tryd.func24 t24 k24 r24 (Nat.le_of_ble_eq_true rfl) ?_
 obtain ⟨a, c, rfl⟩ := hw.slice
 rw [← ap_nil (σ := σ)]
 unfold s24
 simp only [↓eD, eZ, ↓reduceIte, Nat.reduceEqDiff, Nat.reduceAdd, Nat.reduceMul, reduceCtorEq, Nat.reduceLeDiff, Int.reduceLT, Int.reduceLE, Int.reduceToNat, Int.reduceEq, Nat.reduceLT, undef_eq]
 obtain ⟨T1, hT1⟩ : ∃ T1, T1 = ap σ [.cells 0 [.int .i64 0, .int .i64 0, .slice none 0 0, .slice none 0 0] (0, 0)] := ⟨_, rfl⟩
 rw [← hT1]
 have oT1 : Old σ T1 := by rw [hT1]; exact .ap
 have sT1 : T1.size = σ.size + 1 := by rw [hT1]; simp [ap_size]
 have z0 : T1[σ.size]? = some (.cells 0 z4 (0, 0)) := by rw [hT1, ap_new0]; rfl
 clear hT1
 refine appK_of (nexti_app (hw.Old oT1) hb (by omega)) ?_
 rintro v θ1 ⟨ho1, xv, rv, rfl, gx⟩
 have hu : decI b = _ := rfl
 unfold decI at hu
 generalize hX : listF getF 1 b = X at gx hu ⊢
 obtain ⟨x, n, e⟩ := X
 dsimp only at gx hu ⊢
 have oθ1 : Old σ θ1 := oT1.trans ho1
 have y0 : θ1[σ.size]? = some (.cells 0 z4 (0, 0)) := (ho1.2 _ (by omega)).trans z0
 have lz : z4.length = 4 := rfl
 by_cases he : e = 0
 case neg =>
  have de : decide (e = 0) = false := decide_eq_false he
  have hf : decI b = (zeroI, e) := by unfold decI; rw [hX]; exact if_pos he
  simp only [↓eD, eZ, ↓reduceIte, Nat.reduceEqDiff, Nat.reduceAdd, Nat.reduceMul, reduceCtorEq, Nat.reduceLeDiff, Int.reduceLT, Int.reduceLE, Int.reduceToNat, Int.reduceEq, Nat.reduceLT, undef_eq]
  refine appK_at (nexte_app he) ?_
  have kb := ret4 (e := 0) (p := 0) (a1 := none) (a2 := none) (n1 := 0) (n2 := 0) (c1 := 0) (c2 := 0) y0
  have rb := rdN_all (n := 4) (get_set (k := .cells 1 [.int .i64 0, .int .i64 0, .slice none 0 0, .slice none 0 0] (0, 0)) y0) rfl
  simp only [↓eD, eZ, ↓reduceIte, Nat.reduceEqDiff, Nat.reduceAdd, Nat.reduceMul, reduceCtorEq, Nat.reduceLeDiff, Int.reduceLT, Int.reduceLE, Int.reduceToNat, Int.reduceEq, Nat.reduceLT, de, kb, rb, Bool.not_false, undef_eq]
  rw [hf]
  exact ⟨oθ1.set (Nat.le_refl _), z4, none, 0, none, 0, rfl, zeroI_R⟩
 subst he
 have de : decide ((0 : Int) = 0) = true := rfl
 obtain ⟨gX, hnb, wr, hbr⟩ := gx rfl
 obtain ⟨i1, i2, i3⟩ := listF_read int_one hb hX
 have wx := gX.whl
 obtain ⟨xa, xc, rfl⟩ := gX.slice
 have hb2 : Byt (b.drop n) := byt_drop hb
 have hbl2 : (b.drop n).length = b.length - n := List.length_drop
 simp only [↓eD, eZ, ↓reduceIte, Nat.reduceEqDiff, Nat.reduceAdd, Nat.reduceMul, reduceCtorEq, Nat.reduceLeDiff, Int.reduceLT, Int.reduceLE, Int.reduceToNat, Int.reduceEq, Nat.reduceLT, undef_eq]
 refine appK_of (nexts_app wr hb2 (by omega)) ?_
 rintro v θ2 ⟨ho2, tv, rv2, rfl, gt⟩
 generalize hY : listF bytF 1 (b.drop n) = Y at gt
 obtain ⟨D, m, f⟩ := Y
 dsimp only at gt ⊢
 have oθ2 : Old σ θ2 := oθ1.trans ho2
 have w0 : θ2[σ.size]? = some (.cells 0 z4 (0, 0)) := (ho2.2 _ (Array.getElem?_eq_some_iff.1 y0).1).trans y0
 have kb := ret4 (e := 0) (p := 0) (a1 := none) (a2 := none) (n1 := 0) (n2 := 0) (c1 := 0) (c2 := 0) w0
 have rb := rdN_all (n := 4) (get_set (k := .cells 1 [.int .i64 0, .int .i64 0, .slice none 0 0, .slice none 0 0] (0, 0)) w0) rfl
 by_cases hf0 : f = 0
 case neg =>
  have df : decide (f = 0) = false := decide_eq_false hf0
  have hf : decI b = (zeroI, f) := by unfold decI; rw [hX]; dsimp only; rw [hY]; rw [if_neg (fun h => h rfl)]; exact if_pos hf0
  simp only [↓eD, eZ, ↓reduceIte, Nat.reduceEqDiff, Nat.reduceAdd, Nat.reduceMul, reduceCtorEq, Nat.reduceLeDiff, Int.reduceLT, Int.reduceLE, Int.reduceToNat, Int.reduceEq, Nat.reduceLT, df, kb, rb, Bool.not_false, undef_eq]
  rw [hf]
  exact ⟨oθ2.set (Nat.le_refl _), z4, none, 0, none, 0, rfl, zeroI_R⟩
 subst hf0
 obtain ⟨gT, hmb, wr2, hbr2⟩ := gt rfl
 obtain ⟨s1, _, s3⟩ := listF_read str_one hb2 hY
 have hu2 : decI b = if n + m ≠ b.length ∨ formI x D = false then (zeroI, 11) else decT x D := by unfold decI; rw [hX]; dsimp only; rw [hY]; dsimp only; rw [if_neg (fun h => h rfl), if_neg (fun h => h rfl)]
 clear hu
 have wd := gT.whl
 obtain ⟨ra2, rc2, rfl⟩ := wr2.slice
 obtain ⟨da, dc, rfl⟩ := gT.slice
 have hrl : ((b.drop n).drop m).length = b.length - (n + m) := by rw [List.length_drop, List.length_drop]; omega
 by_cases h1 : n + m = b.length
 case neg =>
  have d1 : decide ((0 : Int) < (((b.drop n).drop m).length : Int)) = true := by rw [decide_eq_true]; omega
  have hf : decI b = (zeroI, 11) := by rw [hu2, if_pos (.inl h1)]
  simp only [↓eD, eZ, ↓reduceIte, Nat.reduceEqDiff, Nat.reduceAdd, Nat.reduceMul, reduceCtorEq, Nat.reduceLeDiff, Int.reduceLT, Int.reduceLE, Int.reduceToNat, Int.reduceEq, Nat.reduceLT, de, d1, kb, rb, Bool.not_false, Bool.not_true, undef_eq]
  rw [hf]
  exact ⟨oθ2.set (Nat.le_refl _), z4, none, 0, none, 0, rfl, zeroI_R⟩
 have d1 : decide ((0 : Int) < (((b.drop n).drop m).length : Int)) = false := by rw [decide_eq_false]; omega
 by_cases hx3 : 3 ≤ x.length
 case neg =>
  have d3 : decide ((x.length : Int) < 3) = true := by rw [decide_eq_true]; omega
  have hf : decI b = (zeroI, 11) := by rw [hu2, if_pos (.inr (by unfold formI; rw [decide_eq_false_iff_not]; exact fun h => hx3 h.1))]
  simp only [↓eD, eZ, ↓reduceIte, Nat.reduceEqDiff, Nat.reduceAdd, Nat.reduceMul, reduceCtorEq, Nat.reduceLeDiff, Int.reduceLT, Int.reduceLE, Int.reduceToNat, Int.reduceEq, Nat.reduceLT, de, d1, d3, kb, rb, Bool.not_false, Bool.not_true, undef_eq]
  rw [hf]
  exact ⟨oθ2.set (Nat.le_refl _), z4, none, 0, none, 0, rfl, zeroI_R⟩
 have d3 : decide ((x.length : Int) < 3) = false := by rw [decide_eq_false]; omega
 have wx2 := wx.Old ho2
 obtain ⟨xk, xo, hxa, rx0⟩ := whl_int wx2 (i := 0) (by omega)
 obtain ⟨_, _, hxa1, rx1⟩ := whl_int wx2 (i := 1) (by omega)
 obtain ⟨_, _, hxa2, rx2⟩ := whl_int wx2 (i := 2) (by omega)
 subst hxa
 injection hxa1 with hxa1
 injection hxa1 with q1 q2
 subst q1 q2
 injection hxa2 with hxa2
 injection hxa2 with q1 q2
 subst q1 q2
 have gd : ∀ j (h : j < x.length), x.getD j 0 = x[j] := fun j h => (List.getElem_eq_getD (l := x) (i := j) 0 (h := h)).symm
 obtain ⟨x0, hx0⟩ : ∃ x0, x0 = x.getD 0 0 := ⟨_, rfl⟩
 obtain ⟨x1, hx1⟩ : ∃ x1, x1 = x.getD 1 0 := ⟨_, rfl⟩
 obtain ⟨x2, hx2⟩ : ∃ x2, x2 = x.getD 2 0 := ⟨_, rfl⟩
 rw [← gd 0 (by omega), ← hx0] at rx0
 rw [← gd 1 (by omega), ← hx1] at rx1
 rw [← gd 2 (by omega), ← hx2] at rx2
 rw [Nat.add_zero] at rx0
 have bx1 : (0:Int) ≤ 1 ∧ (1:Int) < (x.length : Int) := by omega
 have bx2 : (0:Int) ≤ 2 ∧ (2:Int) < (x.length : Int) := by omega
 have bx0 : (0:Int) ≤ 0 ∧ (0:Int) < (x.length : Int) := by omega
 have tn1 : Int.toNat 1 = 1 := rfl
 have tn2 : Int.toNat 2 = 2 := rfl
 have tn0 : Int.toNat 0 = 0 := rfl
 have hxle : x.length ≤ n := by
  have h9 := congrArg List.length i1
  have h8 := flat_ge (enc := intF) (fun x => intF_one) (l := x)
  unfold encL at h9
  rw [List.length_append, List.length_take] at h9
  omega
 have hDle : D.length ≤ m := by
  have h9 := congrArg List.length s1
  have h8 := flat_ge (enc := bytesF) (fun x => bytesF_one) (l := D)
  unfold encL at h9
  rw [List.length_append, List.length_take] at h9
  omega
 by_cases h2a : 0 ≤ x2
 case neg =>
  have e1 : decide (x2 < 0) = true := by rw [decide_eq_true]; omega
  have hf : decI b = (zeroI, 11) := by rw [hu2, if_pos (.inr (by unfold formI; rw [decide_eq_false_iff_not]; exact fun h => h2a (hx2 ▸ h.2.1)))]
  simp only [↓eD, eZ, ↓reduceIte, Nat.reduceEqDiff, Nat.reduceAdd, Nat.reduceMul, reduceCtorEq, Nat.reduceLeDiff, Int.reduceLT, Int.reduceLE, Int.reduceToNat, Int.reduceEq, Nat.reduceLT, de, d1, d3, bx2, tn2, rx2, e1, kb, rb, Bool.not_false, Bool.not_true, undef_eq]
  rw [hf]
  exact ⟨oθ2.set (Nat.le_refl _), z4, none, 0, none, 0, rfl, zeroI_R⟩
 have e1 : decide (x2 < 0) = false := by rw [decide_eq_false]; omega
 by_cases h2b : x2 ≤ (D.length : Int)
 case neg =>
  have e2 : decide ((D.length : Int) < x2) = true := by rw [decide_eq_true]; omega
  have hf : decI b = (zeroI, 11) := by rw [hu2, if_pos (.inr (by unfold formI; rw [decide_eq_false_iff_not]; exact fun h => h2b (hx2 ▸ h.2.2.1)))]
  simp only [↓eD, eZ, ↓reduceIte, Nat.reduceEqDiff, Nat.reduceAdd, Nat.reduceMul, reduceCtorEq, Nat.reduceLeDiff, Int.reduceLT, Int.reduceLE, Int.reduceToNat, Int.reduceEq, Nat.reduceLT, de, d1, d3, bx2, tn2, rx2, e1, e2, kb, rb, Bool.not_false, Bool.not_true, undef_eq]
  rw [hf]
  exact ⟨oθ2.set (Nat.le_refl _), z4, none, 0, none, 0, rfl, zeroI_R⟩
 have e2 : decide ((D.length : Int) < x2) = false := by rw [decide_eq_false]; omega
 have w1 : IntKind.wrap .i64 ((x.length : Int) - 3) = (x.length : Int) - 3 := wrap64' (by omega) (by omega)
 have w2 : IntKind.wrap .i64 ((x.length : Int) - 3 + x2) = (x.length : Int) - 3 + x2 := wrap64' (by omega) (by omega)
 by_cases h2c : (D.length : Int) = (x.length : Int) - 3 + x2
 case neg =>
  have e3 : decide ((D.length : Int) = (x.length : Int) - 3 + x2) = false := decide_eq_false h2c
  have hf : decI b = (zeroI, 11) := by rw [hu2, if_pos (.inr (by unfold formI; rw [decide_eq_false_iff_not]; exact fun h => h2c (hx2 ▸ h.2.2.2)))]
  simp only [↓eD, eZ, ↓reduceIte, Nat.reduceEqDiff, Nat.reduceAdd, Nat.reduceMul, reduceCtorEq, Nat.reduceLeDiff, Int.reduceLT, Int.reduceLE, Int.reduceToNat, Int.reduceEq, Nat.reduceLT, de, d1, d3, bx2, tn2, rx2, e1, e2, w1, w2, e3, kb, rb, Bool.not_false, Bool.not_true, undef_eq]
  rw [hf]
  exact ⟨oθ2.set (Nat.le_refl _), z4, none, 0, none, 0, rfl, zeroI_R⟩
 have e3 : decide ((D.length : Int) = (x.length : Int) - 3 + x2) = true := decide_eq_true h2c
 have hu3 : decI b = decT x D := by rw [hu2, if_neg (fun h => h.elim (fun h => h h1) (fun h => by
  have : formI x D = true := by unfold formI; rw [decide_eq_true_eq, ← hx2]; omega
  rw [this] at h
  cases h))]
 obtain ⟨v3, hs3, hw3, hbase3⟩ := whl_suf (lo := 3) wx2 (by omega)
 rw [Nat.mul_one, ← List.map_drop] at hw3
 have hdl3 : (x.drop 3).length = x.length - 3 := List.length_drop
 rw [← hdl3] at hw3
 have hs3' : sliceV 1 (.slice (some ⟨xk, xo, none⟩) x.length xc) (some (.int .i64 3)) none none = some v3 := hs3
 have rx0' := fun M => rd1_old (l := M) rx0
 have rx1' := fun M => rd1_old (l := M) rx1
 obtain ⟨va3, vc3, hva3⟩ := hw3.slice
 subst hva3
 rw [← ap_nil (σ := θ2)]
 have rx2' := fun M => rd1_old (l := M) rx2
 simp only [↓eD, eZ, ↓reduceIte, Nat.reduceEqDiff, Nat.reduceAdd, Nat.reduceMul, reduceCtorEq, Nat.reduceLeDiff, Int.reduceLT, Int.reduceLE, Int.reduceToNat, Int.reduceEq, Nat.reduceLT, de, d1, d3, bx0, bx1, bx2, tn0, tn1, tn2, rx0', rx1', rx2', e1, e2, w1, w2, e3, hs3', Bool.not_false, Bool.not_true, undef_eq]
 obtain ⟨θb, hθb⟩ : ∃ θb, θb = ap θ2 [.cells 1 [.int .i64 x0, .int .i64 x1, .slice none 0 0, .slice none 0 0] (0, 0)] := ⟨_, rfl⟩
 rw [← hθb]
 have ob : Old θ2 θb := by rw [hθb]; exact .ap
 have sb : θb.size = θ2.size + 1 := by rw [hθb]; simp [ap_size]
 have b8 : θb[θ2.size]? = some (.cells 1 [.int .i64 x0, .int .i64 x1, .slice none 0 0, .slice none 0 0] (0, 0)) := by rw [hθb, ap_new0]; rfl
 clear hθb
 have oθb : Old σ θb := oθ2.trans ob
 have w0b : θb[σ.size]? = some (.cells 0 z4 (0, 0)) := (ob.2 _ (Array.getElem?_eq_some_iff.1 w0).1).trans w0
 have hσ2 : σ.size < θ2.size := (Array.getElem?_eq_some_iff.1 w0).1
 have nbx : ∀ q, baseOf (.slice va3 (x.drop 3).length vc3) = some q → q ≠ θ2.size := fun q hq => by
  have h9 := hbase3 q hq
  have h8 := (gX.base h9).2
  have h7 := ho2.1
  omega
 have nbd : ∀ q, baseOf (.slice da D.length dc) = some q → q ≠ θ2.size := fun q hq => by have h8 := (gT.base hq).2; omega
 have Wx := hw3.Old ob
 have Wd := wd.Old ob
 obtain ⟨N, hN⟩ : ∃ N, N = (x.drop 3).length := ⟨_, rfl⟩
 obtain ⟨S, hS⟩ : ∃ S, S = segsOf (x.drop 3) D := ⟨_, rfl⟩
 have hSl : S.length = N := by rw [hS, segsOf_len]; omega
 have hssb : (sized θb.size).size = θb.size := sized_size
 have hNle : N ≤ 1000000 := by omega
 rw [← hN] at hdl3
 refine loop_for (J := fun i e τ => i ≤ N ∧ ∃ (u : Value) (ver : Nat), e = [(2, .pointer (some ⟨σ.size, 0, none⟩)), (4, .slice (some ⟨xk, xo, none⟩) x.length xc), (7, .slice da D.length dc), (8, .pointer (some ⟨θ2.size, 0, none⟩)), (74, .slice va3 (x.drop 3).length vc3), (75, .int .i64 ((x.drop 3).length : Int)), (76, .int .i64 (i : Int))] ∧ OldB θ2.size θb τ ∧ τ[θ2.size]? = some (.cells ver [.int .i64 x0, .int .i64 x1, u, .slice none 0 0] (0, 0)) ∧ Grown (sized θb.size) τ 2 u ((S.take i).map segV).flatten i) N
  ⟨by omega, _, 1, rfl, ⟨Nat.le_refl _, fun _ _ _ => rfl⟩, b8, .nil⟩ ?_
 rintro i e τ hi ⟨_, u, ver, rfl, hB, hbox, hg⟩
 have hBs := hB.1
 by_cases hlt : i < N
 ·have dl : decide ((i : Int) < ((x.drop 3).length : Int)) = true := by rw [decide_eq_true]; omega
  have hbd : (0:Int) ≤ (i:Int) ∧ (i:Int) < ((x.drop 3).length : Int) := by omega
  have hbd2 : (0:Int) ≤ (i:Int) ∧ (i:Int) < (D.length : Int) := by omega
  have hw1 : IntKind.wrap .i64 ((i:Int) + 1) = ((i + 1 : Nat) : Int) := by rw [wrap64' (by omega) (by omega)]; omega
  obtain ⟨k1, o1, hk1, r1⟩ := whl_int (Whl.oldB Wx nbx hB (by omega)) (i := i) (by omega)
  obtain ⟨k2, o2, hk2, r2⟩ := whl_str (Whl.oldB Wd nbd hB (by omega)) (i := i) (by omega)
  subst hk1 hk2
  have hget := segsOf_get (x := x.drop 3) (t := D) (i := i) (by omega) (by omega)
  rw [← hS] at hget
  have htk := take_get hget
  have r1' := fun M => rd1_old (l := M) r1
  have r2' := fun M => rd1_old (l := M) r2
  have f2 : ∀ M, rd1 (ap τ M) ⟨θ2.size, 2, none⟩ = some u := fun M => rd1_of hbox .ap rfl
  obtain ⟨ua, uc, rfl⟩ := hg.slice
  generalize (x.drop 3)[i]'(by omega) = xi at r1 r1' hget htk
  generalize D[i]'(by omega) = di at r2 r2' hget htk
  rw [← ap_nil (σ := τ)]
  simp only [↓eD, eZ, ↓reduceIte, Nat.reduceEqDiff, Nat.reduceAdd, Nat.reduceMul, reduceCtorEq, Nat.reduceLeDiff, Int.reduceLT, Int.reduceLE, Int.reduceToNat, Int.reduceEq, Nat.reduceLT, dl, hbd, hbd2, Int.toNat_natCast, r1', r2', f2, undef_eq]
  have hg1 := hg.old (Old.ap (l := [.cells 0 [.int .i64 xi, .string di] (0, 0)]))
  have xcc : xcells (ap τ [.cells 0 [.int .i64 xi, .string di] (0, 0)]) 2 (.slice (some ⟨τ.size, 0, none⟩) 1 1) = some (1, [.int .i64 xi, .string di]) := by
   show (rdN (ap τ _) ⟨τ.size, 0, none⟩ (1 * 2)).map (1, ·) = _
   rw [rdN_all (n := 1 * 2) (by rw [ap_new0]; rfl) rfl]
   rfl
  obtain ⟨v6, τ2, ha, A⟩ := append_grown (bytes := 24) hg1 (by omega) (by rw [hssb, ap_size]; omega) xcc rfl rfl (by omega) (by omega)
  refine onV_of ha ?_
  have hB2 := hB.grow .ap A hg1
  have hbox2 : τ2[θ2.size]? = some (.cells ver [.int .i64 x0, .int .i64 x1, .slice ua i uc, .slice none 0 0] (0, 0)) := A.low hg1 (by rw [hssb]; omega) ((ap_old (Array.getElem?_eq_some_iff.1 hbox).1).trans hbox)
  obtain ⟨ua2, uc2, rfl⟩ := A.grown.slice
  have k17 : wrN τ2 ⟨θ2.size, 2, none⟩ [.slice ua2 (i + 1) uc2] = some (τ2.setIfInBounds θ2.size (.cells (ver + 1) [.int .i64 x0, .int .i64 x1, .slice ua2 (i + 1) uc2, .slice none 0 0] (0, 0))) := by
   rw [wrN_eq, if_neg (by simp), hbox2, wrc_cells, if_pos ⟨by simp, rfl⟩]
   rfl
  simp only [↓eD, eZ, ↓reduceIte, Nat.reduceEqDiff, Nat.reduceAdd, Nat.reduceMul, reduceCtorEq, Nat.reduceLeDiff, Int.reduceLT, Int.reduceLE, Int.reduceToNat, Int.reduceEq, Nat.reduceLT, k17, hw1, undef_eq]
  refine ⟨hlt, by omega, .slice ua2 (i + 1) uc2, ver + 1, hB2.set, get_set hbox2, ?_⟩
  have := A.grown.set (b := θ2.size) (k := .cells (ver + 1) [.int .i64 x0, .int .i64 x1, .slice ua2 (i + 1) uc2, .slice none 0 0] (0, 0)) (by rw [hssb]; omega)
  rw [htk, List.map_append, List.flatten_append]
  simpa [segV] using this
 have : i = N := by omega
 subst this
 have dl : decide ((i : Int) < ((x.drop 3).length : Int)) = false := by rw [decide_eq_false]; omega
 rw [List.take_of_length_le (by omega)] at hg
 have w1' : IntKind.wrap .i64 ((x.length : Int) - 3) = (i : Int) := by rw [w1]; omega
 have Wdτ := Whl.oldB Wd nbd hB (by omega)
 obtain ⟨vt, hst, hwt, hbt⟩ := whl_suf (lo := i) Wdτ (by omega)
 rw [Nat.mul_one, ← List.map_drop] at hwt
 obtain ⟨K, hK⟩ : ∃ K, K = D.drop i := ⟨_, rfl⟩
 have hKl : D.length - i = K.length := by rw [hK, List.length_drop]
 rw [← hK, hKl] at hwt
 obtain ⟨ka, kc, rfl⟩ := hwt.slice
 have nbk : ∀ q, baseOf (.slice ka K.length kc) = some q → q ≠ θ2.size := fun q hq => nbd q (hbt q hq)
 have hsst : (sized τ.size).size = τ.size := sized_size
 have oτ : Old σ τ := hB.old oθb (by omega)
 have w0τ : τ[σ.size]? = some (.cells 0 z4 (0, 0)) := (hB.2 _ (by omega) (by omega)).trans w0b
 simp only [↓eD, eZ, ↓reduceIte, Nat.reduceEqDiff, Nat.reduceAdd, Nat.reduceMul, reduceCtorEq, Nat.reduceLeDiff, Int.reduceLT, Int.reduceLE, Int.reduceToNat, Int.reduceEq, Nat.reduceLT, dl, w1', hst, undef_eq]
 refine loop_for (J := fun j e η => j ≤ K.length ∧ ∃ (w : Value) (ver : Nat), e = [(2, .pointer (some ⟨σ.size, 0, none⟩)), (8, .pointer (some ⟨θ2.size, 0, none⟩)), (97, .slice ka K.length kc), (98, .int .i64 (K.length : Int)), (99, .int .i64 (j : Int))] ∧ OldB θ2.size τ η ∧ η[θ2.size]? = some (.cells ver [.int .i64 x0, .int .i64 x1, u, w] (0, 0)) ∧ Grown (sized τ.size) η 128 w (((K.take j).map strI).map digC).flatten j ∧ ∀ s ∈ K.take j, s.size = 128) K.length
  ⟨by omega, _, ver, rfl, ⟨Nat.le_refl _, fun _ _ _ => rfl⟩, hbox, .nil, fun s hs => by simp at hs⟩ ?_
 rintro j e η hj ⟨_, w, ver2, rfl, hB2, hbox2, hgK, hall⟩
 have hBs2 := hB2.1
 have hbsz := (Array.getElem?_eq_some_iff.1 hbox).1
 have w0η : η[σ.size]? = some (.cells 0 z4 (0, 0)) := (hB2.2 _ (by omega) (by omega)).trans w0τ
 have oη : Old σ η := hB2.old oτ (by omega)
 have kbη := ret4 (e := 0) (p := 0) (a1 := none) (a2 := none) (n1 := 0) (n2 := 0) (c1 := 0) (c2 := 0) w0η
 have rbη := rdN_all (n := 4) (get_set (k := .cells 1 [.int .i64 0, .int .i64 0, .slice none 0 0, .slice none 0 0] (0, 0)) w0η) rfl
 have hKD : D.drop (x.length - 3) = K := by rw [hK]; congr 1; omega
 by_cases hlt : j < K.length
 ·have dl : decide ((j : Int) < (K.length : Int)) = true := by rw [decide_eq_true]; omega
  have hbd : (0:Int) ≤ (j:Int) ∧ (j:Int) < (K.length : Int) := by omega
  have hw1 : IntKind.wrap .i64 ((j:Int) + 1) = ((j + 1 : Nat) : Int) := by rw [wrap64' (by omega) (by omega)]; omega
  obtain ⟨k1, o1, hk1, r1⟩ := whl_str (Whl.oldB hwt nbk hB2 (by omega)) (i := j) (by omega)
  subst hk1
  have htk := List.take_succ_eq_append_getElem hlt
  have hmem : K[j] ∈ K := List.getElem_mem hlt
  generalize K[j] = kj at r1 htk hmem
  by_cases h128 : kj.size = 128
  case neg =>
   have e4 : decide ((kj.size : Int) = 128) = false := by rw [decide_eq_false]; omega
   have hf : decI b = (zeroI, 11) := by
    rw [hu3, decT, if_pos]
    rw [hKD]
    rw [List.all_eq_false]
    exact ⟨kj, hmem, by simpa using h128⟩
   simp only [↓eD, eZ, ↓reduceIte, Nat.reduceEqDiff, Nat.reduceAdd, Nat.reduceMul, reduceCtorEq, Nat.reduceLeDiff, Int.reduceLT, Int.reduceLE, Int.reduceToNat, Int.reduceEq, Nat.reduceLT, dl, hbd, Int.toNat_natCast, r1, e4, kbη, rbη, Bool.not_false, undef_eq]
   rw [hf]
   exact ⟨oη.set (Nat.le_refl _), z4, none, 0, none, 0, rfl, zeroI_R⟩
  have e4 : decide ((kj.size : Int) = 128) = true := by rw [decide_eq_true]; omega
  have r1' := fun M => rd1_old (l := M) r1
  have f3 : ∀ M, rd1 (ap η M) ⟨θ2.size, 3, none⟩ = some w := fun M => rd1_of hbox2 .ap rfl
  obtain ⟨ua2, uc2, rfl⟩ := hgK.slice
  have hbig : (128 < big) = True := eq_true (by decide)
  have lk : (strI kj).length = 128 := by rw [strI_len, h128]
  have ldk : (digC (strI kj)).length = 128 := by rw [digC_length, lk]
  have sz : ∀ z : List Value, z.length = 128 → sets z 0 (digC (strI kj)) = digC (strI kj) := fun z hz => by rw [sets_all (by omega), ldk]; simp [hz]
  have l128 : (List.replicate 128 (Value.int .u8 0)).length = 128 := List.length_replicate
  have h128l : (128 ≤ 128) = True := by simp
  have td : (digC (strI kj)).take 128 = digC (strI kj) := List.take_of_length_le (by omega)
  have nd : (digC (strI kj) = []) = False := eq_false fun h9 => by rw [h9] at ldk; cases ldk
  have e4' : decide (((128 : Nat) : Int) = 128) = true := rfl
  rw [← ap_nil (σ := η)]
  simp only [↓eD, eZ, ↓reduceIte, Nat.reduceEqDiff, Nat.reduceAdd, Nat.reduceMul, reduceCtorEq, Nat.reduceLeDiff, Int.reduceLT, Int.reduceLE, Int.reduceToNat, Int.reduceEq, Nat.reduceLT, dl, hbd, Int.toNat_natCast, r1', e4, e4', f3, h128, hbig, byteCells_eq, ldk, sz, l128, h128l, td, nd, digC_one, Bool.not_true, undef_eq]
  have hg1 := hgK.old (Old.ap (l := [.cells 0 (digC (strI kj)) (0, 0), .cells 0 (digC (strI kj)) (0, 0)]))
  have xcS : xcells (ap η [.cells 0 (digC (strI kj)) (0, 0), .cells 0 (digC (strI kj)) (0, 0)]) 128 (.slice (some ⟨η.size + 1, 0, none⟩) 1 1) = some (1, digC (strI kj)) := by
   show (rdN (ap η _) ⟨η.size + 1, 0, none⟩ (1 * 128)).map (1, ·) = _
   rw [rdN_all (n := 1 * 128) (by rw [ap_new]; rfl) (by rw [ldk])]
   rfl
  obtain ⟨v6, η2, ha, A⟩ := append_grown (bytes := 128) hg1 (by omega) (by rw [hsst, ap_size]; omega) xcS ldk digC_one (by omega) (by omega)
  refine onV_of ha ?_
  have hB3 := hB2.grow .ap A hg1
  have hbox3 : η2[θ2.size]? = some (.cells ver2 [.int .i64 x0, .int .i64 x1, u, .slice ua2 j uc2] (0, 0)) := A.low hg1 (by rw [hsst]; omega) ((ap_old (Array.getElem?_eq_some_iff.1 hbox2).1).trans hbox2)
  obtain ⟨ua3, uc3, rfl⟩ := A.grown.slice
  have k18 : wrN η2 ⟨θ2.size, 3, none⟩ [.slice ua3 (j + 1) uc3] = some (η2.setIfInBounds θ2.size (.cells (ver2 + 1) [.int .i64 x0, .int .i64 x1, u, .slice ua3 (j + 1) uc3] (0, 0))) := by
   rw [wrN_eq, if_neg (by simp), hbox3, wrc_cells, if_pos ⟨by simp, rfl⟩]
   rfl
  simp only [↓eD, eZ, ↓reduceIte, Nat.reduceEqDiff, Nat.reduceAdd, Nat.reduceMul, reduceCtorEq, Nat.reduceLeDiff, Int.reduceLT, Int.reduceLE, Int.reduceToNat, Int.reduceEq, Nat.reduceLT, k18, hw1, undef_eq]
  refine ⟨hlt, by omega, .slice ua3 (j + 1) uc3, ver2 + 1, hB3.set, get_set hbox3, ?_, ?_⟩
  ·have := A.grown.set (b := θ2.size) (k := .cells (ver2 + 1) [.int .i64 x0, .int .i64 x1, u, .slice ua3 (j + 1) uc3] (0, 0)) (by rw [hsst]; omega)
   rw [htk, List.map_append, List.map_append, List.flatten_append]
   simpa using this
  ·rw [htk]
   intro s hs
   rcases List.mem_append.1 hs with hs | hs
   ·exact hall s hs
   ·rw [List.mem_singleton] at hs
    rw [hs]; exact h128
 have : j = K.length := by omega
 subst this
 have dl : decide ((K.length : Int) < (K.length : Int)) = false := by rw [decide_eq_false]; omega
 rw [List.take_of_length_le (by omega)] at hgK hall
 have hgS : Grown (sized θb.size) η 2 u (S.map segV).flatten i := hg.keep fun q k h1 h2 => by
  have h3 := hg.base h1
  rw [hssb] at h3
  rw [hB2.2 q h3.2 (by omega)]
  exact h2
 obtain ⟨ua, uc, rfl⟩ := hgS.slice
 obtain ⟨wa, wc, rfl⟩ := hgK.slice
 have hI : imgOf x D = ⟨x0, x1, S, K.map strI⟩ := by unfold imgOf; rw [← hx0, ← hx1, ← hS, hKD]
 have hu4 : decI b = if checkI ⟨x0, x1, S, K.map strI⟩ ≠ 0 then (zeroI, checkI ⟨x0, x1, S, K.map strI⟩) else (⟨x0, x1, S, K.map strI⟩, 0) := by
  rw [hu3, decT, hKD, if_neg (by
   rw [Bool.not_eq_false, List.all_eq_true]
   exact fun s hs => decide_eq_true (hall s hs)), hI]
 have hxI : ∀ z ∈ x, I64 z := fun z hz => i2 z hz
 have hgetI : ∀ (k : Nat), I64 (x.getD k 0) := fun k => by
  rcases Nat.lt_or_ge k x.length with h9 | h9
  ·rw [← List.getElem_eq_getD (l := x) (i := k) 0 (h := h9)]; exact hxI _ (List.getElem_mem h9)
  ·have h8 : x.getD k 0 = 0 := by rw [List.getD_eq_getElem?_getD, List.getElem?_eq_none h9]; rfl
   rw [h8]; unfold I64; omega
 have hKlen : (K.map strI).length = K.length := List.length_map _
 have hpg : ∀ d ∈ K.map strI, d.length = 128 ∧ Byt d := fun d hd => by
  obtain ⟨s, hs, rfl⟩ := List.mem_map.1 hd
  exact ⟨by rw [strI_len]; exact hall s hs, strI_byt⟩
 have hsS : ∀ s ∈ S, I64 s.at_ ∧ s.data.size ≤ 140737488351232 := fun s hs => by
  obtain ⟨k, hk, hk2⟩ := List.mem_iff_getElem.1 hs
  have h9 := segsOf_get (x := x.drop 3) (t := D) (i := k) (by omega) (by omega)
  rw [← hS, List.getElem?_eq_getElem hk, hk2] at h9
  have h8 := Option.some.inj h9
  have hsz : (D[k]'(by omega)).size ≤ m := by
   have hle : (D[k]'(by omega)).size ≤ (bytesF (D[k]'(by omega))).length := by unfold bytesF; rw [List.length_append, strI_len]; omega
   have hle2 : (bytesF (D[k]'(by omega))).length ≤ (D.flatMap bytesF).length := by
    have hi3 : k < D.length := by omega
    have h5 : D = D.take k ++ D[k] :: D.drop (k + 1) := by rw [← List.drop_eq_getElem_cons hi3, List.take_append_drop]
    generalize D[k]'(by omega) = w at h5
    rw [h5, List.flatMap_append, List.flatMap_cons, List.length_append, List.length_append]
    omega
   have hle3 : (D.flatMap bytesF).length ≤ m := by
    have h6 := congrArg List.length s1
    unfold encL at h6
    rw [List.length_append, List.length_take] at h6
    omega
   omega
  rw [h8]
  exact ⟨hxI _ (List.mem_of_mem_drop (List.getElem_mem (l := x.drop 3) (n := k) (by omega))), by simp only; omega⟩
 have V : ∀ ζ, Grown (sized θb.size) ζ 2 (.slice ua i uc) (S.map segV).flatten i → Grown (sized τ.size) ζ 128 (.slice wa K.length wc) ((K.map strI).map digC).flatten K.length → ImgR ζ [.int .i64 x0, .int .i64 x1, .slice ua i uc, .slice wa K.length wc] ⟨x0, x1, S, K.map strI⟩ ua uc wa wc := fun ζ g1 g2 => by
  refine ⟨by simp only [hSl, hKlen]; rfl, ?_, ?_, hpg, ?_, ?_, by simp only [hx0]; exact hgetI 0, by simp only [hx1]; exact hgetI 1, hsS, by simp only [hSl]; omega, by simp only [hKlen]; omega⟩
  ·simp only [hSl]
   have h9 : Grown (sized θb.size) ζ 2 (.slice ua i uc) (S.map segV).flatten (S.map segV).length := by rw [List.length_map, hSl]; exact g1
   exact h9.Row segV_rows
  ·simp only [hKlen]
   have h9 : Grown (sized τ.size) ζ 128 (.slice wa K.length wc) ((K.map strI).map digC).flatten ((K.map strI).map digC).length := by rw [List.length_map, hKlen]; exact g2
   exact h9.Row (pages_rows hpg)
  ·simp only [hSl]; exact g1.cap
  ·simp only [hKlen]; exact g2.cap
 have r8 := rdN_all (n := 4) hbox2 rfl
 simp only [↓eD, eZ, ↓reduceIte, Nat.reduceEqDiff, Nat.reduceAdd, Nat.reduceMul, reduceCtorEq, Nat.reduceLeDiff, Int.reduceLT, Int.reduceLE, Int.reduceToNat, Int.reduceEq, Nat.reduceLT, dl, r8, undef_eq]
 refine appK_at (lcheck_app (V η hgS hgK)) ?_
 by_cases hck : checkI ⟨x0, x1, S, K.map strI⟩ = 0
 case neg =>
  have dc : decide (checkI ⟨x0, x1, S, K.map strI⟩ = 0) = false := decide_eq_false hck
  have hf : decI b = (zeroI, checkI ⟨x0, x1, S, K.map strI⟩) := by rw [hu4, if_pos hck]
  simp only [↓eD, eZ, ↓reduceIte, Nat.reduceEqDiff, Nat.reduceAdd, Nat.reduceMul, reduceCtorEq, Nat.reduceLeDiff, Int.reduceLT, Int.reduceLE, Int.reduceToNat, Int.reduceEq, Nat.reduceLT, dc, kbη, rbη, Bool.not_false, undef_eq]
  rw [hf]
  exact ⟨oη.set (Nat.le_refl _), z4, none, 0, none, 0, rfl, zeroI_R⟩
 have dc : decide (checkI ⟨x0, x1, S, K.map strI⟩ = 0) = true := decide_eq_true hck
 have hf : decI b = (⟨x0, x1, S, K.map strI⟩, 0) := by rw [hu4, if_neg (fun h => h hck)]
 have kf := ret4 (e := x0) (p := x1) (a1 := ua) (n1 := i) (c1 := uc) (a2 := wa) (n2 := K.length) (c2 := wc) w0η
 have rf := rdN_all (n := 4) (get_set (k := .cells 1 [.int .i64 x0, .int .i64 x1, .slice ua i uc, .slice wa K.length wc] (0, 0)) w0η) rfl
 simp only [↓eD, eZ, ↓reduceIte, Nat.reduceEqDiff, Nat.reduceAdd, Nat.reduceMul, reduceCtorEq, Nat.reduceLeDiff, Int.reduceLT, Int.reduceLE, Int.reduceToNat, Int.reduceEq, Nat.reduceLT, dc, r8, kf, rf, Bool.not_true, undef_eq]
 rw [hf]
 exact ⟨oη.set (Nat.le_refl _), _, ua, uc, wa, wc, rfl, V _ (hgS.set (by rw [hssb]; omega)) (hgK.set (by rw [hsst]; omega))⟩
set_option maxHeartbeats 1000000
theorem intsF_encI {l : List Int} : intsF l = encL intF l := rfl
theorem stringsF_encI {l : List ByteArray} : stringsF l = encL bytesF l := rfl
theorem maps_segsOf : ∀ {x : List Int} {t : List ByteArray}, x.length ≤ t.length → (segsOf x t).map Seg.at_ = x ∧ (segsOf x t).map Seg.data = t.take x.length
 |[], t, _ => by simp [segsOf]
 |a :: x, [], h => by simp at h
 |a :: x, s :: t, h => by
  obtain ⟨h1, h2⟩ := maps_segsOf (x := x) (t := t) (by simpa using h)
  unfold segsOf at h1 h2 ⊢
  rw [List.zipWith_cons_cons, List.map_cons, List.map_cons, h1, h2]
  exact ⟨rfl, rfl⟩
theorem enc_decI {b : List Int} {I : Img} (hb : Byt b) (h : decI b = (I, 0)) : encI I = b ∧ checkI I = 0 := by
 unfold decI at h
 split at h
 ·rename_i h9; injection h with _ h; exact absurd h h9
 rename_i hx
 split at h
 ·rename_i h9; injection h with _ h; exact absurd h h9
 rename_i hD
 split at h
 ·cases h
 rename_i hl
 generalize hX : listF getF 1 b = X at *
 obtain ⟨x, n, e⟩ := X
 dsimp only at *
 have hb2 : Byt (b.drop n) := byt_drop hb
 generalize hY : listF bytF 1 (b.drop n) = Y at *
 obtain ⟨t, m, f⟩ := Y
 dsimp only at *
 have he : e = 0 := Decidable.byContradiction hx
 have hf : f = 0 := Decidable.byContradiction hD
 subst he hf
 have hlen : n + m = b.length := Decidable.byContradiction fun h => hl (.inl h)
 have hfx : formI x t = true := by
  cases hq : formI x t
  ·exact absurd (.inr hq) hl
  ·rfl
 obtain ⟨f1, f2, f3, f4⟩ := of_decide_eq_true hfx
 unfold decT at h
 split at h
 ·cases h
 rename_i hal
 split at h
 ·rename_i h9; injection h with _ h; exact absurd h h9
 rename_i hc
 have hc : checkI (imgOf x t) = 0 := Decidable.byContradiction hc
 injection h with h _
 subst h
 refine ⟨?_, hc⟩
 obtain ⟨i1, _, i3⟩ := listF_read int_one hb hX
 obtain ⟨s1, _, s3⟩ := listF_read str_one hb2 hY
 have hxl : (x.drop 3).length ≤ t.length := by rw [List.length_drop]; omega
 obtain ⟨m1, m2⟩ := maps_segsOf hxl
 have hDl : ((t.drop (x.length - 3)).map strI).length = (x.getD 2 0).toNat := by rw [List.length_map, List.length_drop]; omega
 have hn : numsI (imgOf x t) = x := by
  unfold numsI imgOf
  simp only [m1, hDl, show (((x.getD 2 0).toNat : Nat) : Int) = x.getD 2 0 by omega]
  match x, f1 with
  |a :: b :: c :: r, _ => rfl
 have ht : strsI (imgOf x t) = t := by
  unfold strsI imgOf
  simp only [m2]
  rw [List.map_map]
  have : (t.drop (x.length - 3)).map (bytesS ∘ strI) = t.drop (x.length - 3) := by
   conv => rhs; rw [← List.map_id (t.drop (x.length - 3))]
   exact List.map_congr_left fun s _ => bytesS_strI
  rw [this, List.length_drop, List.take_append_drop]
 unfold encI
 rw [hn, ht, intsF_encI, stringsF_encI, ← i1, ← s1]
 rw [List.take_of_length_le (l := b.drop n) (by rw [List.length_drop]; omega), List.take_append_drop]
theorem trimL_zeros : ∀ {d : List Int}, ∃ z, d = List.replicate z 0 ++ trimL d ∧ ∀ h : 0 < (trimL d).length, (trimL d)[0] ≠ 0
 |[] => ⟨0, rfl, fun h => by simp [trimL] at h⟩
 |x :: r => by
  by_cases hx : x = 0
  ·obtain ⟨z, h1, h2⟩ := trimL_zeros (d := r)
   have e : trimL (x :: r) = trimL r := by unfold trimL; rw [List.dropWhile_cons, if_pos (by simp [hx])]
   refine ⟨z + 1, ?_, ?_⟩
   ·rw [e, List.replicate_succ, List.cons_append, ← h1, hx]
   ·simpa only [e] using h2
  ·have e : trimL (x :: r) = x :: r := by unfold trimL; rw [List.dropWhile_cons, if_neg (by simp [hx])]
   refine ⟨0, by rw [e]; rfl, ?_⟩
   simp only [e]
   exact fun _ => hx
theorem trimR_zeros {d : List Int} : ∃ z, d = trimR d ++ List.replicate z 0 ∧ ∀ h : 0 < (trimR d).length, (trimR d)[(trimR d).length - 1] ≠ 0 := by
 obtain ⟨z, h1, h2⟩ := trimL_zeros (d := d.reverse)
 refine ⟨z, ?_, fun h => ?_⟩
 ·have := congrArg List.reverse h1
  rw [List.reverse_reverse, List.reverse_append, List.reverse_replicate] at this
  exact this
 ·have e : trimR d = (trimL d.reverse).reverse := rfl
  have hl : (trimR d).length = (trimL d.reverse).length := by rw [e, List.length_reverse]
  have := h2 (by omega)
  simp only [e, List.getElem_reverse, List.length_reverse]
  have hz : (trimL d.reverse).length - 1 - ((trimL d.reverse).length - 1) = 0 := by omega
  simpa only [hz] using this
theorem segK_cases {B : List Int} {n k : Nat} (h : B.length = 128 * n) (hk : k < n) :
  (segK B k = [] ∧ pageB B k = List.replicate 128 0) ∨ ∃ z d r, segK B k = [⟨((128 * k + z : Nat) : Int), bytesS d⟩] ∧ pageB B k = List.replicate z 0 ++ d ++ List.replicate r 0 ∧ z + d.length + r = 128 ∧ ∃ h : 0 < d.length, d[0] ≠ 0 ∧ d[d.length - 1] ≠ 0 := by
 have hp := pageB_len h hk
 obtain ⟨r, h1, h2⟩ := trimR_zeros (d := pageB B k)
 obtain ⟨z, h3, h4⟩ := trimL_zeros (d := trimR (pageB B k))
 by_cases hL : trimL (trimR (pageB B k)) = []
 ·left
  refine ⟨by unfold segK; rw [if_pos hL], ?_⟩
  rw [hL, List.append_nil] at h3
  rw [h3, List.replicate_append_replicate] at h1
  have := congrArg List.length h1
  rw [hp, List.length_replicate] at this
  rw [h1, ← this]
 ·right
  have hpos : 0 < (trimL (trimR (pageB B k))).length := List.length_pos_iff.2 hL
  have e3 := congrArg List.length h3
  have e1 := congrArg List.length h1
  rw [List.length_append, List.length_replicate] at e1 e3
  refine ⟨z, trimL (trimR (pageB B k)), r, ?_, ?_, by omega, hpos, h4 hpos, ?_⟩
  ·unfold segK
   rw [if_neg hL]
   congr 2
   omega
  ·rw [← h3]; exact h1
  ·have := h2 (by omega)
   have e : (trimR (pageB B k))[(trimR (pageB B k)).length - 1]'(by omega) = (trimL (trimR (pageB B k)))[(trimL (trimR (pageB B k))).length - 1] := by
    have q : ∀ (i : Nat) (hi : i < (trimR (pageB B k)).length) (hz : z ≤ i), (trimR (pageB B k))[i] = (trimL (trimR (pageB B k)))[i - z]'(by omega) := by
     intro i hi hz
     have : (trimR (pageB B k))[i]? = (List.replicate z 0 ++ trimL (trimR (pageB B k)))[i]? := by rw [← h3]
     rw [List.getElem?_append_right (by rw [List.length_replicate]; omega), List.length_replicate, List.getElem?_eq_getElem hi, List.getElem?_eq_getElem (by omega)] at this
     exact Option.some.inj this
    rw [q _ (by omega) (by omega)]
    congr 1
    omega
   rw [← e]
   exact this
end Go.Proofs.YtajchhghjjlahaaDoor
