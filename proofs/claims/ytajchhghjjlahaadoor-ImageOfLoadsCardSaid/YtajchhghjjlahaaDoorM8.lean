/- Walks and plain laws. Conditions: none. -/
import Derived.Test.YtajchhghjjlahaaDoorBodiesL8
set_option linter.all false
set_option maxRecDepth 10000
set_option maxHeartbeats 8000000
namespace Go.Proofs.YtajchhghjjlahaaDoor
open Go Go.Cn Go.RowKit
attribute [local irreducible] evL sem onG onI onV
theorem aggEq_byt : ∀ {a : List Int} {n : Nat}, a.length = n → aggEq (List.replicate n (.int .u8)) (digC a) (digC a) = some true
 |[], n, h1 => by subst h1; rfl
 |x :: a, n, h1 => by
  obtain ⟨n, rfl⟩ : ∃ m, n = m + 1 := ⟨a.length, by simpa using h1.symm⟩
  have ih := aggEq_byt (a := a) (n := n) (by simpa using h1)
  show aggEq (.int .u8 :: List.replicate n (.int .u8)) (.int .u8 x :: digC a) (.int .u8 x :: digC a) = _
  simp only [aggEq, Leaf.fits, leafEq, decide_true, and_self, ↓reduceIte, ih]
  simp
theorem ldiff_app {σ : H} {v w : Value} {n : Nat} {B : List Int} (h : MemV σ v n B) (h' : MemV σ w n B) (hn : n ≤ 1000000) :
  App Tryd.prog (.func 29) #[] #[.agg #[v], .agg #[w]] σ fun x σ' => σ' = σ ∧ x = .slice none 0 0 := by
 refine App.forget (App.of_sem mixed Tryd.func29 t29 k29 r29 (Nat.le_of_ble_eq_true rfl) ?_)
 obtain ⟨a, c, rfl⟩ := h.w.slice
 obtain ⟨a', c', rfl⟩ := h'.w.slice
 rw [← ap_nil (σ := σ)]
 unfold s29
 simp only [↓eD, eZ, ↓reduceIte, Nat.reduceEqDiff, Nat.reduceAdd, Nat.reduceMul, reduceCtorEq, Nat.reduceLeDiff, Int.reduceLT, Int.reduceLE, Int.reduceToNat, Int.reduceEq, Nat.reduceLT, ite_self, undef_eq]
 have fin : ∀ M : List Blk, Old σ (ap σ M) := fun M => .ap
 obtain ⟨T, hT⟩ : ∃ T, T = ap σ [.cells 0 [.slice a n c] (0, 0), .cells 0 [.slice a' n c'] (0, 0)] := ⟨_, rfl⟩
 rw [← hT]
 have oT : Old σ T := by rw [hT]; exact .ap
 have u0 : ∀ M, rd1 (ap T M) ⟨σ.size, 0, none⟩ = some (.slice a n c) := fun M => rd1_of (θ := T) (by rw [hT, ap_new0]; rfl) .ap rfl
 have u1 : ∀ M, rd1 (ap T M) ⟨σ.size + 1, 0, none⟩ = some (.slice a' n c') := fun M => rd1_of (θ := T) (by rw [hT, ap_new]; rfl) .ap rfl
 clear hT
 refine loop_for (J := fun i e τ => i ≤ n ∧ e = [(2, .pointer (some ⟨σ.size, 0, none⟩)), (3, .pointer (some ⟨σ.size + 1, 0, none⟩)), (5, .slice none 0 0), (13, .int .i64 (n : Int)), (14, .int .i64 (i : Int))] ∧ τ = T) n ⟨by omega, rfl, rfl⟩ ?_
 rintro i e τ hi ⟨_, rfl, rfl⟩
 rw [← ap_nil (σ := τ)]
 by_cases hlt : i < n
 ·have dl : decide ((i : Int) < (n : Int)) = true := by rw [decide_eq_true]; omega
  have dg : decide ((n : Int) ≤ (i : Int)) = false := by rw [decide_eq_false]; omega
  have hbd : (0:Int) ≤ (i:Int) ∧ (i:Int) < (n : Int) := by omega
  have hw1 : IntKind.wrap .i64 ((i:Int) + 1) = ((i + 1 : Nat) : Int) := by rw [wrap64' (by omega) (by omega)]; omega
  obtain ⟨k1, f1, rfl, _⟩ := h.w.at (by omega)
  obtain ⟨k2, f2, rfl, _⟩ := h'.w.at (by omega)
  have x1 : ∀ M, rdN (ap τ M) ⟨k1, f1 + i * 128, none⟩ 128 = some (digC (pageB B i)) := fun M => rdN_Old (oT.trans .ap) (h.page hlt)
  have x2 : ∀ M, rdN (ap τ M) ⟨k2, f2 + i * 128, none⟩ 128 = some (digC (pageB B i)) := fun M => rdN_Old (oT.trans .ap) (h'.page hlt)
  have ae := aggEq_byt (pageB_len h.l hlt)
  simp only [↓eD, eZ, ↓reduceIte, Nat.reduceEqDiff, Nat.reduceAdd, Nat.reduceMul, reduceCtorEq, Nat.reduceLeDiff, Int.reduceLT, Int.reduceLE, Int.reduceToNat, Int.reduceEq, Nat.reduceLT, ite_self, u0, u1, dl, dg, hbd, Int.toNat_natCast, x1, x2, ae, hw1, undef_eq]
  exact ⟨hlt, by omega⟩
 have : i = n := by omega
 subst this
 have dl : decide ((i : Int) < (i : Int)) = false := by rw [decide_eq_false]; omega
 simp only [↓eD, eZ, ↓reduceIte, Nat.reduceEqDiff, Nat.reduceAdd, Nat.reduceMul, reduceCtorEq, Nat.reduceLeDiff, Int.reduceLT, Int.reduceLE, Int.reduceToNat, Int.reduceEq, Nat.reduceLT, ite_self, u0, u1, dl, undef_eq]
 first | exact ⟨oT.trans .ap, rfl⟩ | exact oT.trans .ap | skip
theorem Okay.fit {I : Img} (O : Okay I) : I.fit := by
 have h1 := O.n1
 have h2 := O.n2
 have h3 := O.p2
 exact ⟨by omega, by omega, fun s hs => by
  obtain ⟨q1, q2, q3⟩ := segs_ok O.s (Int.le_refl 0) s hs
  omega⟩
def reI (I : Img) : Img := ⟨I.e, I.p, memSegs (loadB I) I.p.toNat, I.D⟩
theorem re_of {I : Img} (O : Okay I) : ofE I.p.toNat I.e I.D.length = 0 ∧ ofI I.p.toNat (loadB I) I.e I.D = reI I := by
 have h1 := O.p1
 have h2 := O.p2
 have hp : ((I.p.toNat : Nat) : Int) = I.p := by omega
 have e0 : ofE I.p.toNat I.e I.D.length = 0 := by
  unfold ofE
  rw [if_neg (by omega), hp, O.ent, if_neg (by simp), if_neg (by have := O.n2; omega)]
 refine ⟨e0, ?_⟩
 unfold ofI
 rw [if_pos e0, hp]
 rfl
theorem loadB_len {I : Img} (O : Okay I) {σ : H} {v : Value} (h : MemV σ v (loadN I) (loadB I)) : (loadB I).length = 128 * I.p.toNat := by
 have := h.l
 have hn : loadN I = I.p.toNat := if_pos (okay_iff.2 O)
 rwa [hn] at this
theorem re_okay {I : Img} (O : Okay I) (hB : (loadB I).length = 128 * I.p.toNat) (hb : Byt (loadB I)) : Okay (reI I) ∧ loadN (reI I) = I.p.toNat ∧ loadB (reI I) = loadB I := by
 have h1 := O.p1
 have h2 := O.p2
 have hp : ((I.p.toNat : Nat) : Int) = I.p := by omega
 have hk : Okay (reI I) := by
  refine ⟨h1, h2, O.ent, ?_, O.n2, ?_⟩
  ·have := memSegs_len (B := loadB I) (n := I.p.toNat)
   show (memSegs (loadB I) I.p.toNat).length ≤ 64
   omega
  ·have := memSegs_right hB
   rw [hp] at this
   exact this
 have hc := okay_iff.2 hk
 refine ⟨hk, if_pos hc, ?_⟩
 have : loadB (reI I) = (memSegs (loadB I) I.p.toNat).foldl (stepB I.p.toNat) (List.replicate (128 * I.p.toNat) 0) := if_pos hc
 rw [this, load_all hB hb]
theorem ImgR.pages {σ : H} {l : List Value} {I : Img} {a1 a2 : Option Addr} {b1 b2 : Nat} (h : ImgR σ l I a1 b1 a2 b2) : PagesR σ (.slice a2 I.D.length b2) I.D :=
 ⟨rows_whl h.D (by simp) (pages_rows h.d) (by omega) h.c2, h.d⟩
theorem wrapN {a : Nat} (h : a < 1000000) : IntKind.wrap .i64 (a : Int) = (a : Int) := wrap64' (by omega) (by omega)
theorem tdivN {a k : Nat} (h : 128 * k ≤ a) (h' : a < 128 * k + 128) : (a : Int).tdiv 128 = (k : Int) := by
 rw [Int.tdiv_eq_ediv_of_nonneg (Int.natCast_nonneg _)]; omega
theorem ms_facts {B : List Int} {n i : Nat} (h : B.length = 128 * n) (hB : Byt B) (hn : n ≤ 64) (hi : i < (memSegs B n).length) :
  ∃ (k at_ : Nat) (s : ByteArray) (c0 c1 : Int), (memSegs B n)[i] = ⟨(at_ : Int), s⟩ ∧ 0 < s.size ∧ s.size ≤ 128 ∧ (s[0]?).map (fun b => Value.int .u8 (b.toNat : Int)) = some (.int .u8 c0) ∧ c0 ≠ 0 ∧ (s[s.size - 1]?).map (fun b => Value.int .u8 (b.toNat : Int)) = some (.int .u8 c1) ∧ c1 ≠ 0 ∧
   at_ < 10000 ∧ (at_ : Int).tdiv 128 = (k : Int) ∧ ((at_ + s.size - 1 : Nat) : Int).tdiv 128 = (k : Int) ∧ (0 < i → ∃ k' at' : Nat, ((memSegs B n)[i - 1]'(by omega)).at_ = (at' : Int) ∧ (at' : Int).tdiv 128 = (k' : Int) ∧ k' < k) := by
 obtain ⟨k, z, d, hk, hs, hzd, hdm, hd0, hd1, hd2⟩ := memSegs_mem h (List.getElem_mem hi)
 have hdB : Byt d := fun x hx => hB x (hdm x hx)
 have sz : (bytesS d).size = d.length := bytesS_size'
 have st0 := str_at (s := bytesS d) (i := 0) (by omega)
 have stl := str_at (s := bytesS d) (i := (bytesS d).size - 1) (by omega)
 rw [strI_bytesS hdB] at st0 stl
 rw [← List.getElem_eq_getD (l := d) (i := 0) 0 (h := hd0)] at st0
 rw [← List.getElem_eq_getD (l := d) (i := (bytesS d).size - 1) 0 (h := by omega)] at stl
 have hd2' : d[(bytesS d).size - 1]'(by omega) ≠ 0 := by simpa only [sz] using hd2
 have t1 : ((128 * k + z : Nat) : Int).tdiv 128 = (k : Int) := tdivN (by omega) (by omega)
 refine ⟨k, 128 * k + z, bytesS d, _, _, hs, by omega, by omega, st0, hd1, stl, hd2', by omega, t1, tdivN (by omega) (by omega), fun h0 => ?_⟩
 obtain ⟨k', z', d', hk', hs', hzd', -, hd0', -⟩ := memSegs_mem h (s := (memSegs B n)[i - 1]'(by omega)) (List.getElem_mem _)
 have hlt' := (List.pairwise_iff_getElem.1 (memSegs_pw h (Nat.le_refl _)).2 (i - 1) i (by omega) hi (by omega)).2
 have t1' : ((128 * k' + z' : Nat) : Int).tdiv 128 = (k' : Int) := tdivN (by omega) (by omega)
 rw [hs, hs'] at hlt'
 refine ⟨k', 128 * k' + z', by rw [hs'], t1', ?_⟩
 have e8 : (((128 * k' + z' : Nat) : Int)) / 128 = (k' : Int) := by rw [← Int.tdiv_eq_ediv_of_nonneg (Int.natCast_nonneg _)]; exact t1'
 have e7 : (((128 * k + z : Nat) : Int)) / 128 = (k : Int) := by rw [← Int.tdiv_eq_ediv_of_nonneg (Int.natCast_nonneg _)]; exact t1
 rw [e8, e7] at hlt'
 omega
theorem law8 {σ : H} {l : List Value} {I : Img} {a1 a2 : Option Addr} {b1 b2 : Nat} (h : ImgR σ l I a1 b1 a2 b2) (hH : HGlob σ) :
  App Tryd.prog (.func 8) #[] #[.agg l.toArray] σ fun v σ' => Old σ σ' ∧ v = .bool true := by
 refine App.of_sem mixed Tryd.func8 t8 k8 r8 (Nat.le_of_ble_eq_true rfl) ?_
 have hl := h.c0
 subst hl
 have fin : ∀ M : List Blk, Old σ (ap σ M) := fun M => .ap
 rw [← ap_nil (σ := σ)]
 unfold s8
 simp only [↓eD, eZ, ↓reduceIte, Nat.reduceEqDiff, Nat.reduceAdd, Nat.reduceMul, reduceCtorEq, Nat.reduceLeDiff, Int.reduceLT, Int.reduceLE, Int.reduceToNat, Int.reduceEq, Nat.reduceLT, undef_eq]
 refine appK_at (few_app (h.Old (fin _))) ?_
 cases hf : fewI I with
 |false =>
  simp only [↓eD, eZ, ↓reduceIte, Nat.reduceEqDiff, Nat.reduceAdd, Nat.reduceMul, reduceCtorEq, Nat.reduceLeDiff, Int.reduceLT, Int.reduceLE, Int.reduceToNat, Int.reduceEq, Nat.reduceLT, Bool.not_false, undef_eq]
  refine appK_at (sanity_app (hH.Old (fin _))) ?_
  simp only [↓eD, eZ, ↓reduceIte, Nat.reduceEqDiff, Nat.reduceAdd, Nat.reduceMul, reduceCtorEq, Nat.reduceLeDiff, Int.reduceLT, Int.reduceLE, Int.reduceToNat, Int.reduceEq, Nat.reduceLT, undef_eq]
  first | exact ⟨fin _, rfl⟩ | exact fin _
 |true =>
 simp only [↓eD, eZ, ↓reduceIte, Nat.reduceEqDiff, Nat.reduceAdd, Nat.reduceMul, reduceCtorEq, Nat.reduceLeDiff, Int.reduceLT, Int.reduceLE, Int.reduceToNat, Int.reduceEq, Nat.reduceLT, Bool.not_true, undef_eq]
 refine appK_at (rcheck_app (h.Old (fin _))) ?_
 by_cases hc : checkI I = 0
 case neg =>
  have d1 : decide (checkI I = 0) = false := decide_eq_false hc
  simp only [↓eD, eZ, ↓reduceIte, Nat.reduceEqDiff, Nat.reduceAdd, Nat.reduceMul, reduceCtorEq, Nat.reduceLeDiff, Int.reduceLT, Int.reduceLE, Int.reduceToNat, Int.reduceEq, Nat.reduceLT, d1, Bool.not_false, undef_eq]
  refine appK_at (sanity_app (hH.Old (fin _))) ?_
  simp only [↓eD, eZ, ↓reduceIte, Nat.reduceEqDiff, Nat.reduceAdd, Nat.reduceMul, reduceCtorEq, Nat.reduceLeDiff, Int.reduceLT, Int.reduceLE, Int.reduceToNat, Int.reduceEq, Nat.reduceLT, undef_eq]
  first | exact ⟨fin _, rfl⟩ | exact fin _
 have O := okay_iff.1 hc
 have q1 := O.p1
 have q2 := O.p2
 have n2 := O.n2
 have d1 : decide (checkI I = 0) = true := decide_eq_true hc
 have d00 : decide ((0 : Int) = 0) = true := rfl
 obtain ⟨σ1, hσ1⟩ : ∃ σ1, σ1 = ap σ [.cells 0 [.int .i64 I.e, .int .i64 I.p, .slice a1 I.S.length b1, .slice a2 I.D.length b2] (0, 0)] := ⟨_, rfl⟩
 simp only [↓eD, eZ, ↓reduceIte, Nat.reduceEqDiff, Nat.reduceAdd, Nat.reduceMul, reduceCtorEq, Nat.reduceLeDiff, Int.reduceLT, Int.reduceLE, Int.reduceToNat, Int.reduceEq, Nat.reduceLT, d1, Bool.not_true, undef_eq]
 rw [← hσ1]
 have o1 : Old σ σ1 := by rw [hσ1]; exact .ap
 have p1 : σ1[σ.size]? = some (.cells 0 [.int .i64 I.e, .int .i64 I.p, .slice a1 I.S.length b1, .slice a2 I.D.length b2] (0, 0)) := by rw [hσ1, ap_new0]; rfl
 clear hσ1
 have g0 : ∀ τ, Old σ1 τ → rd1 τ ⟨σ.size, 0, none⟩ = some (.int .i64 I.e) := fun τ ho => rd1_of p1 ho rfl
 have g1 : ∀ τ, Old σ1 τ → rd1 τ ⟨σ.size, 1, none⟩ = some (.int .i64 I.p) := fun τ ho => rd1_of p1 ho rfl
 have g3 : ∀ τ, Old σ1 τ → rd1 τ ⟨σ.size, 3, none⟩ = some (.slice a2 I.D.length b2) := fun τ ho => rd1_of p1 ho rfl
 refine appK_of (lload_app (h.Old o1)) ?_
 rintro _ σ2 ⟨o2, m, rfl, hM, hone⟩
 rw [hc]
 have hBl := loadB_len O hM
 have nL : loadN I = I.p.toNat := if_pos hc
 rw [nL] at hM
 obtain ⟨ma, mc, rfl⟩ := hM.w.slice
 obtain ⟨OX, nX, bX⟩ := re_okay O hBl hM.b
 obtain ⟨eX, iX⟩ := re_of O
 rw [← ap_nil (σ := σ2)]
 simp only [↓eD, eZ, ↓reduceIte, Nat.reduceEqDiff, Nat.reduceAdd, Nat.reduceMul, reduceCtorEq, Nat.reduceLeDiff, Int.reduceLT, Int.reduceLE, Int.reduceToNat, Int.reduceEq, Nat.reduceLT, g0 _ (o2.trans .ap), g3 _ (o2.trans .ap), undef_eq]
 obtain ⟨σ3, hσ3⟩ : ∃ σ3, σ3 = ap σ2 [.cells 1 [.slice ma I.p.toNat mc] (0, 0)] := ⟨_, rfl⟩
 rw [← hσ3]
 have o3 : Old σ2 σ3 := by rw [hσ3]; exact .ap
 have x3 : ∀ τ, Old σ3 τ → rdN τ ⟨σ2.size, 0, none⟩ 1 = some [.slice ma I.p.toNat mc] := fun τ ho => rdb_of (θ := σ3) (by rw [hσ3, ap_new0]; rfl) ho rfl
 clear hσ3
 have o13 := o2.trans o3
 have hP := h.pages
 refine appK_of (lof_app (D := I.D) (e := I.e) (hM.Old o3) ⟨hP.w.Old (o1.trans o13), hP.d⟩ h.e (by omega) (by omega)) ?_
 rintro _ σ4 ⟨o4, lx, x1, y1, x2, y2, rfl, hX⟩
 rw [iX] at hX
 rw [eX]
 obtain ⟨MS, hMS⟩ : ∃ MS, MS = memSegs (loadB I) I.p.toNat := ⟨_, rfl⟩
 have hXS : (reI I).S = MS := hMS.symm
 have lxe : lx = [.int .i64 I.e, .int .i64 I.p, .slice x1 MS.length y1, .slice x2 I.D.length y2] := by rw [hMS]; exact hX.c0
 subst lxe
 have o14 := o13.trans o4
 rw [← ap_nil (σ := σ4)]
 simp only [↓eD, eZ, ↓reduceIte, Nat.reduceEqDiff, Nat.reduceAdd, Nat.reduceMul, reduceCtorEq, Nat.reduceLeDiff, Int.reduceLT, Int.reduceLE, Int.reduceToNat, Int.reduceEq, Nat.reduceLT, undef_eq]
 obtain ⟨σ5, hσ5⟩ : ∃ σ5, σ5 = ap σ4 [.cells 1 [.int .i64 I.e, .int .i64 I.p, .slice x1 MS.length y1, .slice x2 I.D.length y2] (0, 0)] := ⟨_, rfl⟩
 rw [← hσ5]
 have o5 : Old σ4 σ5 := by rw [hσ5]; exact .ap
 have p5 : σ5[σ4.size]? = some (.cells 1 [.int .i64 I.e, .int .i64 I.p, .slice x1 MS.length y1, .slice x2 I.D.length y2] (0, 0)) := by rw [hσ5, ap_new0]; rfl
 clear hσ5
 have x5 : ∀ τ, Old σ5 τ → rdN τ ⟨σ4.size, 0, none⟩ 4 = some [.int .i64 I.e, .int .i64 I.p, .slice x1 MS.length y1, .slice x2 I.D.length y2] := fun τ ho => rdb_of p5 ho rfl
 have x50 : ∀ τ, Old σ5 τ → rd1 τ ⟨σ4.size, 0, none⟩ = some (.int .i64 I.e) := fun τ ho => rd1_of p5 ho rfl
 have x51 : ∀ τ, Old σ5 τ → rd1 τ ⟨σ4.size, 1, none⟩ = some (.int .i64 I.p) := fun τ ho => rd1_of p5 ho rfl
 have x52 : ∀ τ, Old σ5 τ → rd1 τ ⟨σ4.size, 2, none⟩ = some (.slice x1 MS.length y1) := fun τ ho => rd1_of p5 ho rfl
 have x53 : ∀ τ, Old σ5 τ → rd1 τ ⟨σ4.size, 3, none⟩ = some (.slice x2 I.D.length y2) := fun τ ho => rd1_of p5 ho rfl
 have o15 := o14.trans o5
 refine appK_of (lload_app (hX.Old o5)) ?_
 rintro _ σ6 ⟨o6, m6, rfl, hM6, hone6⟩
 rw [okay_iff.2 OX]
 rw [nX, bX] at hM6
 obtain ⟨mb, md, rfl⟩ := hM6.w.slice
 have o16 := o15.trans o6
 rw [← ap_nil (σ := σ6)]
 simp only [↓eD, eZ, ↓reduceIte, Nat.reduceEqDiff, Nat.reduceAdd, Nat.reduceMul, reduceCtorEq, Nat.reduceLeDiff, Int.reduceLT, Int.reduceLE, Int.reduceToNat, Int.reduceEq, Nat.reduceLT, g0 _ (o16.trans .ap), g3 _ (o16.trans .ap), undef_eq]
 obtain ⟨σ7, hσ7⟩ : ∃ σ7, σ7 = ap σ6 [.cells 1 [.slice mb I.p.toNat md] (0, 0)] := ⟨_, rfl⟩
 rw [← hσ7]
 have o7 : Old σ6 σ7 := by rw [hσ7]; exact .ap
 have x7 : ∀ τ, Old σ7 τ → rdN τ ⟨σ6.size, 0, none⟩ 1 = some [.slice mb I.p.toNat md] := fun τ ho => rdb_of (θ := σ7) (by rw [hσ7, ap_new0]; rfl) ho rfl
 clear hσ7
 have o17 := o16.trans o7
 refine appK_of (lof_app (D := I.D) (e := I.e) (hM6.Old o7) ⟨hP.w.Old (o1.trans o17), hP.d⟩ h.e (by omega) (by omega)) ?_
 rintro _ σ8 ⟨o8, lz, z1, v1, z2, v2, rfl, hZ⟩
 rw [iX] at hZ
 rw [eX]
 have lze : lz = [.int .i64 I.e, .int .i64 I.p, .slice z1 MS.length v1, .slice z2 I.D.length v2] := by rw [hMS]; exact hZ.c0
 subst lze
 have o18 := o17.trans o8
 have o58 := (o6.trans o7).trans o8
 have x5' : ∀ M, rdN (ap σ8 M) ⟨σ4.size, 0, none⟩ 4 = some [.int .i64 I.e, .int .i64 I.p, .slice x1 MS.length y1, .slice x2 I.D.length y2] := fun M => x5 _ (o58.trans .ap)
 rw [← ap_nil (σ := σ8)]
 simp only [↓eD, eZ, ↓reduceIte, Nat.reduceEqDiff, Nat.reduceAdd, Nat.reduceMul, reduceCtorEq, Nat.reduceLeDiff, Int.reduceLT, Int.reduceLE, Int.reduceToNat, Int.reduceEq, Nat.reduceLT, d00, x5', undef_eq]
 obtain ⟨σ9, hσ9⟩ : ∃ σ9, σ9 = ap σ8 [.cells 1 [.int .i64 I.e, .int .i64 I.p, .slice z1 MS.length v1, .slice z2 I.D.length v2] (0, 0)] := ⟨_, rfl⟩
 rw [← hσ9]
 have o9 : Old σ8 σ9 := by rw [hσ9]; exact .ap
 have x9 : rdN σ9 ⟨σ8.size, 0, none⟩ 4 = some [.int .i64 I.e, .int .i64 I.p, .slice z1 MS.length v1, .slice z2 I.D.length v2] := rdb_of (θ := σ9) (by rw [hσ9, ap_new0]; rfl) ⟨Nat.le_refl _, fun c hc => rfl⟩ rfl
 clear hσ9
 have o59 := o58.trans o9
 have o19 := o18.trans o9
 have hX9 := hX.Old (o5.trans o59)
 refine appK_at (lcheck_app hX9) ?_
 rw [okay_iff.2 OX]
 have x39 := x3 σ9 (((o4.trans o5).trans o59))
 have x79 := x7 σ9 (o8.trans o9)
 simp only [↓eD, eZ, ↓reduceIte, Nat.reduceEqDiff, Nat.reduceAdd, Nat.reduceMul, reduceCtorEq, Nat.reduceLeDiff, Int.reduceLT, Int.reduceLE, Int.reduceToNat, Int.reduceEq, Nat.reduceLT, d00, x39, x79, undef_eq]
 refine appK_at (ldiff_app (hM.Old ((o3.trans o4).trans (o5.trans o59))) (hM6.Old ((o7.trans o8).trans o9)) (by omega)) ?_
 have d0lt : decide ((0 : Int) < ((0 : Nat) : Int)) = false := rfl
 have x59 := x5 σ9 o59
 simp only [↓eD, eZ, ↓reduceIte, Nat.reduceEqDiff, Nat.reduceAdd, Nat.reduceMul, reduceCtorEq, Nat.reduceLeDiff, Int.reduceLT, Int.reduceLE, Int.reduceToNat, Int.reduceEq, Nat.reduceLT, d0lt, x59, x9, undef_eq]
 have fX : (reI I).fit := OX.fit
 refine appK_at (rsame_app hX9 fX (hZ.Old o9) fX) ?_
 have dS : decide (bytesS (encI (reI I)) = bytesS (encI (reI I))) = true := decide_eq_true rfl
 rw [dS]
 simp only [↓eD, eZ, ↓reduceIte, Nat.reduceEqDiff, Nat.reduceAdd, Nat.reduceMul, reduceCtorEq, Nat.reduceLeDiff, Int.reduceLT, Int.reduceLE, Int.reduceToNat, Int.reduceEq, Nat.reduceLT, Bool.not_true, undef_eq]
 have nMS : MS.length ≤ 64 := by have := memSegs_len (B := loadB I) (n := I.p.toNat); rw [← hMS] at this; omega
 refine loop_for (J := fun i e τ => i ≤ MS.length ∧ e = [(1, .pointer (some ⟨σ.size, 0, none⟩)), (5, .pointer (some ⟨σ4.size, 0, none⟩)), (11, .int .i64 (i : Int))] ∧ Old σ9 τ) MS.length ⟨by omega, rfl, ⟨Nat.le_refl _, fun c hc => rfl⟩⟩ ?_
 rintro i e τ hi ⟨_, rfl, oτ⟩
 have o5τ : Old σ5 τ := o59.trans oτ
 have r52 : ∀ M, rd1 (ap τ M) ⟨σ4.size, 2, none⟩ = some (.slice x1 MS.length y1) := fun M => x52 _ (o5τ.trans .ap)
 have hXS' := hX.S
 rw [hXS] at hXS'
 rw [← ap_nil (σ := τ)]
 by_cases hlt : i < MS.length
 ·have dl : decide ((i : Int) < (MS.length : Int)) = true := by rw [decide_eq_true]; omega
  have hbd : (0:Int) ≤ (i:Int) ∧ (i:Int) < (MS.length : Int) := by omega
  have hw1 : IntKind.wrap .i64 ((i:Int) + 1) = ((i + 1 : Nat) : Int) := by rw [wrap64' (by omega) (by omega)]; omega
  have hx : (MS.map segV)[i]? = some (segV MS[i]) := by simp [hlt]
  have hRτ := hXS'.Old (o5.trans o5τ)
  obtain ⟨b', off, rfl, hrow⟩ := hRτ.at hx
  have F := ms_facts (i := i) hBl hM.b (by omega) (by rw [← hMS]; exact hlt)
  simp only [← hMS] at F
  obtain ⟨k, at_, sg, c0, c1, hs, hs0, hs1, st0, hd1, stl, hd2, hat, t1, t2, prev⟩ := F
  have prev : 0 < i → ∃ t k' : Nat, rd1 τ ⟨b', off + (i - 1) * 2, none⟩ = some (.int .i64 (t : Int)) ∧ (t : Int).tdiv 128 = (k' : Int) ∧ k' < k := by
   intro h0
   obtain ⟨k', at', e1, e2, e3⟩ := prev h0
   have hx' : (MS.map segV)[i - 1]? = some (segV (MS[i - 1]'(by clear e2 t1 t2; omega))) := by rw [List.getElem?_map, List.getElem?_eq_getElem (by clear e2 t1 t2; omega)]; rfl
   obtain ⟨b9, off9, e9, hrow9⟩ := hRτ.at hx'
   injection e9 with e9
   injection e9 with e91 e92
   subst e91 e92
   refine ⟨at', k', ?_, e2, e3⟩
   rw [← e1]
   exact rd1_row (j := 0) hrow9 rfl
  clear nX nL eX hBl q1 q2 n2 bX
  rw [hs] at hrow
  have hr : ∀ M, rdN (ap τ M) ⟨b', off + i * 2, none⟩ 2 = some (segV ⟨(at_ : Int), sg⟩) := fun M => rdN_old hrow
  have e0 : decide ((sg.size : Int) = 0) = false := by rw [decide_eq_false]; omega
  have e1 : decide (c0 = 0) = false := decide_eq_false hd1
  have e2 : decide (c1 = 0) = false := decide_eq_false hd2
  have wl : IntKind.wrap .i64 ((sg.size : Int) - 1) = ((sg.size - 1 : Nat) : Int) := by rw [show (sg.size : Int) - 1 = ((sg.size - 1 : Nat) : Int) by omega]; exact wrapN (by omega)
  have b0 : (0:Int) ≤ 0 ∧ (0:Int) < (sg.size : Int) := by omega
  have bl : (0:Int) ≤ ((sg.size - 1 : Nat) : Int) ∧ ((sg.size - 1 : Nat) : Int) < (sg.size : Int) := by omega
  have w1 : IntKind.wrap .i64 ((at_ : Int) + (sg.size : Int)) = ((at_ + sg.size : Nat) : Int) := by rw [show (at_ : Int) + (sg.size : Int) = ((at_ + sg.size : Nat) : Int) by omega]; exact wrapN (by omega)
  have w2 : IntKind.wrap .i64 (((at_ + sg.size : Nat) : Int) - 1) = ((at_ + sg.size - 1 : Nat) : Int) := by rw [show ((at_ + sg.size : Nat) : Int) - 1 = ((at_ + sg.size - 1 : Nat) : Int) by omega]; exact wrapN (by omega)
  have hk : k < 1000000 := by
   rw [Int.tdiv_eq_ediv_of_nonneg (Int.natCast_nonneg _)] at t1
   omega
  have wk : IntKind.wrap .i64 (k : Int) = (k : Int) := wrapN hk
  have dkk : decide ((k : Int) = (k : Int)) = true := decide_eq_true rfl
  have z128 : ((128 : Int) = 0) = False := by simp
  have tn0 : Int.toNat 0 = 0 := rfl
  by_cases hi0 : i = 0
  ·have di : decide ((0 : Int) < (i : Int)) = false := by rw [decide_eq_false]; omega
   simp only [↓eD, eZ, ↓reduceIte, Nat.reduceEqDiff, Nat.reduceAdd, Nat.reduceMul, reduceCtorEq, Nat.reduceLeDiff, Int.reduceLT, Int.reduceLE, Int.reduceToNat, Int.reduceEq, Nat.reduceLT, r52, dl, hbd, Int.toNat_natCast, hr, segV, e0, tn0, b0, st0, e1, wl, bl, stl, e2, t1, z128, w1, w2, t2, wk, dkk, di, hw1, undef_eq]
   exact ⟨hlt, by omega, oτ.trans .ap⟩
  ·have di : decide ((0 : Int) < (i : Int)) = true := by rw [decide_eq_true]; omega
   obtain ⟨t, k', hrt, ht1, ht2⟩ := prev (by omega)
   have rt : ∀ M, rd1 (ap τ M) ⟨b', off + (i - 1) * 2, none⟩ = some (.int .i64 (t : Int)) := fun M => rd1_old hrt
   have wt : IntKind.wrap .i64 (k' : Int) = (k' : Int) := wrapN (by omega)
   have dt : decide ((k : Int) = (k' : Int)) = false := by rw [decide_eq_false]; omega
   have wi : IntKind.wrap .i64 ((i : Int) - 1) = ((i - 1 : Nat) : Int) := by rw [wrap64' (by omega) (by omega)]; omega
   have bi : (0:Int) ≤ ((i - 1 : Nat) : Int) ∧ ((i - 1 : Nat) : Int) < (MS.length : Int) := by omega
   simp only [↓eD, eZ, ↓reduceIte, Nat.reduceEqDiff, Nat.reduceAdd, Nat.reduceMul, reduceCtorEq, Nat.reduceLeDiff, Int.reduceLT, Int.reduceLE, Int.reduceToNat, Int.reduceEq, Nat.reduceLT, r52, dl, hbd, Int.toNat_natCast, hr, segV, e0, tn0, b0, st0, e1, wl, bl, stl, e2, t1, z128, w1, w2, t2, wk, dkk, di, wi, bi, rt, ht1, wt, dt, hw1, undef_eq]
   exact ⟨hlt, by omega, oτ.trans .ap⟩
 have : i = MS.length := by omega
 subst this
 have dl : decide ((MS.length : Int) < (MS.length : Int)) = false := by rw [decide_eq_false]; omega
 have o1τ : Old σ1 τ := o19.trans oτ
 have oF : Old σ τ := o1.trans o1τ
 simp only [↓eD, eZ, ↓reduceIte, Nat.reduceEqDiff, Nat.reduceAdd, Nat.reduceMul, reduceCtorEq, Nat.reduceLeDiff, Int.reduceLT, Int.reduceLE, Int.reduceToNat, Int.reduceEq, Nat.reduceLT, r52, dl, undef_eq]
 rw [ap_nil]
 refine appK_at (sanity_app (hH.Old oF)) ?_
 have dD : decide ((I.D.length : Int) = (I.D.length : Int)) = true := decide_eq_true rfl
 have dP : decide (I.p = I.p) = true := decide_eq_true rfl
 have dE : decide (I.e = I.e) = true := decide_eq_true rfl
 simp only [↓eD, eZ, ↓reduceIte, Nat.reduceEqDiff, Nat.reduceAdd, Nat.reduceMul, reduceCtorEq, Nat.reduceLeDiff, Int.reduceLT, Int.reduceLE, Int.reduceToNat, Int.reduceEq, Nat.reduceLT, g0 τ o1τ, g1 τ o1τ, g3 τ o1τ, x50 τ o5τ, x51 τ o5τ, x53 τ o5τ, dD, dP, dE, undef_eq]
 first | exact ⟨oF, rfl⟩ | exact oF
end Go.Proofs.YtajchhghjjlahaaDoor
