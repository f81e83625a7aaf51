/- Walks and plain laws. Conditions: none. -/
import Derived.Test.YtajchhghjjlahaaDoorIg
set_option linter.all false
set_option maxRecDepth 10000
set_option maxHeartbeats 8000000
namespace Go.Proofs.YtajchhghjjlahaaDoor
open Go Go.Cn Go.RowKit
attribute [local irreducible] evL sem onG onI onV
theorem Okay.fit {I : Img} (O : Okay I) : I.fit := by
 have h1 := O.n1
 have h2 := O.n2
 have h3 := O.p2
 exact ⟨by omega, by omega, fun s hs => by
  obtain ⟨q1, q2, q3⟩ := segs_ok O.s (Int.le_refl 0) s hs
  omega⟩
theorem ofI_fit {n : Nat} {B : List Int} {e : Int} {D : List (List Int)} (h : B.length = 128 * n) (hB : Byt B) (hD : D.length ≤ 80) : (ofI n B e D).fit := by
 unfold ofI
 split
 ·rename_i h0
  have hn : n ≤ 64 := by
   unfold ofE at h0
   split at h0
   ·cases h0
   ·omega
  have hl := memSegs_len (B := B) (n := n)
  exact ⟨by dsimp only; omega, by dsimp only; omega, fun s hs => by have := (memSegs_ok h hn hB s hs).2; omega⟩
 ·exact ⟨by simp, by simp, fun s hs => by cases hs⟩
theorem decI_fit {b : List Int} (hb : Byt b) : (decI b).1.fit := by
 by_cases h0 : (decI b).2 = 0
 ·exact (okay_iff.1 (enc_decI hb (Prod.ext rfl h0 : decI b = ((decI b).1, 0))).2).fit
 ·have hz : (decI b).1 = zeroI := by
   unfold decI at h0 ⊢
   split
   ·rfl
   rename_i g1
   rw [if_neg g1] at h0
   split
   ·rfl
   rename_i g2
   rw [if_neg g2] at h0
   split
   ·rfl
   rename_i g3
   rw [if_neg g3] at h0
   unfold decT at h0 ⊢
   split
   ·rfl
   rename_i g4
   rw [if_neg g4] at h0
   split
   ·rfl
   rename_i g5
   rw [if_neg g5] at h0
   exact absurd rfl h0
  rw [hz]
  exact ⟨by simp [zeroI], by simp [zeroI], fun s hs => by cases hs⟩
theorem law4 {σ : H} {v u sl : Value} {n : Nat} {B b : List Int} {e : Int} {D : List (List Int)} (h : MemV σ v n B) (hnn : n < 2000000000000) (he : -9223372036854775808 ≤ e ∧ e < 9223372036854775808) (hd : PagesR σ u D) (hDD : D.length < 2000000000000) (hb : Byt b) (hw : Whl σ 1 sl b.length (digC b)) (hH : HGlob σ) :
  App Tryd.prog (.func 4) #[] #[.agg #[v], .int .i64 e, u, sl] σ fun v σ' => Old σ σ' ∧ v = .bool true := by
 refine App.of_sem mixed Tryd.func4 t4 k4 r4 (Nat.le_of_ble_eq_true rfl) ?_
 obtain ⟨a, c, rfl⟩ := h.w.slice
 obtain ⟨da, dc, rfl⟩ := hd.w.slice
 obtain ⟨ba, bc, rfl⟩ := hw.slice
 have fin : ∀ M : List Blk, Old σ (ap σ M) := fun M => .ap
 rw [← ap_nil (σ := σ)]
 unfold s4
 have san : ∀ M : List Blk, HGlob (ap σ M) := fun M => hH.Old (fin M)
 by_cases g1 : 80 < n
 ·have d1 : decide ((80 : Int) < (n : Int)) = true := by rw [decide_eq_true]; omega
  simp only [↓eD, eZ, ↓reduceIte, Nat.reduceEqDiff, Nat.reduceAdd, Nat.reduceMul, reduceCtorEq, Nat.reduceLeDiff, Int.reduceLT, Int.reduceLE, Int.reduceToNat, Int.reduceEq, Nat.reduceLT, d1, undef_eq]
  refine appK_at (sanity_app (san _)) ?_
  simp only [↓eD, eZ, ↓reduceIte, Nat.reduceEqDiff, Nat.reduceAdd, Nat.reduceMul, reduceCtorEq, Nat.reduceLeDiff, Int.reduceLT, Int.reduceLE, Int.reduceToNat, Int.reduceEq, Nat.reduceLT, undef_eq]
  first | exact ⟨fin _, rfl⟩ | exact fin _
 have d1 : decide ((80 : Int) < (n : Int)) = false := by rw [decide_eq_false]; omega
 by_cases g2 : 80 < D.length
 ·have d2 : decide ((80 : Int) < (D.length : Int)) = true := by rw [decide_eq_true]; omega
  simp only [↓eD, eZ, ↓reduceIte, Nat.reduceEqDiff, Nat.reduceAdd, Nat.reduceMul, reduceCtorEq, Nat.reduceLeDiff, Int.reduceLT, Int.reduceLE, Int.reduceToNat, Int.reduceEq, Nat.reduceLT, d1, d2, undef_eq]
  refine appK_at (sanity_app (san _)) ?_
  simp only [↓eD, eZ, ↓reduceIte, Nat.reduceEqDiff, Nat.reduceAdd, Nat.reduceMul, reduceCtorEq, Nat.reduceLeDiff, Int.reduceLT, Int.reduceLE, Int.reduceToNat, Int.reduceEq, Nat.reduceLT, undef_eq]
  first | exact ⟨fin _, rfl⟩ | exact fin _
 have d2 : decide ((80 : Int) < (D.length : Int)) = false := by rw [decide_eq_false]; omega
 by_cases g3 : 20000 < b.length
 ·have d3 : decide ((20000 : Int) < (b.length : Int)) = true := by rw [decide_eq_true]; omega
  simp only [↓eD, eZ, ↓reduceIte, Nat.reduceEqDiff, Nat.reduceAdd, Nat.reduceMul, reduceCtorEq, Nat.reduceLeDiff, Int.reduceLT, Int.reduceLE, Int.reduceToNat, Int.reduceEq, Nat.reduceLT, d1, d2, d3, undef_eq]
  refine appK_at (sanity_app (san _)) ?_
  simp only [↓eD, eZ, ↓reduceIte, Nat.reduceEqDiff, Nat.reduceAdd, Nat.reduceMul, reduceCtorEq, Nat.reduceLeDiff, Int.reduceLT, Int.reduceLE, Int.reduceToNat, Int.reduceEq, Nat.reduceLT, undef_eq]
  first | exact ⟨fin _, rfl⟩ | exact fin _
 have d3 : decide ((20000 : Int) < (b.length : Int)) = false := by rw [decide_eq_false]; omega
 simp only [↓eD, eZ, ↓reduceIte, Nat.reduceEqDiff, Nat.reduceAdd, Nat.reduceMul, reduceCtorEq, Nat.reduceLeDiff, Int.reduceLT, Int.reduceLE, Int.reduceToNat, Int.reduceEq, Nat.reduceLT, d1, d2, d3, undef_eq]
 obtain ⟨σ1, hσ1⟩ : ∃ σ1, σ1 = ap σ [.cells 0 [.slice a n c] (0, 0)] := ⟨_, rfl⟩
 rw [← hσ1]
 have o1 : Old σ σ1 := by rw [hσ1]; exact .ap
 have p1 : σ1[σ.size]? = some (.cells 0 [.slice a n c] (0, 0)) := by rw [hσ1, ap_new0]; rfl
 clear hσ1
 have x1 : ∀ τ, Old σ1 τ → rdN τ ⟨σ.size, 0, none⟩ 1 = some [.slice a n c] := fun τ ho => rdb_of p1 ho rfl
 obtain ⟨I, hI⟩ : ∃ I, I = ofI n B e D := ⟨_, rfl⟩
 have fI : I.fit := by rw [hI]; exact ofI_fit h.l h.b (by omega)
 obtain ⟨ze, hze⟩ : ∃ ze, ze = ofE n e D.length := ⟨_, rfl⟩
 refine appK_of (lof_app (h.Old o1) ⟨hd.w.Old o1, hd.d⟩ he (by omega) (by omega)) ?_
 rintro _ σ2 ⟨o2, l2, a2, b2, c2, d2', rfl, h2⟩
 rw [← hI] at h2
 rw [← hze]
 have l2e := h2.c0
 subst l2e
 rw [← ap_nil (σ := σ2)]
 simp only [↓eD, eZ, ↓reduceIte, Nat.reduceEqDiff, Nat.reduceAdd, Nat.reduceMul, reduceCtorEq, Nat.reduceLeDiff, Int.reduceLT, Int.reduceLE, Int.reduceToNat, Int.reduceEq, Nat.reduceLT, undef_eq]
 obtain ⟨σ3, hσ3⟩ : ∃ σ3, σ3 = ap σ2 [.cells 1 [.int .i64 I.e, .int .i64 I.p, .slice a2 I.S.length b2, .slice c2 I.D.length d2'] (0, 0)] := ⟨_, rfl⟩
 rw [← hσ3]
 have o3 : Old σ2 σ3 := by rw [hσ3]; exact .ap
 have x3 : ∀ τ, Old σ3 τ → rdN τ ⟨σ2.size, 0, none⟩ 4 = some [.int .i64 I.e, .int .i64 I.p, .slice a2 I.S.length b2, .slice c2 I.D.length d2'] := fun τ ho => rdb_of (θ := σ3) (by rw [hσ3, ap_new0]; rfl) ho rfl
 clear hσ3
 have o13 := o2.trans o3
 have o03 := o1.trans o13
 refine appK_of (ldecI_app (hw.Old o03) hb (by omega)) ?_
 rintro _ σ4 ⟨o4, l4, a4, b4, c4, d4, rfl, h4⟩
 obtain ⟨J, hJ⟩ : ∃ J, J = (decI b).1 := ⟨_, rfl⟩
 have fJ : J.fit := by rw [hJ]; exact decI_fit hb
 obtain ⟨zf, hzf⟩ : ∃ zf, zf = (decI b).2 := ⟨_, rfl⟩
 rw [← hJ] at h4
 rw [← hzf]
 have l4e := h4.c0
 subst l4e
 have o14 := o13.trans o4
 rw [← ap_nil (σ := σ4)]
 simp only [↓eD, eZ, ↓reduceIte, Nat.reduceEqDiff, Nat.reduceAdd, Nat.reduceMul, reduceCtorEq, Nat.reduceLeDiff, Int.reduceLT, Int.reduceLE, Int.reduceToNat, Int.reduceEq, Nat.reduceLT, x1 _ (o14.trans .ap), undef_eq]
 obtain ⟨σ5, hσ5⟩ : ∃ σ5, σ5 = ap σ4 [.cells 1 [.int .i64 J.e, .int .i64 J.p, .slice a4 J.S.length b4, .slice c4 J.D.length d4] (0, 0)] := ⟨_, rfl⟩
 rw [← hσ5]
 have o5 : Old σ4 σ5 := by rw [hσ5]; exact .ap
 have x5 : ∀ τ, Old σ5 τ → rdN τ ⟨σ4.size, 0, none⟩ 4 = some [.int .i64 J.e, .int .i64 J.p, .slice a4 J.S.length b4, .slice c4 J.D.length d4] := fun τ ho => rdb_of (θ := σ5) (by rw [hσ5, ap_new0]; rfl) ho rfl
 clear hσ5
 have o15 := o14.trans o5
 have o05 := o1.trans o15
 refine appK_of (rof_app (h.Old o05) ⟨hd.w.Old o05, hd.d⟩ he (by omega) (by omega)) ?_
 rintro _ σ6 ⟨o6, a6, b6, c6, d6, rfl, h6⟩
 rw [← hI] at h6 ⊢
 rw [← hze]
 have o16 := o15.trans o6
 have o06 := o1.trans o16
 rw [← ap_nil (σ := σ6)]
 simp only [↓eD, eZ, ↓reduceIte, Nat.reduceEqDiff, Nat.reduceAdd, Nat.reduceMul, reduceCtorEq, Nat.reduceLeDiff, Int.reduceLT, Int.reduceLE, Int.reduceToNat, Int.reduceEq, Nat.reduceLT, undef_eq]
 obtain ⟨σ7, hσ7⟩ : ∃ σ7, σ7 = ap σ6 [.cells 1 [.int .i64 I.e, .int .i64 I.p, .slice a6 I.S.length b6, .slice c6 I.D.length d6, .int .i64 ze] (0, 0)] := ⟨_, rfl⟩
 rw [← hσ7]
 have o7 : Old σ6 σ7 := by rw [hσ7]; exact .ap
 have p7 : σ7[σ6.size]? = some (.cells 1 [.int .i64 I.e, .int .i64 I.p, .slice a6 I.S.length b6, .slice c6 I.D.length d6, .int .i64 ze] (0, 0)) := by rw [hσ7, ap_new0]; rfl
 clear hσ7
 have o07 := o06.trans o7
 refine appK_of (rdecI_app (hw.Old o07) hb (by omega)) ?_
 rintro _ σ8 ⟨o8, a8, b8, c8, d8, rfl, h8⟩
 rw [← hJ] at h8 ⊢
 rw [← hzf]
 have o08 := o07.trans o8
 rw [← ap_nil (σ := σ8)]
 simp only [↓eD, eZ, ↓reduceIte, Nat.reduceEqDiff, Nat.reduceAdd, Nat.reduceMul, reduceCtorEq, Nat.reduceLeDiff, Int.reduceLT, Int.reduceLE, Int.reduceToNat, Int.reduceEq, Nat.reduceLT, undef_eq]
 obtain ⟨σ9, hσ9⟩ : ∃ σ9, σ9 = ap σ8 [.cells 1 [.int .i64 J.e, .int .i64 J.p, .slice a8 J.S.length b8, .slice c8 J.D.length d8, .int .i64 zf] (0, 0)] := ⟨_, rfl⟩
 rw [← hσ9]
 have o9 : Old σ8 σ9 := by rw [hσ9]; exact .ap
 have p9 : σ9[σ8.size]? = some (.cells 1 [.int .i64 J.e, .int .i64 J.p, .slice a8 J.S.length b8, .slice c8 J.D.length d8, .int .i64 zf] (0, 0)) := by rw [hσ9, ap_new0]; rfl
 clear hσ9
 have o09 := o08.trans o9
 refine appK_at (sanity_app (hH.Old o09)) ?_
 have o79 : Old σ7 σ9 := o8.trans o9
 have x74 : rd1 σ9 ⟨σ6.size, 4, none⟩ = some (.int .i64 ze) := rd1_of p7 o79 rfl
 have x70 : rdN σ9 ⟨σ6.size, 0, none⟩ 4 = some [.int .i64 I.e, .int .i64 I.p, .slice a6 I.S.length b6, .slice c6 I.D.length d6] := rdp_of (cs := [.int .i64 I.e, .int .i64 I.p, .slice a6 I.S.length b6, .slice c6 I.D.length d6]) (ds := [.int .i64 ze]) p7 o79 rfl (by omega)
 have x94 : rd1 σ9 ⟨σ8.size, 4, none⟩ = some (.int .i64 zf) := rd1_of p9 Old.refl rfl
 have x90 : rdN σ9 ⟨σ8.size, 0, none⟩ 4 = some [.int .i64 J.e, .int .i64 J.p, .slice a8 J.S.length b8, .slice c8 J.D.length d8] := rdp_of (cs := [.int .i64 J.e, .int .i64 J.p, .slice a8 J.S.length b8, .slice c8 J.D.length d8]) (ds := [.int .i64 zf]) p9 Old.refl rfl (by omega)
 have o59 : Old σ5 σ9 := (o6.trans o7).trans o79
 have x39 := x3 σ9 ((o4.trans o5).trans o59)
 have x59 := x5 σ9 o59
 have dze : decide (ze = ze) = true := decide_eq_true rfl
 have dzf : decide (zf = zf) = true := decide_eq_true rfl
 simp only [↓eD, eZ, ↓reduceIte, Nat.reduceEqDiff, Nat.reduceAdd, Nat.reduceMul, reduceCtorEq, Nat.reduceLeDiff, Int.reduceLT, Int.reduceLE, Int.reduceToNat, Int.reduceEq, Nat.reduceLT, x74, x70, x39, dze, undef_eq]
 refine appK_at (rsame_app (h2.Old (o3.trans ((o4.trans o5).trans o59))) fI (h6.Old (o7.trans o79)) fI) ?_
 have dI : decide (bytesS (encI I) = bytesS (encI I)) = true := decide_eq_true rfl
 rw [dI]
 simp only [↓eD, eZ, ↓reduceIte, Nat.reduceEqDiff, Nat.reduceAdd, Nat.reduceMul, reduceCtorEq, Nat.reduceLeDiff, Int.reduceLT, Int.reduceLE, Int.reduceToNat, Int.reduceEq, Nat.reduceLT, x94, x90, x59, dzf, undef_eq]
 refine appK_at (rsame_app (h4.Old (o5.trans o59)) fJ (h8.Old o9) fJ) ?_
 have dJ : decide (bytesS (encI J) = bytesS (encI J)) = true := decide_eq_true rfl
 rw [dJ]
 simp only [↓eD, eZ, ↓reduceIte, Nat.reduceEqDiff, Nat.reduceAdd, Nat.reduceMul, reduceCtorEq, Nat.reduceLeDiff, Int.reduceLT, Int.reduceLE, Int.reduceToNat, Int.reduceEq, Nat.reduceLT, undef_eq]
 first | exact ⟨o09, rfl⟩ | exact o09
end Go.Proofs.YtajchhghjjlahaaDoor
