/- Walks and plain laws. Conditions: none. -/
import Derived.Test.YtajchhghjjlahaaDoorBodiesL5
set_option linter.all false
set_option maxRecDepth 10000
set_option maxHeartbeats 8000000
namespace Go.Proofs.YtajchhghjjlahaaDoor
open Go Go.Cn Go.RowKit
attribute [local irreducible] evL sem onG onI onV
theorem law5 {σ : H} {l : List Value} {I : Img} {a1 a2 : Option Addr} {b1 b2 : Nat} {n : Int} (h : ImgR σ l I a1 b1 a2 b2) (hn0 : 0 ≤ n) (hn1 : n ≤ 65535) (hH : HGlob σ) :
  App Tryd.prog (.func 5) #[] #[.agg l.toArray, .int .u16 n] σ fun v σ' => Old σ σ' ∧ v = .bool true := by
 refine App.of_sem mixed Tryd.func5 t5 k5 r5 (Nat.le_of_ble_eq_true rfl) ?_
 have hl := h.c0
 subst hl
 have fin : ∀ M : List Blk, Old σ (ap σ M) := fun M => .ap
 rw [← ap_nil (σ := σ)]
 unfold s5
 simp only [↓eD, eZ, ↓reduceIte, Nat.reduceEqDiff, Nat.reduceAdd, Nat.reduceMul, reduceCtorEq, Nat.reduceLeDiff, Int.reduceLT, Int.reduceLE, Int.reduceToNat, Int.reduceEq, Nat.reduceLT, undef_eq]
 refine appK_at (few_app (h.Old (fin _))) ?_
 cases hf : fewI I with
 |false =>
  simp only [↓eD, eZ, ↓reduceIte, Nat.reduceEqDiff, Nat.reduceAdd, Nat.reduceMul, reduceCtorEq, Nat.reduceLeDiff, Int.reduceLT, Int.reduceLE, Int.reduceToNat, Int.reduceEq, Nat.reduceLT, Bool.not_false, undef_eq]
  refine appK_at (sanity_app (hH.Old (fin _))) ?_
  simp only [↓eD, eZ, ↓reduceIte, Nat.reduceEqDiff, Nat.reduceAdd, Nat.reduceMul, reduceCtorEq, Nat.reduceLeDiff, Int.reduceLT, Int.reduceLE, Int.reduceToNat, Int.reduceEq, Nat.reduceLT, undef_eq]
  first | exact ⟨fin _, rfl⟩ | exact fin _
 |true =>
 simp only [↓eD, eZ, ↓reduceIte, Nat.reduceEqDiff, Nat.reduceAdd, Nat.reduceMul, reduceCtorEq, Nat.reduceLeDiff, Int.reduceLT, Int.reduceLE, Int.reduceToNat, Int.reduceEq, Nat.reduceLT, Bool.not_true, undef_eq]
 refine appK_at (rcheck_app (h.Old (fin _))) ?_
 by_cases hc : checkI I = 0
 case neg =>
  have d1 : decide (checkI I = 0) = false := decide_eq_false hc
  simp only [↓eD, eZ, ↓reduceIte, Nat.reduceEqDiff, Nat.reduceAdd, Nat.reduceMul, reduceCtorEq, Nat.reduceLeDiff, Int.reduceLT, Int.reduceLE, Int.reduceToNat, Int.reduceEq, Nat.reduceLT, d1, Bool.not_false, undef_eq]
  refine appK_at (sanity_app (hH.Old (fin _))) ?_
  simp only [↓eD, eZ, ↓reduceIte, Nat.reduceEqDiff, Nat.reduceAdd, Nat.reduceMul, reduceCtorEq, Nat.reduceLeDiff, Int.reduceLT, Int.reduceLE, Int.reduceToNat, Int.reduceEq, Nat.reduceLT, undef_eq]
  first | exact ⟨fin _, rfl⟩ | exact fin _
 have O := okay_iff.1 hc
 have q1 := O.p1
 have q2 := O.p2
 have d1 : decide (checkI I = 0) = true := decide_eq_true hc
 have d00 : decide ((0 : Int) = 0) = true := rfl
 obtain ⟨σ1, hσ1⟩ : ∃ σ1, σ1 = ap σ [.cells 0 [.int .i64 I.e, .int .i64 I.p, .slice a1 I.S.length b1, .slice a2 I.D.length b2] (0, 0)] := ⟨_, rfl⟩
 simp only [↓eD, eZ, ↓reduceIte, Nat.reduceEqDiff, Nat.reduceAdd, Nat.reduceMul, reduceCtorEq, Nat.reduceLeDiff, Int.reduceLT, Int.reduceLE, Int.reduceToNat, Int.reduceEq, Nat.reduceLT, d1, Bool.not_true, undef_eq]
 rw [← hσ1]
 have o1 : Old σ σ1 := by rw [hσ1]; exact .ap
 have p1 : σ1[σ.size]? = some (.cells 0 [.int .i64 I.e, .int .i64 I.p, .slice a1 I.S.length b1, .slice a2 I.D.length b2] (0, 0)) := by rw [hσ1, ap_new0]; rfl
 clear hσ1
 refine appK_of (lload_app (h.Old o1)) ?_
 rintro _ σ2 ⟨o2, m, rfl, hM, hone⟩
 rw [hc]
 have nL : loadN I = I.p.toNat := if_pos hc
 rw [nL] at hM
 obtain ⟨ma, mc, rfl⟩ := hM.w.slice
 obtain ⟨k, hk⟩ : ∃ k : Nat, k = (n % (I.p * 128)).toNat := ⟨_, rfl⟩
 have hm0 : 0 ≤ n % (I.p * 128) := Int.emod_nonneg _ (by omega)
 have hm1 : n % (I.p * 128) < I.p * 128 := Int.emod_lt_of_pos _ (by omega)
 have wn : IntKind.wrap .i64 n = n := wrap64' (by omega) (by omega)
 have wp : IntKind.wrap .i64 (I.p * 128) = I.p * 128 := wrap64' (by omega) (by omega)
 have tm : n.tmod (I.p * 128) = (k : Int) := by rw [Int.tmod_eq_emod_of_nonneg hn0]; omega
 have zp : (I.p * 128 = 0) = False := eq_false (by omega)
 have o02 := o1.trans o2
 have g1 : ∀ M, rd1 (ap σ2 M) ⟨σ.size, 1, none⟩ = some (.int .i64 I.p) := fun M => rd1_of p1 (o2.trans .ap) rfl
 rw [← ap_nil (σ := σ2)]
 simp only [↓eD, eZ, ↓reduceIte, Nat.reduceEqDiff, Nat.reduceAdd, Nat.reduceMul, reduceCtorEq, Nat.reduceLeDiff, Int.reduceLT, Int.reduceLE, Int.reduceToNat, Int.reduceEq, Nat.reduceLT, g1, wn, wp, tm, zp, undef_eq]
 refine appK_at (load1_app (k := k) (hM.Old .ap) (by omega) (by omega)) ?_
 obtain ⟨hv1, hv2⟩ := hv_load O (k := k)
 simp only [↓eD, eZ, ↓reduceIte, Nat.reduceEqDiff, Nat.reduceAdd, Nat.reduceMul, reduceCtorEq, Nat.reduceLeDiff, Int.reduceLT, Int.reduceLE, Int.reduceToNat, Int.reduceEq, Nat.reduceLT, d00, Bool.not_true, undef_eq]
 have g2 : ∀ τ, Old σ2 τ → rd1 τ ⟨σ.size, 2, none⟩ = some (.slice a1 I.S.length b1) := fun τ ho => rd1_of p1 (o2.trans ho) rfl
 have n1 := O.n1
 refine loop_for (J := fun i e τ => i ≤ I.S.length ∧ ∃ (w : Int) (c : Nat), e = [(2, .pointer (some ⟨σ.size, 0, none⟩)), (7, .int .i64 (k : Int)), (8, .int .u32 ((loadB I).getD k 0)), (10, .int .u8 w), (11, .int .i64 (c : Int)), (12, .int .i64 (i : Int))] ∧ Old σ2 τ ∧ 0 ≤ w ∧ w ≤ 255 ∧ c ≤ i ∧ hvF k (I.S.drop i) (w, c) = hvF k I.S (0, 0)) I.S.length
  ⟨by omega, 0, 0, rfl, .ap, by omega, by omega, by omega, rfl⟩ ?_
 rintro i e τ hi ⟨_, w, c, rfl, oτ, hw0, hw1, hci, hv⟩
 have gS : ∀ M, rd1 (ap τ M) ⟨σ.size, 2, none⟩ = some (.slice a1 I.S.length b1) := fun M => g2 _ (oτ.trans .ap)
 rw [← ap_nil (σ := τ)]
 by_cases hlt : i < I.S.length
 ·have dl : decide ((i : Int) < (I.S.length : Int)) = true := by rw [decide_eq_true]; omega
  have hbd : (0:Int) ≤ (i:Int) ∧ (i:Int) < (I.S.length : Int) := by omega
  have hwi : IntKind.wrap .i64 ((i:Int) + 1) = ((i + 1 : Nat) : Int) := by rw [wrap64' (by omega) (by omega)]; omega
  have hwc : IntKind.wrap .i64 ((c:Int) + 1) = ((c + 1 : Nat) : Int) := by rw [wrap64' (by omega) (by omega)]; omega
  have hx : (I.S.map segV)[i]? = some (segV I.S[i]) := by simp [hlt]
  obtain ⟨b', off, rfl, h1⟩ := (h.S.Old (o02.trans oτ)).at hx
  have hsg := segs_ok O.s (Int.le_refl 0) I.S[i] (List.getElem_mem hlt)
  have ht := List.drop_eq_getElem_cons hlt
  generalize hEi : I.S[i] = s at h1 hsg ht
  obtain ⟨hs0, hs1, hs2⟩ := hsg
  rw [ht, hvF] at hv
  have hr : ∀ M, rdN (ap τ M) ⟨b', off + i * 2, none⟩ 2 = some (segV s) := fun M => rdN_old h1
  have wa : IntKind.wrap .i64 (s.at_ + (s.data.size : Int)) = s.at_ + (s.data.size : Int) := wrap64' (by omega) (by omega)
  by_cases c1 : s.at_ ≤ (k : Int)
  case neg =>
   have e1 : decide (s.at_ ≤ (k : Int)) = false := decide_eq_false c1
   rw [if_neg (fun hh => c1 hh.1)] at hv
   simp only [↓eD, eZ, ↓reduceIte, Nat.reduceEqDiff, Nat.reduceAdd, Nat.reduceMul, reduceCtorEq, Nat.reduceLeDiff, Int.reduceLT, Int.reduceLE, Int.reduceToNat, Int.reduceEq, Nat.reduceLT, gS, dl, hbd, Int.toNat_natCast, hr, segV, e1, hwi, undef_eq]
   exact ⟨hlt, by omega, w, c, rfl, oτ.trans .ap, hw0, hw1, by omega, hv⟩
  have e1 : decide (s.at_ ≤ (k : Int)) = true := decide_eq_true c1
  by_cases c2 : (k : Int) < s.at_ + s.data.size
  case neg =>
   have e2 : decide ((k : Int) < s.at_ + (s.data.size : Int)) = false := decide_eq_false c2
   rw [if_neg (fun hh => c2 hh.2)] at hv
   simp only [↓eD, eZ, ↓reduceIte, Nat.reduceEqDiff, Nat.reduceAdd, Nat.reduceMul, reduceCtorEq, Nat.reduceLeDiff, Int.reduceLT, Int.reduceLE, Int.reduceToNat, Int.reduceEq, Nat.reduceLT, gS, dl, hbd, Int.toNat_natCast, hr, segV, e1, wa, e2, hwi, undef_eq]
   exact ⟨hlt, by omega, w, c, rfl, oτ.trans .ap, hw0, hw1, by omega, hv⟩
  have e2 : decide ((k : Int) < s.at_ + (s.data.size : Int)) = true := decide_eq_true c2
  rw [if_pos ⟨c1, c2⟩] at hv
  have wj : IntKind.wrap .i64 ((k : Int) - s.at_) = ((k - s.at_.toNat : Nat) : Int) := by rw [wrap64' (by omega) (by omega)]; omega
  have hjb : (0:Int) ≤ ((k - s.at_.toNat : Nat) : Int) ∧ ((k - s.at_.toNat : Nat) : Int) < (s.data.size : Int) := by omega
  have hst := str_at (s := s.data) (i := k - s.at_.toNat) (by omega)
  simp only [↓eD, eZ, ↓reduceIte, Nat.reduceEqDiff, Nat.reduceAdd, Nat.reduceMul, reduceCtorEq, Nat.reduceLeDiff, Int.reduceLT, Int.reduceLE, Int.reduceToNat, Int.reduceEq, Nat.reduceLT, gS, dl, hbd, Int.toNat_natCast, hr, segV, e1, wa, e2, wj, hjb, hst, hwc, hwi, undef_eq]
  have hby : 0 ≤ (strI s.data).getD (k - s.at_.toNat) 0 ∧ (strI s.data).getD (k - s.at_.toNat) 0 ≤ 255 := by
   have hl9 : k - s.at_.toNat < (strI s.data).length := by rw [strI_len]; omega
   rw [← List.getElem_eq_getD (l := strI s.data) (i := k - s.at_.toNat) 0 (h := hl9)]
   exact strI_byt _ (List.getElem_mem _)
  exact ⟨hlt, by omega, _, c + 1, rfl, oτ.trans .ap, hby.1, hby.2, by omega, hv⟩
 have : i = I.S.length := by omega
 subst this
 have dl : decide ((I.S.length : Int) < (I.S.length : Int)) = false := by rw [decide_eq_false]; omega
 rw [List.drop_length, hvF] at hv
 have o0τ := o02.trans oτ
 simp only [↓eD, eZ, ↓reduceIte, Nat.reduceEqDiff, Nat.reduceAdd, Nat.reduceMul, reduceCtorEq, Nat.reduceLeDiff, Int.reduceLT, Int.reduceLE, Int.reduceToNat, Int.reduceEq, Nat.reduceLT, gS, dl, undef_eq]
 rw [ap_nil]
 refine appK_at (sanity_app (hH.Old o0τ)) ?_
 rw [← hv] at hv1 hv2
 dsimp only at hv1 hv2
 have dc : decide ((c : Int) ≤ 1) = true := by rw [decide_eq_true]; omega
 have wu : IntKind.wrap .u32 w = w := wrap_u32 hw0 (by omega)
 have dw : decide ((loadB I).getD k 0 = w) = true := decide_eq_true hv2
 simp only [↓eD, eZ, ↓reduceIte, Nat.reduceEqDiff, Nat.reduceAdd, Nat.reduceMul, reduceCtorEq, Nat.reduceLeDiff, Int.reduceLT, Int.reduceLE, Int.reduceToNat, Int.reduceEq, Nat.reduceLT, dc, wu, dw, undef_eq]
 first | exact ⟨o0τ, rfl⟩ | exact o0τ
end Go.Proofs.YtajchhghjjlahaaDoor
