/- Walks and plain laws. Conditions: none. -/
import Derived.Test.YtajchhghjjlahaaDoorBodiesL7
set_option linter.all false
set_option maxRecDepth 10000
set_option maxHeartbeats 8000000
namespace Go.Proofs.YtajchhghjjlahaaDoor
open Go Go.Cn Go.RowKit
attribute [local irreducible] evL sem onG onI onV
theorem law7 {σ : H} {l : List Value} {I : Img} {a1 a2 : Option Addr} {b1 b2 : Nat} {n : Int} (h : ImgR σ l I a1 b1 a2 b2) (hn0 : 0 ≤ n) (hn1 : n ≤ 255) (hH : HGlob σ) :
  App Tryd.prog (.func 7) #[] #[.agg l.toArray, .int .u8 n] σ fun v σ' => Old σ σ' ∧ v = .bool true := by
 refine App.of_sem mixed Tryd.func7 t7 k7 r7 (Nat.le_of_ble_eq_true rfl) ?_
 have hl := h.c0
 subst hl
 have fin : ∀ M : List Blk, Old σ (ap σ M) := fun M => .ap
 rw [← ap_nil (σ := σ)]
 unfold s7
 simp only [↓eD, eZ, ↓reduceIte, Nat.reduceEqDiff, Nat.reduceAdd, Nat.reduceMul, reduceCtorEq, Nat.reduceLeDiff, Int.reduceLT, Int.reduceLE, Int.reduceToNat, Int.reduceEq, Nat.reduceLT, undef_eq]
 refine appK_at (few_app (h.Old (fin _))) ?_
 cases hf : fewI I with
 |false =>
  simp only [↓eD, eZ, ↓reduceIte, Nat.reduceEqDiff, Nat.reduceAdd, Nat.reduceMul, reduceCtorEq, Nat.reduceLeDiff, Int.reduceLT, Int.reduceLE, Int.reduceToNat, Int.reduceEq, Nat.reduceLT, Bool.not_false, undef_eq]
  refine appK_at (sanity_app (hH.Old (fin _))) ?_
  simp only [↓eD, eZ, ↓reduceIte, Nat.reduceEqDiff, Nat.reduceAdd, Nat.reduceMul, reduceCtorEq, Nat.reduceLeDiff, Int.reduceLT, Int.reduceLE, Int.reduceToNat, Int.reduceEq, Nat.reduceLT, undef_eq]
  first | exact ⟨fin _, rfl⟩ | exact fin _
 |true =>
 simp only [↓eD, eZ, ↓reduceIte, Nat.reduceEqDiff, Nat.reduceAdd, Nat.reduceMul, reduceCtorEq, Nat.reduceLeDiff, Int.reduceLT, Int.reduceLE, Int.reduceToNat, Int.reduceEq, Nat.reduceLT, Bool.not_true, undef_eq]
 refine appK_at (rcheck_app (h.Old (fin _))) ?_
 by_cases hc : checkI I = 0
 case neg =>
  have d1 : decide (checkI I = 0) = false := decide_eq_false hc
  simp only [↓eD, eZ, ↓reduceIte, Nat.reduceEqDiff, Nat.reduceAdd, Nat.reduceMul, reduceCtorEq, Nat.reduceLeDiff, Int.reduceLT, Int.reduceLE, Int.reduceToNat, Int.reduceEq, Nat.reduceLT, d1, Bool.not_false, undef_eq]
  refine appK_at (sanity_app (hH.Old (fin _))) ?_
  simp only [↓eD, eZ, ↓reduceIte, Nat.reduceEqDiff, Nat.reduceAdd, Nat.reduceMul, reduceCtorEq, Nat.reduceLeDiff, Int.reduceLT, Int.reduceLE, Int.reduceToNat, Int.reduceEq, Nat.reduceLT, undef_eq]
  first | exact ⟨fin _, rfl⟩ | exact fin _
 have O := okay_iff.1 hc
 have d1 : decide (checkI I = 0) = true := decide_eq_true hc
 obtain ⟨k, hk⟩ : ∃ k : Nat, k = 1 + (n % 4).toNat := ⟨_, rfl⟩
 have hk4 : k ≤ 4 := by omega
 have hk1 : 1 ≤ k := by omega
 have wn : IntKind.wrap .i64 n = n := wrap64' (by omega) (by omega)
 have tm : n.tmod 4 = n % 4 := Int.tmod_eq_emod_of_nonneg hn0
 have w4 : IntKind.wrap .i64 (n % 4) = n % 4 := wrap64' (by omega) (by omega)
 have w5 : IntKind.wrap .i64 (1 + n % 4) = (k : Int) := by rw [wrap64' (by omega) (by omega)]; omega
 have z4 : ((4 : Int) = 0) = False := by simp
 obtain ⟨σ1, hσ1⟩ : ∃ σ1, σ1 = ap σ [.cells 0 [.int .i64 I.e, .int .i64 I.p, .slice a1 I.S.length b1, .slice a2 I.D.length b2] (0, 0)] := ⟨_, rfl⟩
 simp only [↓eD, eZ, ↓reduceIte, Nat.reduceEqDiff, Nat.reduceAdd, Nat.reduceMul, reduceCtorEq, Nat.reduceLeDiff, Int.reduceLT, Int.reduceLE, Int.reduceToNat, Int.reduceEq, Nat.reduceLT, d1, wn, tm, w4, w5, z4, Bool.not_true, undef_eq]
 rw [← hσ1]
 have o1 : Old σ σ1 := by rw [hσ1]; exact .ap
 have p1 : σ1[σ.size]? = some (.cells 0 [.int .i64 I.e, .int .i64 I.p, .slice a1 I.S.length b1, .slice a2 I.D.length b2] (0, 0)) := by rw [hσ1, ap_new0]; rfl
 clear hσ1
 refine appK_of (lcpus_app (n := (k : Int)) (h.Old o1)) ?_
 rintro _ σ2 ⟨o2, u, rfl, hU⟩
 have eU : cpuE I (k : Int) = 0 := by unfold cpuE; rw [if_neg (fun h => h hc), if_neg (by omega)]
 have nU : cpuN I (k : Int) = k := by unfold cpuN; rw [if_pos eU]; simp
 rw [nU] at hU
 rw [eU]
 obtain ⟨ua, uc, rfl⟩ := hU.slice
 have hR : Row σ2 30 (.slice ua k uc) (cpusF I.e k) := by
  have : Grown σ1 σ2 30 (.slice ua k uc) (cpusF I.e k).flatten (cpusF I.e k).length := by rw [cpusF_len]; exact hU
  exact this.Row cpusF_30
 have d00 : decide ((0 : Int) = 0) = true := rfl
 have dkk : decide ((k : Int) = (k : Int)) = true := decide_eq_true rfl
 simp only [↓eD, eZ, ↓reduceIte, Nat.reduceEqDiff, Nat.reduceAdd, Nat.reduceMul, reduceCtorEq, Nat.reduceLeDiff, Int.reduceLT, Int.reduceLE, Int.reduceToNat, Int.reduceEq, Nat.reduceLT, d00, dkk, undef_eq]
 refine loop_for (J := fun i e τ => i ≤ k ∧ e = [(2, .pointer (some ⟨σ.size, 0, none⟩)), (5, .int .i64 (k : Int)), (6, .slice ua k uc), (8, .int .i64 (i : Int))] ∧ Old σ2 τ) k ⟨by omega, rfl, ⟨Nat.le_refl _, fun c hc => rfl⟩⟩ ?_
 rintro i e τ hi ⟨_, rfl, oτ⟩
 have o0τ : Old σ τ := (o1.trans o2).trans oτ
 by_cases hlt : i < k
 ·have dl : decide ((i : Int) < (k : Int)) = true := by rw [decide_eq_true]; omega
  have hbd : (0:Int) ≤ (i:Int) ∧ (i:Int) < (k : Int) := by omega
  have hw1 : IntKind.wrap .i64 ((i:Int) + 1) = ((i + 1 : Nat) : Int) := by rw [wrap64' (by omega) (by omega)]; omega
  have hx : (cpusF I.e k)[i]? = some (cpuV (IntKind.wrap .u32 I.e) (i : Int) (decide (0 < i))) := by simp [cpusF, hlt]
  obtain ⟨b', off, rfl, h1⟩ := (hR.Old oτ).at hx
  have hr : ∀ M, rdN (ap τ M) ⟨b', off + i * 30, none⟩ 30 = some (cpuV (IntKind.wrap .u32 I.e) (i : Int) (decide (0 < i))) := fun M => rdN_old h1
  obtain ⟨w, hw⟩ : ∃ w, w = decide (0 < i) := ⟨_, rfl⟩
  have dw : decide ((0 : Int) < (i : Int)) = w := by rw [hw]; exact decide_eq_decide.2 (by omega)
  rw [← hw] at hr
  obtain ⟨pc, hpc⟩ : ∃ pc, pc = IntKind.wrap .u32 I.e := ⟨_, rfl⟩
  rw [← hpc] at hr
  have hp1 : ∀ M, rd1 (ap τ M) ⟨σ.size, 0, none⟩ = some (.int .i64 I.e) := fun M => rd1_of p1 ((o2.trans oτ).trans .ap) rfl
  have wpc : IntKind.wrap .u32 I.e = pc := hpc.symm
  have dpc : decide (pc = pc) = true := decide_eq_true rfl
  have ag : aggEq (List.replicate 16 (.int .u32)) [Value.int .u32 0, Value.int .u32 0, Value.int .u32 0, Value.int .u32 0, Value.int .u32 0, Value.int .u32 0, Value.int .u32 0, Value.int .u32 0, Value.int .u32 0, Value.int .u32 0, Value.int .u32 0, Value.int .u32 0, Value.int .u32 0, Value.int .u32 0, Value.int .u32 0, Value.int .u32 0] (List.replicate 16 (Value.int .u32 0)) = some true := rfl
  have wu : IntKind.wrap .u32 (i : Int) = (i : Int) := wrap_u32 (by omega) (by omega)
  rw [← ap_nil (σ := τ)]
  simp only [↓eD, eZ, ↓reduceIte, Nat.reduceEqDiff, Nat.reduceAdd, Nat.reduceMul, reduceCtorEq, Nat.reduceLeDiff, Int.reduceLT, Int.reduceLE, Int.reduceToNat, Int.reduceEq, Nat.reduceLT, dl, hbd, Int.toNat_natCast, hr, cpuV, hp1, wpc, dpc, dw, ag, undef_eq]
  obtain ⟨T, hT⟩ : ∃ T, T = ap τ [.cells 1 [.int .u32 pc, .int .u32 0, .int .u32 0, .int .u32 0, .int .u32 0, .int .u32 0, .int .u32 0, .int .u32 0, .int .u32 0, .int .u32 0, .int .u32 0, .int .u32 0, .int .u32 0, .int .u32 0, .int .u32 0, .int .u32 0, .int .u32 0, .int .u32 0, .int .u32 0, .int .u32 0, .int .u32 0, .int .u32 0, .int .u32 0, .int .u32 0, .int .u32 0, .int .u32 (i : Int), .bool false, .bool w, .bool false, .int .i64 0] (0, 0)] := ⟨_, rfl⟩
  rw [← hT]
  have oT : Old τ T := by rw [hT]; exact .ap
  have pT : T[τ.size]? = some (.cells 1 [.int .u32 pc, .int .u32 0, .int .u32 0, .int .u32 0, .int .u32 0, .int .u32 0, .int .u32 0, .int .u32 0, .int .u32 0, .int .u32 0, .int .u32 0, .int .u32 0, .int .u32 0, .int .u32 0, .int .u32 0, .int .u32 0, .int .u32 0, .int .u32 0, .int .u32 0, .int .u32 0, .int .u32 0, .int .u32 0, .int .u32 0, .int .u32 0, .int .u32 0, .int .u32 (i : Int), .bool false, .bool w, .bool false, .int .i64 0] (0, 0)) := by rw [hT, ap_new0]; rfl
  clear hT
  refine loop_for (J := fun q e θ => q ≤ 9 ∧ e = [(2, .pointer (some ⟨σ.size, 0, none⟩)), (5, .int .i64 (k : Int)), (6, .slice (some ⟨b', off, none⟩) k uc), (8, .int .i64 (i : Int)), (9, .pointer (some ⟨τ.size, 0, none⟩)), (10, .int .i64 (q : Int))] ∧ θ = T) 9 ⟨by omega, rfl, rfl⟩ ?_
  rintro q e θ hq ⟨_, rfl, rfl⟩
  by_cases hq9 : q < 9
  ·have dq : decide ((q : Int) < 9) = true := by rw [decide_eq_true]; omega
   have hqb : (0:Int) ≤ (q:Int) ∧ (q:Int) < ((9 : Nat) : Int) := by omega
   have hw2 : IntKind.wrap .i64 ((q:Int) + 1) = ((q + 1 : Nat) : Int) := by rw [wrap64' (by omega) (by omega)]; omega
   have hrq : rd1 θ ⟨τ.size, 17 + q, none⟩ = some (.int .u32 (if q = 8 then (i : Int) else 0)) := by
    rw [rd1_eq, pT]
    match q, hq9 with
    |0, _ | 1, _ | 2, _ | 3, _ | 4, _ | 5, _ | 6, _ | 7, _ | 8, _ => rfl
   by_cases h8 : q = 8
   ·have d8 : decide ((q : Int) = 8) = true := by rw [decide_eq_true]; omega
    have dii : decide ((i : Int) = (i : Int)) = true := decide_eq_true rfl
    rw [if_pos h8] at hrq
    simp only [↓eD, eZ, ↓reduceIte, Nat.reduceEqDiff, Nat.reduceAdd, Nat.reduceMul, reduceCtorEq, Nat.reduceLeDiff, Int.reduceLT, Int.reduceLE, Int.reduceToNat, Int.reduceEq, Nat.reduceLT, dq, hqb, Int.toNat_natCast, hrq, d8, wu, dii, hw2, undef_eq]
    exact ⟨hq9, by omega⟩
   ·have d8 : decide ((q : Int) = 8) = false := by rw [decide_eq_false]; omega
    rw [if_neg h8] at hrq
    simp only [↓eD, eZ, ↓reduceIte, Nat.reduceEqDiff, Nat.reduceAdd, Nat.reduceMul, reduceCtorEq, Nat.reduceLeDiff, Int.reduceLT, Int.reduceLE, Int.reduceToNat, Int.reduceEq, Nat.reduceLT, dq, hqb, Int.toNat_natCast, hrq, d8, d00, hw2, undef_eq]
    exact ⟨hq9, by omega⟩
  have : q = 9 := by omega
  subst this
  have dq : decide (((9 : Nat) : Int) < 9) = false := rfl
  simp only [↓eD, eZ, ↓reduceIte, Nat.reduceEqDiff, Nat.reduceAdd, Nat.reduceMul, reduceCtorEq, Nat.reduceLeDiff, Int.reduceLT, Int.reduceLE, Int.reduceToNat, Int.reduceEq, Nat.reduceLT, dq, hw1, undef_eq]
  exact ⟨hlt, by omega, oτ.trans oT⟩
 have : i = k := by omega
 subst this
 have dl : decide ((i : Int) < (i : Int)) = false := by rw [decide_eq_false]; omega
 simp only [↓eD, eZ, ↓reduceIte, Nat.reduceEqDiff, Nat.reduceAdd, Nat.reduceMul, reduceCtorEq, Nat.reduceLeDiff, Int.reduceLT, Int.reduceLE, Int.reduceToNat, Int.reduceEq, Nat.reduceLT, dl, undef_eq]
 refine appK_at (sanity_app (hH.Old o0τ)) ?_
 simp only [↓eD, eZ, ↓reduceIte, Nat.reduceEqDiff, Nat.reduceAdd, Nat.reduceMul, reduceCtorEq, Nat.reduceLeDiff, Int.reduceLT, Int.reduceLE, Int.reduceToNat, Int.reduceEq, Nat.reduceLT, undef_eq]
 first | exact ⟨o0τ, rfl⟩ | exact o0τ
end Go.Proofs.YtajchhghjjlahaaDoor
