/- Walks and plain laws. Conditions: none. -/
import Derived.Test.YtopnlllipkockaaDoorBodiesL3
set_option linter.all false
set_option linter.unusedSimpArgs false
set_option linter.unusedVariables false
set_option maxRecDepth 10000
set_option maxHeartbeats 4000000
namespace Go.Proofs.YtopnlllipkockaaDoor
open Go Go.Cn Go.RowKit
attribute [local irreducible] evL sem onG onI onV

theorem law3 {σ : H} {l : List Value} {L : Lg} {a1 a2 : Option Addr} {b1 b2 : Nat} {x : Ent} {c : Int} {d : List Int} (h : LgA σ l L a1 b1 a2 b2) (hx : x.raw) (hc : I64 c) (hd : d.length = 16) (hH : HGlob σ) (hG : Glob σ) :
    App Tryd.prog (.func 3) #[] #[.agg l.toArray, .agg (entV x).toArray, .int .i64 c, .agg (digC d).toArray] σ fun v σ' => Old σ σ' ∧ v = .bool true := by
  refine App.of_sem mixed Tryd.func3 t3 k3 r3 (Nat.le_of_ble_eq_true rfl) ?_
  have hl := h.r.l
  have hdl := h.r.d
  subst hl
  rw [← ap_nil (σ := σ)]
  unfold s3
  have td := digC_take hd
  have ld := digC_len hd
  simp only [↓eD0, ↓eD1, eC0, eC1, eC2, eC3, eC4, eC5, eC6, wantedE, ↓reduceIte, Nat.reduceEqDiff, yA, yB, reread, yC, yD, yE, yF, yG, yH, Value.cells, yI, yJ, outE, lks, lkR, rdV, neg1, evs, opt, Nat.reduceAdd, Nat.reduceMul, and_self, reduceCtorEq, yK, yL, yM, Value.oneCell', yN, yO, sets, fillL, Nat.reduceLeDiff, yP, yQ, yR, yS, yT, argsE, yU, yV, yW, Int.reduceLT, Int.reduceLE, Int.reduceToNat, Int.reduceEq, Nat.reduceLT, rec_len hdl, rec_take hdl, entV, td, ld]
  refine appK_of (lfew_app hdl rfl (h.r.E.Old .ap)) ?_
  rintro _ _ ⟨e2, rfl⟩
  rw [e2]
  clear e2
  cases hf : lfewF L with
  | false =>
    simp only [↓eD0, ↓eD1, eC0, eC1, eC2, eC3, eC4, eC5, eC6, wantedE, ↓reduceIte, Nat.reduceEqDiff, yA, yB, reread, yC, yD, yE, yF, yG, yH, Value.cells, yI, yJ, outE, lks, lkR, rdV, neg1, evs, opt, Nat.reduceAdd, Nat.reduceMul, and_self, reduceCtorEq, yK, yL, yM, Value.oneCell', yN, yO, sets, fillL, Nat.reduceLeDiff, yP, yQ, yR, yS, yT, argsE, yU, yV, yW, Int.reduceLT, Int.reduceLE, Int.reduceToNat, Int.reduceEq, Nat.reduceLT, Bool.not_false, undef_eq]
    refine appK_of (sanity_app (hH.Old .ap)) ?_
    rintro _ _ ⟨e2, rfl⟩
    rw [e2]
    clear e2
    simp only [↓eD0, ↓eD1, eC0, eC1, eC2, eC3, eC4, eC5, eC6, wantedE, ↓reduceIte, Nat.reduceEqDiff, yA, yB, reread, yC, yD, yE, yF, yG, yH, Value.cells, yI, yJ, outE, lks, lkR, rdV, neg1, evs, opt, Nat.reduceAdd, Nat.reduceMul, and_self, reduceCtorEq, yK, yL, yM, Value.oneCell', yN, yO, sets, fillL, Nat.reduceLeDiff, yP, yQ, yR, yS, yT, argsE, yU, yV, yW, Int.reduceLT, Int.reduceLE, Int.reduceToNat, Int.reduceEq, Nat.reduceLT, undef_eq]
    rw [ap_nil]
    first | exact ⟨.ap, rfl⟩ | exact .ap
  | true =>
    have V := h.v hf
    by_cases hz : 600 < x.data.size
    · have dz : decide ((600 : Int) < (x.data.size : Int)) = true := by rw [decide_eq_true]; omega
      simp only [↓eD0, ↓eD1, eC0, eC1, eC2, eC3, eC4, eC5, eC6, wantedE, ↓reduceIte, Nat.reduceEqDiff, yA, yB, reread, yC, yD, yE, yF, yG, yH, Value.cells, yI, yJ, outE, lks, lkR, rdV, neg1, evs, opt, Nat.reduceAdd, Nat.reduceMul, and_self, reduceCtorEq, yK, yL, yM, Value.oneCell', yN, yO, sets, fillL, Nat.reduceLeDiff, yP, yQ, yR, yS, yT, argsE, yU, yV, yW, Int.reduceLT, Int.reduceLE, Int.reduceToNat, Int.reduceEq, Nat.reduceLT, Bool.not_true, dz, undef_eq]
      refine appK_of (sanity_app (hH.Old .ap)) ?_
      rintro _ _ ⟨e2, rfl⟩
      rw [e2]
      clear e2
      simp only [↓eD0, ↓eD1, eC0, eC1, eC2, eC3, eC4, eC5, eC6, wantedE, ↓reduceIte, Nat.reduceEqDiff, yA, yB, reread, yC, yD, yE, yF, yG, yH, Value.cells, yI, yJ, outE, lks, lkR, rdV, neg1, evs, opt, Nat.reduceAdd, Nat.reduceMul, and_self, reduceCtorEq, yK, yL, yM, Value.oneCell', yN, yO, sets, fillL, Nat.reduceLeDiff, yP, yQ, yR, yS, yT, argsE, yU, yV, yW, Int.reduceLT, Int.reduceLE, Int.reduceToNat, Int.reduceEq, Nat.reduceLT, undef_eq]
      rw [ap_nil]
      first | exact ⟨.ap, rfl⟩ | exact .ap
    have dz : decide ((600 : Int) < (x.data.size : Int)) = false := by rw [decide_eq_false]; omega
    simp only [↓eD0, ↓eD1, eC0, eC1, eC2, eC3, eC4, eC5, eC6, wantedE, ↓reduceIte, Nat.reduceEqDiff, yA, yB, reread, yC, yD, yE, yF, yG, yH, Value.cells, yI, yJ, outE, lks, lkR, rdV, neg1, evs, opt, Nat.reduceAdd, Nat.reduceMul, and_self, reduceCtorEq, yK, yL, yM, Value.oneCell', yN, yO, sets, fillL, Nat.reduceLeDiff, yP, yQ, yR, yS, yT, argsE, yU, yV, yW, Int.reduceLT, Int.reduceLE, Int.reduceToNat, Int.reduceEq, Nat.reduceLT, Bool.not_true, dz, td, ld, undef_eq]
    refine appK_of (lnew_app (c := c) hd) ?_
    rintro _ τ ⟨ho, rfl⟩
    obtain ⟨RC, hRC⟩ : ∃ RC, RC = recC L.d L.c (.slice a1 L.E.length b1) (.slice a2 L.S.length b2) := ⟨_, rfl⟩
    rw [← hRC] at ho h V
    have lR : RC.length = 19 := by rw [hRC]; exact rec_len hdl
    have tR : RC.take 19 = RC := List.take_of_length_le (by omega)
    have oσ : Old σ τ := Old.trans .ap ho
    have e5 : entV x = [.int .i64 x.kind, .int .i64 x.cpu, .int .i64 x.count, .int .i64 x.n, .string x.data] := rfl
    rw [← e5] at ho
    have q0 : τ[σ.size]? = some (.cells 0 RC (0, 0)) := (ho.2 _ (by simp [ap_size])).trans (by rw [ap_new0]; rfl)
    have q1 : τ[σ.size + 1]? = some (.cells 0 (entV x) (0, 0)) := (ho.2 _ (by simp [ap_size])).trans (by rw [ap_new]; rfl)
    have q2 : τ[σ.size + 2]? = some (.cells 0 (digC d) (0, 0)) := (ho.2 _ (by simp [ap_size])).trans (by rw [ap_new]; rfl)
    have r0 : ∀ M, rdN (ap τ M) ⟨σ.size, 0, none⟩ 19 = some RC := fun M => rdN_old (rdN_all q0 lR)
    have r1 : ∀ M, rdN (ap τ M) ⟨σ.size + 1, 0, none⟩ 5 = some (entV x) := fun M => rdN_old (rdN_all q1 rfl)
    have r2 : ∀ M, rdN (ap τ M) ⟨σ.size + 2, 0, none⟩ 16 = some (digC d) := fun M => rdN_old (rdN_all q2 ld)
    have t0 : ap τ [] = τ := ap_nil
    have hs2 : x.data.size < 100000000000 := by omega
    have fin : ∀ M : List Blk, Old σ (ap τ M) := fun M => oσ.trans .ap
    have ae0 := aggEq_dig (a := beginF d c) (b := beginF d c) beginF_len beginF_len
    have ae1 := aggEq_dig (a := nextF d x) (b := nextF d x) nextF_len nextF_len
    rw [decide_eq_true rfl] at ae0 ae1
    have z19 : ∀ z : List Value, z.length = 19 → sets z 0 zeroL = zeroL := fun z hz => by rw [zeroL_rec]; exact rec_sets rfl hz
    by_cases hr : 1 ≤ c ∧ c ≤ 4
    case' pos =>
      have d1 : decide (1 ≤ c) = true := decide_eq_true hr.1
      have d2 : decide (c ≤ 4) = true := decide_eq_true hr.2
      have hn : newV d c = .tuple #[.agg (recC d c (.slice none 0 0) (.slice none 0 0)).toArray, .int .i64 0] := if_pos hr
      have rs19 : ∀ z : List Value, z.length = 19 → sets z 0 (recC d c (.slice none 0 0) (.slice none 0 0)) = recC d c (.slice none 0 0) (.slice none 0 0) := fun z hz => rec_sets hd hz
      have nv : ∀ θ : H, LgR θ (recC d c (.slice none 0 0) (.slice none 0 0)) ⟨d, c, [], []⟩ none 0 none 0 := fun θ => (new_v hd hc).r
      have sm : sameL ⟨d, c, [], []⟩ ⟨d, c, [], []⟩ = true := by unfold sameL; simp
      rw [hn, ← t0]
      simp only [↓eD0, ↓eD1, eC0, eC1, eC2, eC3, eC4, eC5, eC6, wantedE, ↓reduceIte, Nat.reduceEqDiff, yA, yB, reread, yC, yD, yE, yF, yG, yH, Value.cells, yI, yJ, outE, lks, lkR, rdV, neg1, evs, opt, Nat.reduceAdd, Nat.reduceMul, and_self, reduceCtorEq, yK, yL, yM, Value.oneCell', yN, yO, sets, fillL, Nat.reduceLeDiff, yP, yQ, yR, yS, yT, argsE, yU, yV, yW, Int.reduceLT, Int.reduceLE, Int.reduceToNat, Int.reduceEq, Nat.reduceLT, d1, d2, ld, rec_len hd, rec_take hd, rs19, rec_one, rec_ne, r2, rec_build hd, rec_s16 hd, Bool.not_true, undef_eq]
      refine appK_of (same_app (nv _) (nv _) (by simp) (by simp)) ?_
      rintro _ _ ⟨e2, rfl⟩
      rw [e2, sm]
      clear e2
      simp only [↓eD0, ↓eD1, eC0, eC1, eC2, eC3, eC4, eC5, eC6, wantedE, ↓reduceIte, Nat.reduceEqDiff, yA, yB, reread, yC, yD, yE, yF, yG, yH, Value.cells, yI, yJ, outE, lks, lkR, rdV, neg1, evs, opt, Nat.reduceAdd, Nat.reduceMul, and_self, reduceCtorEq, yK, yL, yM, Value.oneCell', yN, yO, sets, fillL, Nat.reduceLeDiff, yP, yQ, yR, yS, yT, argsE, yU, yV, yW, Int.reduceLT, Int.reduceLE, Int.reduceToNat, Int.reduceEq, Nat.reduceLT, Bool.not_true, d1, d2, undef_eq]
    case' neg =>
      have hn : newV d c = .tuple #[.agg zeroL.toArray, .int .i64 1] := if_neg hr
      have lz : zeroL.length = 19 := rfl
      have tz : zeroL.take 19 = zeroL := rfl
      have oz : zeroL.all Value.oneCell' = true := rfl
      have nz : (zeroL = []) = False := eq_false (fun h => by cases h)
      have z16 : zeroL[16]? = some (.int .i64 0) := rfl
      have dr : decide (1 ≤ c) = false ∨ (decide (1 ≤ c) = true ∧ decide (c ≤ 4) = false) := by
        by_cases h1 : 1 ≤ c
        · exact .inr ⟨decide_eq_true h1, decide_eq_false fun h2 => hr ⟨h1, h2⟩⟩
        · exact .inl (decide_eq_false h1)
      rw [hn, ← t0]
      rcases dr with d1 | ⟨d1, d2⟩
    case' neg.inl => simp only [↓eD0, ↓eD1, eC0, eC1, eC2, eC3, eC4, eC5, eC6, wantedE, ↓reduceIte, Nat.reduceEqDiff, yA, yB, reread, yC, yD, yE, yF, yG, yH, Value.cells, yI, yJ, outE, lks, lkR, rdV, neg1, evs, opt, Nat.reduceAdd, Nat.reduceMul, and_self, reduceCtorEq, yK, yL, yM, Value.oneCell', yN, yO, sets, fillL, Nat.reduceLeDiff, yP, yQ, yR, yS, yT, argsE, yU, yV, yW, Int.reduceLT, Int.reduceLE, Int.reduceToNat, Int.reduceEq, Nat.reduceLT, d1, lz, tz, oz, nz, z16, z19, Bool.not_false, Bool.not_true, undef_eq]
    case' neg.inr => simp only [↓eD0, ↓eD1, eC0, eC1, eC2, eC3, eC4, eC5, eC6, wantedE, ↓reduceIte, Nat.reduceEqDiff, yA, yB, reread, yC, yD, yE, yF, yG, yH, Value.cells, yI, yJ, outE, lks, lkR, rdV, neg1, evs, opt, Nat.reduceAdd, Nat.reduceMul, and_self, reduceCtorEq, yK, yL, yM, Value.oneCell', yN, yO, sets, fillL, Nat.reduceLeDiff, yP, yQ, yR, yS, yT, argsE, yU, yV, yW, Int.reduceLT, Int.reduceLE, Int.reduceToNat, Int.reduceEq, Nat.reduceLT, d1, d2, lz, tz, oz, nz, z16, z19, Bool.not_false, Bool.not_true, undef_eq]
    all_goals
      refine appK_of (sanity_app (hH.Old (fin _))) ?_
      rintro _ _ ⟨e2, rfl⟩
      rw [e2]
      clear e2
      simp only [↓eD0, ↓eD1, eC0, eC1, eC2, eC3, eC4, eC5, eC6, wantedE, ↓reduceIte, Nat.reduceEqDiff, yA, yB, reread, yC, yD, yE, yF, yG, yH, Value.cells, yI, yJ, outE, lks, lkR, rdV, neg1, evs, opt, Nat.reduceAdd, Nat.reduceMul, and_self, reduceCtorEq, yK, yL, yM, Value.oneCell', yN, yO, sets, fillL, Nat.reduceLeDiff, yP, yQ, yR, yS, yT, argsE, yU, yV, yW, Int.reduceLT, Int.reduceLE, Int.reduceToNat, Int.reduceEq, Nat.reduceLT, r1, undef_eq]
      refine appK_of lright_app ?_
      rintro _ _ ⟨e2, rfl⟩
      rw [e2]
      clear e2
      simp only [↓eD0, ↓eD1, eC0, eC1, eC2, eC3, eC4, eC5, eC6, wantedE, ↓reduceIte, Nat.reduceEqDiff, yA, yB, reread, yC, yD, yE, yF, yG, yH, Value.cells, yI, yJ, outE, lks, lkR, rdV, neg1, evs, opt, Nat.reduceAdd, Nat.reduceMul, and_self, reduceCtorEq, yK, yL, yM, Value.oneCell', yN, yO, sets, fillL, Nat.reduceLeDiff, yP, yQ, yR, yS, yT, argsE, yU, yV, yW, Int.reduceLT, Int.reduceLE, Int.reduceToNat, Int.reduceEq, Nat.reduceLT, r1, undef_eq]
      refine appK_of right_app ?_
      rintro _ _ ⟨e2, rfl⟩
      rw [e2]
      clear e2
      simp only [↓eD0, ↓eD1, eC0, eC1, eC2, eC3, eC4, eC5, eC6, wantedE, ↓reduceIte, Nat.reduceEqDiff, yA, yB, reread, yC, yD, yE, yF, yG, yH, Value.cells, yI, yJ, outE, lks, lkR, rdV, neg1, evs, opt, Nat.reduceAdd, Nat.reduceMul, and_self, reduceCtorEq, yK, yL, yM, Value.oneCell', yN, yO, sets, fillL, Nat.reduceLeDiff, yP, yQ, yR, yS, yT, argsE, yU, yV, yW, Int.reduceLT, Int.reduceLE, Int.reduceToNat, Int.reduceEq, Nat.reduceLT, r0, undef_eq]
      refine appK_of (lcheck_app (V.Old (fin _)) (hH.Old (fin _))) ?_
      rintro _ _ ⟨e2, rfl⟩
      rw [e2]
      clear e2
      simp only [↓eD0, ↓eD1, eC0, eC1, eC2, eC3, eC4, eC5, eC6, wantedE, ↓reduceIte, Nat.reduceEqDiff, yA, yB, reread, yC, yD, yE, yF, yG, yH, Value.cells, yI, yJ, outE, lks, lkR, rdV, neg1, evs, opt, Nat.reduceAdd, Nat.reduceMul, and_self, reduceCtorEq, yK, yL, yM, Value.oneCell', yN, yO, sets, fillL, Nat.reduceLeDiff, yP, yQ, yR, yS, yT, argsE, yU, yV, yW, Int.reduceLT, Int.reduceLE, Int.reduceToNat, Int.reduceEq, Nat.reduceLT, r0, undef_eq]
      refine appK_of (check_app (V.Old (fin _)).lg (hG.Old (fin _))) ?_
      rintro _ _ ⟨e2, rfl⟩
      rw [e2]
      clear e2
      simp only [↓eD0, ↓eD1, eC0, eC1, eC2, eC3, eC4, eC5, eC6, wantedE, ↓reduceIte, Nat.reduceEqDiff, yA, yB, reread, yC, yD, yE, yF, yG, yH, Value.cells, yI, yJ, outE, lks, lkR, rdV, neg1, evs, opt, Nat.reduceAdd, Nat.reduceMul, and_self, reduceCtorEq, yK, yL, yM, Value.oneCell', yN, yO, sets, fillL, Nat.reduceLeDiff, yP, yQ, yR, yS, yT, argsE, yU, yV, yW, Int.reduceLT, Int.reduceLE, Int.reduceToNat, Int.reduceEq, Nat.reduceLT, r2, undef_eq]
      refine appK_of (lbegin_app hd hc (hH.Old (fin _))) ?_
      rintro _ _ ⟨e2, rfl⟩
      rw [e2]
      clear e2
      simp only [↓eD0, ↓eD1, eC0, eC1, eC2, eC3, eC4, eC5, eC6, wantedE, ↓reduceIte, Nat.reduceEqDiff, yA, yB, reread, yC, yD, yE, yF, yG, yH, Value.cells, yI, yJ, outE, lks, lkR, rdV, neg1, evs, opt, Nat.reduceAdd, Nat.reduceMul, and_self, reduceCtorEq, yK, yL, yM, Value.oneCell', yN, yO, sets, fillL, Nat.reduceLeDiff, yP, yQ, yR, yS, yT, argsE, yU, yV, yW, Int.reduceLT, Int.reduceLE, Int.reduceToNat, Int.reduceEq, Nat.reduceLT, r2, undef_eq]
      refine appK_of (rbegin_app hd (hG.Old (fin _))) ?_
      rintro _ _ ⟨e2, rfl⟩
      rw [e2]
      clear e2
      simp only [↓eD0, ↓eD1, eC0, eC1, eC2, eC3, eC4, eC5, eC6, wantedE, ↓reduceIte, Nat.reduceEqDiff, yA, yB, reread, yC, yD, yE, yF, yG, yH, Value.cells, yI, yJ, outE, lks, lkR, rdV, neg1, evs, opt, Nat.reduceAdd, Nat.reduceMul, and_self, reduceCtorEq, yK, yL, yM, Value.oneCell', yN, yO, sets, fillL, Nat.reduceLeDiff, yP, yQ, yR, yS, yT, argsE, yU, yV, yW, Int.reduceLT, Int.reduceLE, Int.reduceToNat, Int.reduceEq, Nat.reduceLT, r1, r2, ae0, undef_eq]
      refine appK_of (lnext_app hd hx.1 hx.2.1 hx.2.2.1 hx.2.2.2 hs2 (hH.Old (fin _))) ?_
      rintro _ _ ⟨e2, rfl⟩
      rw [e2]
      clear e2
      simp only [↓eD0, ↓eD1, eC0, eC1, eC2, eC3, eC4, eC5, eC6, wantedE, ↓reduceIte, Nat.reduceEqDiff, yA, yB, reread, yC, yD, yE, yF, yG, yH, Value.cells, yI, yJ, outE, lks, lkR, rdV, neg1, evs, opt, Nat.reduceAdd, Nat.reduceMul, and_self, reduceCtorEq, yK, yL, yM, Value.oneCell', yN, yO, sets, fillL, Nat.reduceLeDiff, yP, yQ, yR, yS, yT, argsE, yU, yV, yW, Int.reduceLT, Int.reduceLE, Int.reduceToNat, Int.reduceEq, Nat.reduceLT, r1, r2, undef_eq]
      refine appK_of (next_digest_app hd hs2 (hG.Old (fin _))) ?_
      rintro _ _ ⟨e2, rfl⟩
      rw [e2]
      clear e2
      simp only [↓eD0, ↓eD1, eC0, eC1, eC2, eC3, eC4, eC5, eC6, wantedE, ↓reduceIte, Nat.reduceEqDiff, yA, yB, reread, yC, yD, yE, yF, yG, yH, Value.cells, yI, yJ, outE, lks, lkR, rdV, neg1, evs, opt, Nat.reduceAdd, Nat.reduceMul, and_self, reduceCtorEq, yK, yL, yM, Value.oneCell', yN, yO, sets, fillL, Nat.reduceLeDiff, yP, yQ, yR, yS, yT, argsE, yU, yV, yW, Int.reduceLT, Int.reduceLE, Int.reduceToNat, Int.reduceEq, Nat.reduceLT, ae1, undef_eq]
      first | exact ⟨fin _, rfl⟩ | exact fin _
end Go.Proofs.YtopnlllipkockaaDoor
