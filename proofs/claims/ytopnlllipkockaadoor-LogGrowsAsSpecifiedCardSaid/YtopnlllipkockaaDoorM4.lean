/- Walks and plain laws. Conditions: none. -/
import Derived.Test.YtopnlllipkockaaDoorBodiesL4
set_option linter.all false
set_option linter.unusedSimpArgs false
set_option linter.unusedVariables false
set_option maxRecDepth 10000
set_option maxHeartbeats 8000000
namespace Go.Proofs.YtopnlllipkockaaDoor
open Go Go.Cn Go.RowKit
attribute [local irreducible] evL sem onG onI onV

theorem app_few {L : Lg} {x : Ent} : (appF L x).1.E.length ≤ L.E.length + 1 ∧ (appF L x).1.S.length ≤ L.S.length := by
  unfold appF
  split
  · simp
  · split <;> simp
theorem seal_few {L : Lg} {key : ByteArray} : (sealS L key).1.E.length ≤ L.E.length ∧ (sealS L key).1.S.length ≤ L.S.length + 1 := by
  unfold sealS
  split
  · simp [Lg.zero]
  · split <;> simp [Lg.zero]
theorem cut_few {L : Lg} {n : Int} : (lcutF L n).1.E.length ≤ L.E.length ∧ (lcutF L n).1.S.length ≤ L.S.length := by
  unfold lcutF
  split
  · simp [Lg.zero]
  · simp only [List.length_take]; omega
theorem same_self {L : Lg} : sameL L L = true := by unfold sameL; simp

theorem law4 {σ : H} {l : List Value} {L : Lg} {a1 a2 : Option Addr} {b1 b2 : Nat} {x : Ent} {key : ByteArray} {n : Int} (h : LgA σ l L a1 b1 a2 b2) (hx : x.raw) (hks : key.size ≤ maxLen) (hni : I64 n) (hH : HGlob σ) (hG : Glob σ) :
    App Tryd.prog (.func 4) #[] #[.agg l.toArray, .agg (entV x).toArray, .string key, .int .i64 n] σ fun v σ' => Old σ σ' ∧ v = .bool true := by
  refine App.of_sem mixed Tryd.func4 t4 k4 r4 (Nat.le_of_ble_eq_true rfl) ?_
  have hl := h.r.l
  have hdl := h.r.d
  obtain ⟨RC, hRC⟩ : ∃ RC, RC = l := ⟨_, rfl⟩
  rw [← hRC] at h hl ⊢
  clear hRC
  have lR : RC.length = 19 := h.r.len
  have tR : RC.take 19 = RC := h.r.take
  rw [← ap_nil (σ := σ)]
  unfold s4
  simp only [↓eD0, ↓eD1, eC0, eC1, eC2, eC3, eC4, eC5, eC6, wantedE, ↓reduceIte, Nat.reduceEqDiff, yA, yB, reread, yC, yD, yE, yF, yG, yH, Value.cells, yI, yJ, outE, lks, lkR, rdV, neg1, evs, opt, Nat.reduceAdd, Nat.reduceMul, and_self, reduceCtorEq, yK, yL, yM, Value.oneCell', yN, yO, sets, fillL, Nat.reduceLeDiff, yP, yQ, yR, yS, yT, argsE, yU, yV, yW, Int.reduceLT, Int.reduceLE, Int.reduceToNat, Int.reduceEq, Nat.reduceLT, lR, tR, entV]
  refine appK_of (law_right_app (h.r.Old .ap) h.cE (hG.Old .ap)) ?_
  rintro _ _ ⟨e2, rfl⟩
  rw [e2]
  clear e2
  have e5 : entV x = [.int .i64 x.kind, .int .i64 x.cpu, .int .i64 x.count, .int .i64 x.n, .string x.data] := rfl
  have fin : ∀ M : List Blk, Old σ (ap σ M) := fun M => .ap
  by_cases hf : lrightF L = true ∧ x.data.size ≤ 600 ∧ key.size ≤ 200
  case neg =>
    have hcs : lrightF L = false ∨ (lrightF L = true ∧ decide ((600 : Int) < (x.data.size : Int)) = true) ∨ (lrightF L = true ∧ decide ((600 : Int) < (x.data.size : Int)) = false ∧ decide ((200 : Int) < (key.size : Int)) = true) := by
      cases h1 : lrightF L
      · exact .inl rfl
      · by_cases h2 : x.data.size ≤ 600
        · refine .inr (.inr ⟨rfl, by rw [decide_eq_false]; omega, ?_⟩)
          rw [decide_eq_true]
          have : ¬key.size ≤ 200 := fun h3 => hf ⟨h1, h2, h3⟩
          omega
        · exact .inr (.inl ⟨rfl, by rw [decide_eq_true]; omega⟩)
    rcases hcs with c1 | ⟨c1, c2⟩ | ⟨c1, c2, c3⟩
    case' inl => simp only [↓eD0, ↓eD1, eC0, eC1, eC2, eC3, eC4, eC5, eC6, wantedE, ↓reduceIte, Nat.reduceEqDiff, yA, yB, reread, yC, yD, yE, yF, yG, yH, Value.cells, yI, yJ, outE, lks, lkR, rdV, neg1, evs, opt, Nat.reduceAdd, Nat.reduceMul, and_self, reduceCtorEq, yK, yL, yM, Value.oneCell', yN, yO, sets, fillL, Nat.reduceLeDiff, yP, yQ, yR, yS, yT, argsE, yU, yV, yW, Int.reduceLT, Int.reduceLE, Int.reduceToNat, Int.reduceEq, Nat.reduceLT, c1, Bool.not_false, undef_eq]
    case' inr.inl => simp only [↓eD0, ↓eD1, eC0, eC1, eC2, eC3, eC4, eC5, eC6, wantedE, ↓reduceIte, Nat.reduceEqDiff, yA, yB, reread, yC, yD, yE, yF, yG, yH, Value.cells, yI, yJ, outE, lks, lkR, rdV, neg1, evs, opt, Nat.reduceAdd, Nat.reduceMul, and_self, reduceCtorEq, yK, yL, yM, Value.oneCell', yN, yO, sets, fillL, Nat.reduceLeDiff, yP, yQ, yR, yS, yT, argsE, yU, yV, yW, Int.reduceLT, Int.reduceLE, Int.reduceToNat, Int.reduceEq, Nat.reduceLT, c1, c2, Bool.not_true, undef_eq]
    case' inr.inr => simp only [↓eD0, ↓eD1, eC0, eC1, eC2, eC3, eC4, eC5, eC6, wantedE, ↓reduceIte, Nat.reduceEqDiff, yA, yB, reread, yC, yD, yE, yF, yG, yH, Value.cells, yI, yJ, outE, lks, lkR, rdV, neg1, evs, opt, Nat.reduceAdd, Nat.reduceMul, and_self, reduceCtorEq, yK, yL, yM, Value.oneCell', yN, yO, sets, fillL, Nat.reduceLeDiff, yP, yQ, yR, yS, yT, argsE, yU, yV, yW, Int.reduceLT, Int.reduceLE, Int.reduceToNat, Int.reduceEq, Nat.reduceLT, c1, c2, c3, Bool.not_true, undef_eq]
    all_goals
      refine appK_of (sanity_app (hH.Old (fin _))) ?_
      rintro _ _ ⟨e2, rfl⟩
      rw [e2]
      clear e2
      simp only [↓eD0, ↓eD1, eC0, eC1, eC2, eC3, eC4, eC5, eC6, wantedE, ↓reduceIte, Nat.reduceEqDiff, yA, yB, reread, yC, yD, yE, yF, yG, yH, Value.cells, yI, yJ, outE, lks, lkR, rdV, neg1, evs, opt, Nat.reduceAdd, Nat.reduceMul, and_self, reduceCtorEq, yK, yL, yM, Value.oneCell', yN, yO, sets, fillL, Nat.reduceLeDiff, yP, yQ, yR, yS, yT, argsE, yU, yV, yW, Int.reduceLT, Int.reduceLE, Int.reduceToNat, Int.reduceEq, Nat.reduceLT, undef_eq]
      rw [ap_nil]
      first | exact ⟨fin _, rfl⟩ | exact fin _
  obtain ⟨c1, f2, f3⟩ := hf
  have c2 : decide ((600 : Int) < (x.data.size : Int)) = false := by rw [decide_eq_false]; omega
  have c3 : decide ((200 : Int) < (key.size : Int)) = false := by rw [decide_eq_false]; omega
  have c1' := c1
  unfold lrightF at c1'
  rw [Bool.and_eq_true] at c1'
  obtain ⟨g1, g2⟩ := c1'
  have hgood := good_iff.1 (of_decide_eq_true g2)
  have V := h.v g1
  have xfit : x.fit := ⟨hx.1, hx.2.1, hx.2.2.1, hx.2.2.2, by omega⟩
  have hks2 : key.size < 100000000000 := by omega
  simp only [↓eD0, ↓eD1, eC0, eC1, eC2, eC3, eC4, eC5, eC6, wantedE, ↓reduceIte, Nat.reduceEqDiff, yA, yB, reread, yC, yD, yE, yF, yG, yH, Value.cells, yI, yJ, outE, lks, lkR, rdV, neg1, evs, opt, Nat.reduceAdd, Nat.reduceMul, and_self, reduceCtorEq, yK, yL, yM, Value.oneCell', yN, yO, sets, fillL, Nat.reduceLeDiff, yP, yQ, yR, yS, yT, argsE, yU, yV, yW, Int.reduceLT, Int.reduceLE, Int.reduceToNat, Int.reduceEq, Nat.reduceLT, c1, c2, c3, Bool.not_true, lR, tR, undef_eq]
  rw [← e5]
  generalize hT : ap σ [.cells 0 RC (0, 0), .cells 0 (entV x) (0, 0)] = T
  have oT : Old σ T := by rw [← hT]; exact .ap
  have q0 : T[σ.size]? = some (.cells 0 RC (0, 0)) := by rw [← hT, ap_new0]; rfl
  have q1 : T[σ.size + 1]? = some (.cells 0 (entV x) (0, 0)) := by rw [← hT, ap_new]; rfl
  have V := V.Old oT
  have hG := hG.Old oT
  have hH := hH.Old oT
  refine appK_of (lappend_app V xfit hgood.c4 hgood.r) ?_
  rintro v τ ⟨ho, l1, a1', b1', rfl, V1, -⟩
  rw [← ap_nil (σ := τ)]
  have r0 : ∀ M, rdN (ap τ M) ⟨σ.size, 0, none⟩ 19 = some RC := fun M => rdb_of q0 (ho.trans .ap) lR
  simp only [↓eD0, ↓eD1, eC0, eC1, eC2, eC3, eC4, eC5, eC6, wantedE, ↓reduceIte, Nat.reduceEqDiff, yA, yB, reread, yC, yD, yE, yF, yG, yH, Value.cells, yI, yJ, outE, lks, lkR, rdV, neg1, evs, opt, Nat.reduceAdd, Nat.reduceMul, and_self, reduceCtorEq, yK, yL, yM, Value.oneCell', yN, yO, sets, fillL, Nat.reduceLeDiff, yP, yQ, yR, yS, yT, argsE, yU, yV, yW, Int.reduceLT, Int.reduceLE, Int.reduceToNat, Int.reduceEq, Nat.reduceLT, V1.len, V1.sets, V1.take, V1.one, V1.ne, r0, undef_eq]
  generalize hT1 : ap τ [.cells 1 l1 (0, 0)] = T1
  have o1 : Old T T1 := ho.trans (by rw [← hT1]; exact .ap)
  have B1 : T1[τ.size]? = some (.cells 1 l1 (0, 0)) := by rw [← hT1, ap_new0]; rfl
  have R1 := V1.r.Old (show Old τ T1 by rw [← hT1]; exact .ap)
  have L1 := V1.len
  clear V1 hT1 r0
  refine appK_of (lseal_app (key := key) (V.Old o1) hks2 (hH.Old o1)) ?_
  rintro v τ2 ⟨ho2, l2, _, _, _, _, rfl, V2, -, -, -⟩
  rw [← ap_nil (σ := τ2)]
  have r0 : ∀ M, rdN (ap τ2 M) ⟨σ.size, 0, none⟩ 19 = some RC := fun M => rdb_of q0 ((o1.trans ho2).trans .ap) lR
  simp only [↓eD0, ↓eD1, eC0, eC1, eC2, eC3, eC4, eC5, eC6, wantedE, ↓reduceIte, Nat.reduceEqDiff, yA, yB, reread, yC, yD, yE, yF, yG, yH, Value.cells, yI, yJ, outE, lks, lkR, rdV, neg1, evs, opt, Nat.reduceAdd, Nat.reduceMul, and_self, reduceCtorEq, yK, yL, yM, Value.oneCell', yN, yO, sets, fillL, Nat.reduceLeDiff, yP, yQ, yR, yS, yT, argsE, yU, yV, yW, Int.reduceLT, Int.reduceLE, Int.reduceToNat, Int.reduceEq, Nat.reduceLT, V2.len, V2.sets, V2.take, V2.one, V2.ne, r0, undef_eq]
  generalize hT2 : ap τ2 [.cells 1 l2 (0, 0)] = T2
  have o2' : Old T1 T2 := ho2.trans (by rw [← hT2]; exact .ap)
  have o2 : Old T T2 := o1.trans o2'
  have B2 : T2[τ2.size]? = some (.cells 1 l2 (0, 0)) := by rw [← hT2, ap_new0]; rfl
  have R2 := V2.Old (show Old τ2 T2 by rw [← hT2]; exact .ap)
  have L2 := V2.len
  clear V2 hT2 r0
  refine appK_of (lsealed_app (key := key) (V.Old o2) hks2 (hH.Old o2)) ?_
  rintro _ _ ⟨e2, rfl⟩
  rw [e2]
  clear e2
  have r0 : rdN T2 ⟨σ.size, 0, none⟩ 19 = some RC := rdb_of q0 o2 lR
  simp only [↓eD0, ↓eD1, eC0, eC1, eC2, eC3, eC4, eC5, eC6, wantedE, ↓reduceIte, Nat.reduceEqDiff, yA, yB, reread, yC, yD, yE, yF, yG, yH, Value.cells, yI, yJ, outE, lks, lkR, rdV, neg1, evs, opt, Nat.reduceAdd, Nat.reduceMul, and_self, reduceCtorEq, yK, yL, yM, Value.oneCell', yN, yO, sets, fillL, Nat.reduceLeDiff, yP, yQ, yR, yS, yT, argsE, yU, yV, yW, Int.reduceLT, Int.reduceLE, Int.reduceToNat, Int.reduceEq, Nat.reduceLT, r0, undef_eq]
  refine appK_of (lcut_app (n := n) (V.Old o2)) ?_
  rintro v τ3 ⟨ho3, l3, _, _, _, _, rfl, V3, -, -, -⟩
  rw [← ap_nil (σ := τ3)]
  have r0 : ∀ M, rdN (ap τ3 M) ⟨σ.size, 0, none⟩ 19 = some RC := fun M => rdb_of q0 ((o2.trans ho3).trans .ap) lR
  simp only [↓eD0, ↓eD1, eC0, eC1, eC2, eC3, eC4, eC5, eC6, wantedE, ↓reduceIte, Nat.reduceEqDiff, yA, yB, reread, yC, yD, yE, yF, yG, yH, Value.cells, yI, yJ, outE, lks, lkR, rdV, neg1, evs, opt, Nat.reduceAdd, Nat.reduceMul, and_self, reduceCtorEq, yK, yL, yM, Value.oneCell', yN, yO, sets, fillL, Nat.reduceLeDiff, yP, yQ, yR, yS, yT, argsE, yU, yV, yW, Int.reduceLT, Int.reduceLE, Int.reduceToNat, Int.reduceEq, Nat.reduceLT, V3.len, V3.sets, V3.take, V3.one, V3.ne, r0, undef_eq]
  generalize hT3 : ap τ3 [.cells 1 l3 (0, 0)] = T3
  have o3' : Old T2 T3 := ho3.trans (by rw [← hT3]; exact .ap)
  have o3 : Old T T3 := o2.trans o3'
  have B3 : T3[τ3.size]? = some (.cells 1 l3 (0, 0)) := by rw [← hT3, ap_new0]; rfl
  have R3 := V3.Old (show Old τ3 T3 by rw [← hT3]; exact .ap)
  have L3 := V3.len
  clear V3 hT3 r0
  refine appK_of (ldigest_app (n := n) (V.Old o3) (hH.Old o3)) ?_
  rintro _ _ ⟨e2, rfl⟩
  rw [e2]
  clear e2
  obtain ⟨D, hD⟩ : ∃ D, D = digestF L n := ⟨_, rfl⟩
  have lD : D.1.length = 16 := by
    rw [hD]; unfold digestF
    split
    · exact chainF_len
    · rfl
  rw [← hD]
  have td := digC_take (l := D.1) lD
  have ud := digC_sets (z := List.replicate 16 0) (l := D.1) (by simp [lD])
  have md := digC_ne' (l := D.1) lD (by omega)
  rw [← ap_nil (σ := T3)]
  have r0 : ∀ M, rdN (ap T3 M) ⟨σ.size, 0, none⟩ 19 = some RC := fun M => rdb_of q0 (o3.trans .ap) lR
  have r1 : ∀ M, rdN (ap T3 M) ⟨σ.size + 1, 0, none⟩ 5 = some (entV x) := fun M => rdb_of q1 (o3.trans .ap) rfl
  simp only [↓eD0, ↓eD1, eC0, eC1, eC2, eC3, eC4, eC5, eC6, wantedE, ↓reduceIte, Nat.reduceEqDiff, yA, yB, reread, yC, yD, yE, yF, yG, yH, Value.cells, yI, yJ, outE, lks, lkR, rdV, neg1, evs, opt, Nat.reduceAdd, Nat.reduceMul, and_self, reduceCtorEq, yK, yL, yM, Value.oneCell', yN, yO, sets, fillL, Nat.reduceLeDiff, yP, yQ, yR, yS, yT, argsE, yU, yV, yW, Int.reduceLT, Int.reduceLE, Int.reduceToNat, Int.reduceEq, Nat.reduceLT, digC_rep, digC_length, lD, td, ud, md, digC_one, List.length_replicate, r0, r1, undef_eq]
  generalize hT4 : ap T3 [.cells 1 (digC D.1) (0, 0)] = T4
  have o4' : Old T3 T4 := by rw [← hT4]; exact .ap
  have o4 : Old T T4 := o3.trans o4'
  have B4 : T4[T3.size]? = some (.cells 1 (digC D.1) (0, 0)) := by rw [← hT4, ap_new0]; rfl
  clear hT4 r0 r1
  refine appK_of (rappend_app (e := x) (V.Old o4).r V.fit.n) ?_
  rintro v τ5 ⟨ho5, l5, _, _, rfl, V5⟩
  rw [← ap_nil (σ := τ5)]
  have r0 : ∀ M, rdN (ap τ5 M) ⟨σ.size, 0, none⟩ 19 = some RC := fun M => rdb_of q0 ((o4.trans ho5).trans .ap) lR
  have s5 : ∀ z : List Value, z.length = 21 → sets z 0 (l5 ++ [.int .i64 0, .int .i64 (appF L x).2]) = l5 ++ [.int .i64 0, .int .i64 (appF L x).2] := fun z hz => did_sets V5.len hz
  simp only [↓eD0, ↓eD1, eC0, eC1, eC2, eC3, eC4, eC5, eC6, wantedE, ↓reduceIte, Nat.reduceEqDiff, yA, yB, reread, yC, yD, yE, yF, yG, yH, Value.cells, yI, yJ, outE, lks, lkR, rdV, neg1, evs, opt, Nat.reduceAdd, Nat.reduceMul, and_self, reduceCtorEq, yK, yL, yM, Value.oneCell', yN, yO, sets, fillL, Nat.reduceLeDiff, yP, yQ, yR, yS, yT, argsE, yU, yV, yW, Int.reduceLT, Int.reduceLE, Int.reduceToNat, Int.reduceEq, Nat.reduceLT, did_len V5.len, did_take V5.len, did_ne, did_one V5.one, s5, r0, undef_eq]
  generalize hT5 : ap τ5 [.cells 1 (l5 ++ [.int .i64 0, .int .i64 (appF L x).2]) (0, 0)] = T5
  have o5' : Old T4 T5 := ho5.trans (by rw [← hT5]; exact .ap)
  have o5 : Old T T5 := o4.trans o5'
  have B5 : T5[τ5.size]? = some (.cells 1 (l5 ++ [.int .i64 0, .int .i64 (appF L x).2]) (0, 0)) := by rw [← hT5, ap_new0]; rfl
  have R5 := V5.Old (show Old τ5 T5 by rw [← hT5]; exact .ap)
  have L5 := V5.len
  clear V5 hT5 r0 s5
  refine appK_of (rseal_app (key := key) (V.Old o5) hks2 (hG.Old o5)) ?_
  rintro v τ6 ⟨ho6, l6, _, _, _, _, rfl, V6⟩
  rw [← ap_nil (σ := τ6)]
  have r0 : ∀ M, rdN (ap τ6 M) ⟨σ.size, 0, none⟩ 19 = some RC := fun M => rdb_of q0 ((o5.trans ho6).trans .ap) lR
  have s5 : ∀ z : List Value, z.length = 21 → sets z 0 (l6 ++ [.int .i64 0, .int .i64 (sealS L key).2]) = l6 ++ [.int .i64 0, .int .i64 (sealS L key).2] := fun z hz => did_sets V6.len hz
  simp only [↓eD0, ↓eD1, eC0, eC1, eC2, eC3, eC4, eC5, eC6, wantedE, ↓reduceIte, Nat.reduceEqDiff, yA, yB, reread, yC, yD, yE, yF, yG, yH, Value.cells, yI, yJ, outE, lks, lkR, rdV, neg1, evs, opt, Nat.reduceAdd, Nat.reduceMul, and_self, reduceCtorEq, yK, yL, yM, Value.oneCell', yN, yO, sets, fillL, Nat.reduceLeDiff, yP, yQ, yR, yS, yT, argsE, yU, yV, yW, Int.reduceLT, Int.reduceLE, Int.reduceToNat, Int.reduceEq, Nat.reduceLT, did_len V6.len, did_take V6.len, did_ne, did_one V6.one, s5, r0, undef_eq]
  generalize hT6 : ap τ6 [.cells 1 (l6 ++ [.int .i64 0, .int .i64 (sealS L key).2]) (0, 0)] = T6
  have o6' : Old T5 T6 := ho6.trans (by rw [← hT6]; exact .ap)
  have o6 : Old T T6 := o5.trans o6'
  have B6 : T6[τ6.size]? = some (.cells 1 (l6 ++ [.int .i64 0, .int .i64 (sealS L key).2]) (0, 0)) := by rw [← hT6, ap_new0]; rfl
  have R6 := V6.Old (show Old τ6 T6 by rw [← hT6]; exact .ap)
  have L6 := V6.len
  clear V6 hT6 r0 s5
  refine appK_of (rsealed_app (key := key) (V.Old o6) hks2 (hG.Old o6)) ?_
  rintro v τ7 ⟨ho7, rfl⟩
  rw [← ap_nil (σ := τ7)]
  have r0 : ∀ M, rdN (ap τ7 M) ⟨σ.size, 0, none⟩ 19 = some RC := fun M => rdb_of q0 ((o6.trans ho7).trans .ap) lR
  have lz : zeroL.length = 19 := rfl
  have oz : zeroL.all Value.oneCell' = true := rfl
  have s5 : ∀ z : List Value, z.length = 21 → sets z 0 (zeroL ++ [.int .i64 (lsealedF L key).1, .int .i64 (lsealedF L key).2]) = zeroL ++ [.int .i64 (lsealedF L key).1, .int .i64 (lsealedF L key).2] := fun z hz => did_sets lz hz
  simp only [↓eD0, ↓eD1, eC0, eC1, eC2, eC3, eC4, eC5, eC6, wantedE, ↓reduceIte, Nat.reduceEqDiff, yA, yB, reread, yC, yD, yE, yF, yG, yH, Value.cells, yI, yJ, outE, lks, lkR, rdV, neg1, evs, opt, Nat.reduceAdd, Nat.reduceMul, and_self, reduceCtorEq, yK, yL, yM, Value.oneCell', yN, yO, sets, fillL, Nat.reduceLeDiff, yP, yQ, yR, yS, yT, argsE, yU, yV, yW, Int.reduceLT, Int.reduceLE, Int.reduceToNat, Int.reduceEq, Nat.reduceLT, did_len lz, did_take lz, did_ne, did_one oz, s5, r0, undef_eq]
  generalize hT7 : ap τ7 [.cells 1 (zeroL ++ [.int .i64 (lsealedF L key).1, .int .i64 (lsealedF L key).2]) (0, 0)] = T7
  have o7' : Old T6 T7 := ho7.trans (by rw [← hT7]; exact .ap)
  have o7 : Old T T7 := o6.trans o7'
  have B7 : T7[τ7.size]? = some (.cells 1 (zeroL ++ [.int .i64 (lsealedF L key).1, .int .i64 (lsealedF L key).2]) (0, 0)) := by rw [← hT7, ap_new0]; rfl
  clear hT7 r0 s5
  refine appK_of (rcut_app (n := n) (V.Old o7).lg) ?_
  rintro v τ8 ⟨ho8, l8, rfl, V8, -⟩
  obtain ⟨_, _, _, _, V8⟩ := V8.r
  rw [rcut_eq hgood] at V8 ⊢
  rw [← ap_nil (σ := τ8)]
  have s5 : ∀ z : List Value, z.length = 21 → sets z 0 (l8 ++ [.int .i64 0, .int .i64 (lcutF L n).2]) = l8 ++ [.int .i64 0, .int .i64 (lcutF L n).2] := fun z hz => did_sets V8.len hz
  have r1 : ∀ M, rdN (ap τ8 M) ⟨τ.size, 0, none⟩ 19 = some l1 := fun M => rdb_of B1 (((((((o2'.trans o3').trans o4').trans o5').trans o6').trans o7').trans ho8).trans .ap) L1
  have r5 : ∀ M, rdN (ap τ8 M) ⟨τ5.size, 0, none⟩ 19 = some l5 := fun M => rdp_of B5 (((o6'.trans o7').trans ho8).trans .ap) L5 (by omega)
  simp only [↓eD0, ↓eD1, eC0, eC1, eC2, eC3, eC4, eC5, eC6, wantedE, ↓reduceIte, Nat.reduceEqDiff, yA, yB, reread, yC, yD, yE, yF, yG, yH, Value.cells, yI, yJ, outE, lks, lkR, rdV, neg1, evs, opt, Nat.reduceAdd, Nat.reduceMul, and_self, reduceCtorEq, yK, yL, yM, Value.oneCell', yN, yO, sets, fillL, Nat.reduceLeDiff, yP, yQ, yR, yS, yT, argsE, yU, yV, yW, Int.reduceLT, Int.reduceLE, Int.reduceToNat, Int.reduceEq, Nat.reduceLT, did_len V8.len, did_take V8.len, did_ne, did_one V8.one, s5, r1, r5, undef_eq]
  generalize hT8 : ap τ8 [.cells 1 (l8 ++ [.int .i64 0, .int .i64 (lcutF L n).2]) (0, 0)] = T8
  have o8' : Old T7 T8 := ho8.trans (by rw [← hT8]; exact .ap)
  have B8 : T8[τ8.size]? = some (.cells 1 (l8 ++ [.int .i64 0, .int .i64 (lcutF L n).2]) (0, 0)) := by rw [← hT8, ap_new0]; rfl
  have R8 := V8.Old (show Old τ8 T8 by rw [← hT8]; exact .ap)
  have L8 := V8.len
  clear V8 hT8 s5 r1 r5
  have p7 := o7'.trans o8'
  have p6 := o6'.trans p7
  have p5 := o5'.trans p6
  have p4 := o4'.trans p5
  have p3 := o3'.trans p4
  have p2 := o2'.trans p3
  have p0 := o1.trans p2
  have hfn := V.fit.n
  have hfs := V.nS
  obtain ⟨n1, m1⟩ := app_few (L := L) (x := x)
  obtain ⟨n2, m2⟩ := seal_few (L := L) (key := key)
  obtain ⟨n3, m3⟩ := cut_few (L := L) (n := n)
  obtain ⟨k1, k2, k3⟩ := few_data g1
  refine appK_of (same_app (R1.Old p2) (R5.Old p6) (by omega) (by omega)) ?_
  rintro _ _ ⟨e2, rfl⟩
  rw [e2, same_self]
  clear e2
  have d5 : rd1 T8 ⟨τ5.size, 20, none⟩ = some (.int .i64 (appF L x).2) := rd1_of B5 p6 (did_20 L5)
  have r2 : rdN T8 ⟨τ2.size, 0, none⟩ 19 = some l2 := rdb_of B2 p3 L2
  have r6 : rdN T8 ⟨τ6.size, 0, none⟩ 19 = some l6 := rdp_of B6 p7 L6 (by omega)
  simp only [↓eD0, ↓eD1, eC0, eC1, eC2, eC3, eC4, eC5, eC6, wantedE, ↓reduceIte, Nat.reduceEqDiff, yA, yB, reread, yC, yD, yE, yF, yG, yH, Value.cells, yI, yJ, outE, lks, lkR, rdV, neg1, evs, opt, Nat.reduceAdd, Nat.reduceMul, and_self, reduceCtorEq, yK, yL, yM, Value.oneCell', yN, yO, sets, fillL, Nat.reduceLeDiff, yP, yQ, yR, yS, yT, argsE, yU, yV, yW, Int.reduceLT, Int.reduceLE, Int.reduceToNat, Int.reduceEq, Nat.reduceLT, Bool.not_true, d5, r2, r6, undef_eq]
  refine appK_of (same_app (R2.Old p3) (R6.Old p7) (by omega) (by omega)) ?_
  rintro _ _ ⟨e2, rfl⟩
  rw [e2, same_self]
  clear e2
  have d6 : rd1 T8 ⟨τ6.size, 20, none⟩ = some (.int .i64 (sealS L key).2) := rd1_of B6 p7 (did_20 L6)
  have d7 : rd1 T8 ⟨τ7.size, 19, none⟩ = some (.int .i64 (lsealedF L key).1) := rd1_of B7 o8' (did_19 rfl)
  have d7' : rd1 T8 ⟨τ7.size, 20, none⟩ = some (.int .i64 (lsealedF L key).2) := rd1_of B7 o8' (did_20 rfl)
  have r3 : rdN T8 ⟨τ3.size, 0, none⟩ 19 = some l3 := rdb_of B3 p4 L3
  have r8 : rdN T8 ⟨τ8.size, 0, none⟩ 19 = some l8 := rdp_of B8 ⟨Nat.le_refl _, fun _ _ => rfl⟩ L8 (by omega)
  simp only [↓eD0, ↓eD1, eC0, eC1, eC2, eC3, eC4, eC5, eC6, wantedE, ↓reduceIte, Nat.reduceEqDiff, yA, yB, reread, yC, yD, yE, yF, yG, yH, Value.cells, yI, yJ, outE, lks, lkR, rdV, neg1, evs, opt, Nat.reduceAdd, Nat.reduceMul, and_self, reduceCtorEq, yK, yL, yM, Value.oneCell', yN, yO, sets, fillL, Nat.reduceLeDiff, yP, yQ, yR, yS, yT, argsE, yU, yV, yW, Int.reduceLT, Int.reduceLE, Int.reduceToNat, Int.reduceEq, Nat.reduceLT, Bool.not_true, d6, d7, d7', r3, r8, undef_eq]
  refine appK_of (same_app (R3.Old p4) R8 (by omega) (by omega)) ?_
  rintro _ _ ⟨e2, rfl⟩
  rw [e2, same_self]
  clear e2
  have d8 : rd1 T8 ⟨τ8.size, 20, none⟩ = some (.int .i64 (lcutF L n).2) := rd1_of B8 ⟨Nat.le_refl _, fun _ _ => rfl⟩ (did_20 L8)
  have r0 : rdN T8 ⟨σ.size, 0, none⟩ 19 = some RC := rdb_of q0 p0 lR
  have d0 : rd1 T8 ⟨σ.size, 17, none⟩ = some (.slice a1 L.E.length b1) := rd1_of q0 p0 V.c17
  simp only [↓eD0, ↓eD1, eC0, eC1, eC2, eC3, eC4, eC5, eC6, wantedE, ↓reduceIte, Nat.reduceEqDiff, yA, yB, reread, yC, yD, yE, yF, yG, yH, Value.cells, yI, yJ, outE, lks, lkR, rdV, neg1, evs, opt, Nat.reduceAdd, Nat.reduceMul, and_self, reduceCtorEq, yK, yL, yM, Value.oneCell', yN, yO, sets, fillL, Nat.reduceLeDiff, yP, yQ, yR, yS, yT, argsE, yU, yV, yW, Int.reduceLT, Int.reduceLE, Int.reduceToNat, Int.reduceEq, Nat.reduceLT, Bool.not_true, d8, undef_eq]
  have r4 : ∀ M, rdN (ap T8 M) ⟨T3.size, 0, none⟩ 16 = some (digC D.1) := fun M => rdb_of B4 (p5.trans .ap) (by rw [digC_length, lD])
  have oF : Old σ T8 := oT.trans p0
  by_cases hin : 0 ≤ n ∧ n ≤ (L.E.length : Int)
  case neg =>
    have hD' : D = (List.replicate 16 0, 1) := by rw [hD]; exact if_neg hin
    have D1 : D.1 = List.replicate 16 0 := by rw [hD']
    have D2 : D.2 = 1 := by rw [hD']
    have ae := aggEq_dig (n := 16) (a := List.replicate 16 0) (b := List.replicate 16 0) rfl rfl
    rw [decide_eq_true rfl] at ae
    have xz := digC_take (l := List.replicate 16 0) rfl
    have hcs : decide (n < 0) = true ∨ (decide (n < 0) = false ∧ decide ((L.E.length : Int) < n) = true) := by
      by_cases h1 : n < 0
      · exact .inl (decide_eq_true h1)
      · exact .inr ⟨decide_eq_false h1, by rw [decide_eq_true]; omega⟩
    rw [D1] at r4
    rcases hcs with c1 | ⟨c1, c2⟩
    case' inl => simp only [↓eD0, ↓eD1, eC0, eC1, eC2, eC3, eC4, eC5, eC6, wantedE, ↓reduceIte, Nat.reduceEqDiff, yA, yB, reread, yC, yD, yE, yF, yG, yH, Value.cells, yI, yJ, outE, lks, lkR, rdV, neg1, evs, opt, Nat.reduceAdd, Nat.reduceMul, and_self, reduceCtorEq, yK, yL, yM, Value.oneCell', yN, yO, sets, fillL, Nat.reduceLeDiff, yP, yQ, yR, yS, yT, argsE, yU, yV, yW, Int.reduceLT, Int.reduceLE, Int.reduceToNat, Int.reduceEq, Nat.reduceLT, c1, undef_eq]
    case' inr => simp only [↓eD0, ↓eD1, eC0, eC1, eC2, eC3, eC4, eC5, eC6, wantedE, ↓reduceIte, Nat.reduceEqDiff, yA, yB, reread, yC, yD, yE, yF, yG, yH, Value.cells, yI, yJ, outE, lks, lkR, rdV, neg1, evs, opt, Nat.reduceAdd, Nat.reduceMul, and_self, reduceCtorEq, yK, yL, yM, Value.oneCell', yN, yO, sets, fillL, Nat.reduceLeDiff, yP, yQ, yR, yS, yT, argsE, yU, yV, yW, Int.reduceLT, Int.reduceLE, Int.reduceToNat, Int.reduceEq, Nat.reduceLT, c1, c2, d0, undef_eq]
    all_goals
      refine appK_of (sanity_app (hH.Old p0)) ?_
      rintro _ _ ⟨e2, rfl⟩
      rw [e2]
      clear e2
      rw [← ap_nil (σ := T8)]
      simp only [↓eD0, ↓eD1, eC0, eC1, eC2, eC3, eC4, eC5, eC6, wantedE, ↓reduceIte, Nat.reduceEqDiff, yA, yB, reread, yC, yD, yE, yF, yG, yH, Value.cells, yI, yJ, outE, lks, lkR, rdV, neg1, evs, opt, Nat.reduceAdd, Nat.reduceMul, and_self, reduceCtorEq, yK, yL, yM, Value.oneCell', yN, yO, sets, fillL, Nat.reduceLeDiff, yP, yQ, yR, yS, yT, argsE, yU, yV, yW, Int.reduceLT, Int.reduceLE, Int.reduceToNat, Int.reduceEq, Nat.reduceLT, D2, r4, digC_rep, digC_length, List.length_replicate, xz, ae, undef_eq]
      rw [ap_nil]
      first | exact ⟨oF, rfl⟩ | exact oF
  have hD' : D = (chainF L.d L.c L.E n.toNat, 0) := by rw [hD]; exact if_pos hin
  have D1 : D.1 = chainF L.d L.c L.E n.toNat := by rw [hD']
  have D2 : D.2 = 0 := by rw [hD']
  have c1 : decide (n < 0) = false := by rw [decide_eq_false]; omega
  have c2 : decide ((L.E.length : Int) < n) = false := by rw [decide_eq_false]; omega
  obtain ⟨N, rfl⟩ : ∃ N : Nat, n = (N : Int) := ⟨n.toNat, by omega⟩
  rw [D1, Int.toNat_natCast] at r4
  have r4' := r4 []
  rw [ap_nil] at r4'
  simp only [↓eD0, ↓eD1, eC0, eC1, eC2, eC3, eC4, eC5, eC6, wantedE, ↓reduceIte, Nat.reduceEqDiff, yA, yB, reread, yC, yD, yE, yF, yG, yH, Value.cells, yI, yJ, outE, lks, lkR, rdV, neg1, evs, opt, Nat.reduceAdd, Nat.reduceMul, and_self, reduceCtorEq, yK, yL, yM, Value.oneCell', yN, yO, sets, fillL, Nat.reduceLeDiff, yP, yQ, yR, yS, yT, argsE, yU, yV, yW, Int.reduceLT, Int.reduceLE, Int.reduceToNat, Int.reduceEq, Nat.reduceLT, c1, c2, d0, undef_eq]
  refine appK_of (sanity_app (hH.Old p0)) ?_
  rintro _ _ ⟨e2, rfl⟩
  rw [e2]
  clear e2
  simp only [↓eD0, ↓eD1, eC0, eC1, eC2, eC3, eC4, eC5, eC6, wantedE, ↓reduceIte, Nat.reduceEqDiff, yA, yB, reread, yC, yD, yE, yF, yG, yH, Value.cells, yI, yJ, outE, lks, lkR, rdV, neg1, evs, opt, Nat.reduceAdd, Nat.reduceMul, and_self, reduceCtorEq, yK, yL, yM, Value.oneCell', yN, yO, sets, fillL, Nat.reduceLeDiff, yP, yQ, yR, yS, yT, argsE, yU, yV, yW, Int.reduceLT, Int.reduceLE, Int.reduceToNat, Int.reduceEq, Nat.reduceLT, D2, r4', r0, undef_eq]
  refine appK_of (chain_app (n := N) (V.Old p0).lg (by omega) (fun e he => (V.fit.E e he).2.2.2.2) (hG.Old p0)) ?_
  rintro _ _ ⟨e2, rfl⟩
  rw [e2]
  clear e2
  have ae := aggEq_dig (a := chainF L.d L.c L.E N) (b := chainF L.d L.c L.E N) chainF_len chainF_len
  rw [decide_eq_true rfl] at ae
  simp only [↓eD0, ↓eD1, eC0, eC1, eC2, eC3, eC4, eC5, eC6, wantedE, ↓reduceIte, Nat.reduceEqDiff, yA, yB, reread, yC, yD, yE, yF, yG, yH, Value.cells, yI, yJ, outE, lks, lkR, rdV, neg1, evs, opt, Nat.reduceAdd, Nat.reduceMul, and_self, reduceCtorEq, yK, yL, yM, Value.oneCell', yN, yO, sets, fillL, Nat.reduceLeDiff, yP, yQ, yR, yS, yT, argsE, yU, yV, yW, Int.reduceLT, Int.reduceLE, Int.reduceToNat, Int.reduceEq, Nat.reduceLT, r4', ae, undef_eq]
  first | exact ⟨oF, rfl⟩ | exact oF
end Go.Proofs.YtopnlllipkockaaDoor
