/- Walks and plain laws. Conditions: none. -/
import Derived.Test.YtopnlllipkockaaDoorBodiesL6
set_option linter.all false
set_option linter.unusedSimpArgs false
set_option linter.unusedVariables false
set_option maxRecDepth 10000
set_option maxHeartbeats 8000000
namespace Go.Proofs.YtopnlllipkockaaDoor
open Go Go.Cn Go.RowKit
attribute [local irreducible] evL sem onG onI onV

theorem put16 {θ : H} {b ver : Nat} {c d : List Int} (hc : c.length = 16) (hd : d.length = 16) (h : θ[b]? = some (.cells ver (digC c) (0, 0))) : wrN θ ⟨b, 0, none⟩ (digC d) = some (θ.setIfInBounds b (.cells (ver + 1) (digC d) (0, 0))) := by
  rw [wrN_eq, if_neg (by rw [digC_ne hd]; exact id), h, wrc_cells, if_pos ⟨by rw [digC_len hc, digC_len hd]; show 0 + 16 ≤ 16; omega, digC_one⟩]
  rw [show sets (digC c) (⟨b, 0, none⟩ : Addr).off (digC d) = digC d from digC_sets (by rw [hc, hd])]
  rfl
theorem LgV.at {σ : H} {l : List Value} {L : Lg} {a1 a2 : Option Addr} {b1 b2 i : Nat} (h : LgV σ l L a1 b1 a2 b2) (hi : i < L.E.length) : ∃ b off, a1 = some ⟨b, off, none⟩ ∧ rdN σ ⟨b, off + i * 5, none⟩ 5 = some (entV L.E[i]) := by
  have hx : (L.E.map entV)[i]? = some (entV L.E[i]) := by simp [hi]
  obtain ⟨b, off, h1, h2⟩ := h.E.at hx
  exact ⟨b, off, h1, h2⟩

theorem colF_mono {A B : Lg} {m n : Nat} (h : m ≤ n) (hm : colF A B m = true) : colF A B n = true := by
  induction n with
  | zero => rwa [show m = 0 by omega] at hm
  | succ n ih =>
    rcases Nat.lt_or_ge n m with h1 | h1
    · rwa [show m = n + 1 by omega] at hm
    · rw [colF, ih h1]; rfl
theorem coll_app {σ : H} {la lb : List Value} {A B : Lg} {a1 a2 p1 p2 : Option Addr} {b1 b2 q1 q2 n : Nat} (ha : LgV σ la A a1 b1 a2 b2) (hb : LgV σ lb B p1 q1 p2 q2) (hn1 : n ≤ A.E.length) (hn2 : n ≤ B.E.length) (hG : HGlob σ) :
    App Tryd.prog (.func 33) #[] #[.agg la.toArray, .agg lb.toArray, .int .i64 (n : Int)] σ fun v σ' => σ' = σ ∧ v = .bool (colF A B n) := by
  refine App.forget (App.of_sem mixed Tryd.func33 t33 k33 r33 (Nat.le_of_ble_eq_true rfl) ?_)
  have hda := ha.fit.d
  have hdb := hb.fit.d
  have hnA := ha.fit.n
  have dA : la.take 16 = digC A.d := by rw [ha.l]; exact rec_take16 hda
  have dB : lb.take 16 = digC B.d := by rw [hb.l]; exact rec_take16 hdb
  have cA := ha.c16
  have cB := hb.c16
  have lA := ha.len
  have lB := hb.len
  rw [← ap_nil (σ := σ)]
  unfold s33
  have l16 : ∀ d : List Int, d.length = 16 → (digC d).length = 16 := fun d h => digC_len h
  have bl : ∀ (d : List Int) (c : Int), (beginF d c).length = 16 := fun _ _ => beginF_len
  have tA := digC_take (l := beginF A.d A.c) beginF_len
  have uA := digC_sets (z := List.replicate 16 0) (l := beginF A.d A.c) (by simp [beginF_len])
  have mA := digC_ne' (l := beginF A.d A.c) beginF_len (by omega)
  have tB := digC_take (l := beginF B.d B.c) beginF_len
  have uB := digC_sets (z := List.replicate 16 0) (l := beginF B.d B.c) (by simp [beginF_len])
  have mB := digC_ne' (l := beginF B.d B.c) beginF_len (by omega)
  have tdA := digC_take (l := A.d) hda
  have tdB := digC_take (l := B.d) hdb
  have dlA := digC_len hda
  have dlB := digC_len hdb
  have le16A : (16 ≤ la.length) = True := eq_true (by omega)
  have le16B : (16 ≤ lb.length) = True := eq_true (by omega)
  simp only [↓eD0, ↓eD1, eC0, eC1, eC2, eC3, eC4, eC5, eC6, wantedE, ↓reduceIte, Nat.reduceEqDiff, yA, yB, reread, yC, yD, yE, yF, yG, yH, Value.cells, yI, yJ, outE, lks, lkR, rdV, neg1, evs, opt, Nat.reduceAdd, Nat.reduceMul, and_self, reduceCtorEq, yK, yL, yM, Value.oneCell', yN, yO, sets, fillL, Nat.reduceLeDiff, yP, yQ, yR, yS, yT, argsE, yU, yV, yW, Int.reduceLT, Int.reduceLE, Int.reduceToNat, Int.reduceEq, Nat.reduceLT, dA, dB, cA, cB, lA, lB, dlA, tdA]
  refine appK_of (lbegin_app hda ha.fit.c (hG.Old .ap)) ?_
  rintro _ _ ⟨e2, rfl⟩
  rw [e2]
  clear e2
  simp only [↓eD0, ↓eD1, eC0, eC1, eC2, eC3, eC4, eC5, eC6, wantedE, ↓reduceIte, Nat.reduceEqDiff, yA, yB, reread, yC, yD, yE, yF, yG, yH, Value.cells, yI, yJ, outE, lks, lkR, rdV, neg1, evs, opt, Nat.reduceAdd, Nat.reduceMul, and_self, reduceCtorEq, yK, yL, yM, Value.oneCell', yN, yO, sets, fillL, Nat.reduceLeDiff, yP, yQ, yR, yS, yT, argsE, yU, yV, yW, Int.reduceLT, Int.reduceLE, Int.reduceToNat, Int.reduceEq, Nat.reduceLT, dA, dB, cA, cB, lA, lB, digC_rep, digC_length, beginF_len, tA, uA, mA, digC_one, List.length_replicate, dlB, tdB, hdb]
  refine appK_of (lbegin_app hdb hb.fit.c (hG.Old .ap)) ?_
  rintro _ _ ⟨e2, rfl⟩
  rw [e2]
  clear e2
  have ae0 := aggEq_dig hda hdb
  have ae1 := aggEq_dig (a := beginF A.d A.c) (b := beginF B.d B.c) beginF_len beginF_len
  simp only [↓eD0, ↓eD1, eC0, eC1, eC2, eC3, eC4, eC5, eC6, wantedE, ↓reduceIte, Nat.reduceEqDiff, yA, yB, reread, yC, yD, yE, yF, yG, yH, Value.cells, yI, yJ, outE, lks, lkR, rdV, neg1, evs, opt, Nat.reduceAdd, Nat.reduceMul, and_self, reduceCtorEq, yK, yL, yM, Value.oneCell', yN, yO, sets, fillL, Nat.reduceLeDiff, yP, yQ, yR, yS, yT, argsE, yU, yV, yW, Int.reduceLT, Int.reduceLE, Int.reduceToNat, Int.reduceEq, Nat.reduceLT, dA, dB, cA, cB, lA, lB, digC_rep, digC_length, beginF_len, tB, uB, mB, digC_one, List.length_replicate, ae0, hda, hdb, undef_eq]
  by_cases hd0 : A.d ≠ B.d ∧ beginF A.d A.c = beginF B.d B.c
  · have d1 : decide (A.d = B.d) = false := decide_eq_false hd0.1
    have d2 : decide (beginF A.d A.c = beginF B.d B.c) = true := decide_eq_true hd0.2
    have hcf : ∀ m, colF A B m = true := by
      intro m
      induction m with
      | zero => rw [colF]; exact decide_eq_true hd0
      | succ m ih => rw [colF, ih]; rfl
    simp only [↓eD0, ↓eD1, eC0, eC1, eC2, eC3, eC4, eC5, eC6, wantedE, ↓reduceIte, Nat.reduceEqDiff, yA, yB, reread, yC, yD, yE, yF, yG, yH, Value.cells, yI, yJ, outE, lks, lkR, rdV, neg1, evs, opt, Nat.reduceAdd, Nat.reduceMul, and_self, reduceCtorEq, yK, yL, yM, Value.oneCell', yN, yO, sets, fillL, Nat.reduceLeDiff, yP, yQ, yR, yS, yT, argsE, yU, yV, yW, Int.reduceLT, Int.reduceLE, Int.reduceToNat, Int.reduceEq, Nat.reduceLT, digC_length, beginF_len, tA, tB, d1, d2, ae1, Bool.not_false, hcf, undef_eq]
    exact ⟨.ap, rfl⟩
  have c0 : colF A B 0 = false := by rw [colF]; exact decide_eq_false hd0
  have hcs : decide (A.d = B.d) = true ∨ (decide (A.d = B.d) = false ∧ decide (beginF A.d A.c = beginF B.d B.c) = false) := by
    by_cases h1 : A.d = B.d
    · exact .inl (decide_eq_true h1)
    · exact .inr ⟨decide_eq_false h1, decide_eq_false fun h2 => hd0 ⟨h1, h2⟩⟩
  rcases hcs with d1 | ⟨d1, d2⟩
  case' inl => simp only [↓eD0, ↓eD1, eC0, eC1, eC2, eC3, eC4, eC5, eC6, wantedE, ↓reduceIte, Nat.reduceEqDiff, yA, yB, reread, yC, yD, yE, yF, yG, yH, Value.cells, yI, yJ, outE, lks, lkR, rdV, neg1, evs, opt, Nat.reduceAdd, Nat.reduceMul, and_self, reduceCtorEq, yK, yL, yM, Value.oneCell', yN, yO, sets, fillL, Nat.reduceLeDiff, yP, yQ, yR, yS, yT, argsE, yU, yV, yW, Int.reduceLT, Int.reduceLE, Int.reduceToNat, Int.reduceEq, Nat.reduceLT, d1, Bool.not_true, undef_eq]
  case' inr => simp only [↓eD0, ↓eD1, eC0, eC1, eC2, eC3, eC4, eC5, eC6, wantedE, ↓reduceIte, Nat.reduceEqDiff, yA, yB, reread, yC, yD, yE, yF, yG, yH, Value.cells, yI, yJ, outE, lks, lkR, rdV, neg1, evs, opt, Nat.reduceAdd, Nat.reduceMul, and_self, reduceCtorEq, yK, yL, yM, Value.oneCell', yN, yO, sets, fillL, Nat.reduceLeDiff, yP, yQ, yR, yS, yT, argsE, yU, yV, yW, Int.reduceLT, Int.reduceLE, Int.reduceToNat, Int.reduceEq, Nat.reduceLT, digC_length, beginF_len, tA, tB, d1, d2, ae1, Bool.not_false, undef_eq]
  all_goals
    refine loop_for (J := fun i e τ => i ≤ n ∧ e = [(2, .int .i64 (n : Int)), (3, .pointer (some ⟨σ.size, 0, none⟩)), (4, .pointer (some ⟨σ.size + 1, 0, none⟩)), (7, .pointer (some ⟨σ.size + 2, 0, none⟩)), (8, .pointer (some ⟨σ.size + 3, 0, none⟩)), (9, .int .i64 (i : Int))] ∧ Old σ τ ∧ τ[σ.size]? = some (.cells 0 la (0, 0)) ∧ τ[σ.size + 1]? = some (.cells 0 lb (0, 0)) ∧ (∃ v7, τ[σ.size + 2]? = some (.cells v7 (digC (chainF A.d A.c A.E i)) (0, 0))) ∧ (∃ v8, τ[σ.size + 3]? = some (.cells v8 (digC (chainF B.d B.c B.E i)) (0, 0))) ∧ colF A B i = false) n
      ⟨by omega, rfl, .ap, by rw [ap_new0]; rfl, by rw [ap_new]; rfl, ⟨1, by rw [ap_new]; rfl⟩, ⟨1, by rw [ap_new]; rfl⟩, c0⟩ ?_
    rintro i e τ hi ⟨_, rfl, ho, z0, z1, ⟨v7, z2⟩, ⟨v8, z3⟩, hcol⟩
    have y3 : σ.size + 3 < τ.size := (Array.getElem?_eq_some_iff.1 z3).1
    by_cases hlt : i < n
    case neg =>
      have : i = n := by omega
      subst this
      have dl : decide ((i : Int) < (i : Int)) = false := by rw [decide_eq_false]; omega
      simp only [↓eD0, ↓eD1, eC0, eC1, eC2, eC3, eC4, eC5, eC6, wantedE, ↓reduceIte, Nat.reduceEqDiff, yA, yB, reread, yC, yD, yE, yF, yG, yH, Value.cells, yI, yJ, outE, lks, lkR, rdV, neg1, evs, opt, Nat.reduceAdd, Nat.reduceMul, and_self, reduceCtorEq, yK, yL, yM, Value.oneCell', yN, yO, sets, fillL, Nat.reduceLeDiff, yP, yQ, yR, yS, yT, argsE, yU, yV, yW, Int.reduceLT, Int.reduceLE, Int.reduceToNat, Int.reduceEq, Nat.reduceLT, dl, hcol, undef_eq]
      exact ⟨ho, rfl⟩
    have dl : decide ((i : Int) < (n : Int)) = true := by rw [decide_eq_true]; omega
    have hw1 : IntKind.wrap .i64 ((i:Int) + 1) = ((i + 1 : Nat) : Int) := by rw [wrap64' (by omega) (by omega)]; omega
    have bdA : (0:Int) ≤ (i:Int) ∧ (i:Int) < (A.E.length : Int) := by omega
    have bdB : (0:Int) ≤ (i:Int) ∧ (i:Int) < (B.E.length : Int) := by omega
    have iA : i < A.E.length := by omega
    have iB : i < B.E.length := by omega
    have g17A : ∀ M, rd1 (ap τ M) ⟨σ.size, 17, none⟩ = some (.slice a1 A.E.length b1) := fun M => rd1_of z0 .ap ha.c17
    have g17B : ∀ M, rd1 (ap τ M) ⟨σ.size + 1, 17, none⟩ = some (.slice p1 B.E.length q1) := fun M => rd1_of z1 .ap hb.c17
    obtain ⟨bA, oA, hbA, hA⟩ := (ha.Old ho).at iA
    obtain ⟨bB, oB, hbB, hB⟩ := (hb.Old ho).at iB
    subst hbA hbB
    have hA' : ∀ M, rdN (ap τ M) ⟨bA, oA + i * 5, none⟩ 5 = some (entV A.E[i]) := fun M => rdN_old hA
    have hB' : ∀ M, rdN (ap τ M) ⟨bB, oB + i * 5, none⟩ 5 = some (entV B.E[i]) := fun M => rdN_old hB
    have g2 : ∀ M, rdN (ap τ M) ⟨σ.size + 2, 0, none⟩ 16 = some (digC (chainF A.d A.c A.E i)) := fun M => rdb_of z2 .ap (by rw [digC_length, chainF_len])
    have g3 : ∀ M, rdN (ap τ M) ⟨σ.size + 3, 0, none⟩ 16 = some (digC (chainF B.d B.c B.E i)) := fun M => rdb_of z3 .ap (by rw [digC_length, chainF_len])
    have fA := ha.fit.E A.E[i] (by simp)
    have fB := hb.fit.E B.E[i] (by simp)
    have xA := chainF_succ (d := A.d) (c := A.c) iA
    have xB := chainF_succ (d := B.d) (c := B.c) iB
    have hEA : A.E[i]? = some A.E[i] := by simp [iA]
    have hEB : B.E[i]? = some B.E[i] := by simp [iB]
    generalize hei : A.E[i] = ea at hA' fA xA hEA
    generalize hfi : B.E[i] = eb at hB' fB xB hEB
    have lx : (nextF (chainF A.d A.c A.E i) ea).length = 16 := nextF_len
    have ly : (nextF (chainF B.d B.c B.E i) eb).length = 16 := nextF_len
    obtain ⟨X, hX⟩ : ∃ X, X = nextF (chainF A.d A.c A.E i) ea := ⟨_, rfl⟩
    obtain ⟨Y, hY⟩ : ∃ Y, Y = nextF (chainF B.d B.c B.E i) eb := ⟨_, rfl⟩
    rw [← hX] at lx xA
    rw [← hY] at ly xB
    have tX := digC_take (l := X) lx
    have uX := digC_sets (z := List.replicate 16 0) (l := X) (by simp [lx])
    have mX := digC_ne' (l := X) lx (by omega)
    have tY := digC_take (l := Y) ly
    have uY := digC_sets (z := List.replicate 16 0) (l := Y) (by simp [ly])
    have mY := digC_ne' (l := Y) ly (by omega)
    rw [← ap_nil (σ := τ)]
    simp only [↓eD0, ↓eD1, eC0, eC1, eC2, eC3, eC4, eC5, eC6, wantedE, ↓reduceIte, Nat.reduceEqDiff, yA, yB, reread, yC, yD, yE, yF, yG, yH, Value.cells, yI, yJ, outE, lks, lkR, rdV, neg1, evs, opt, Nat.reduceAdd, Nat.reduceMul, and_self, reduceCtorEq, yK, yL, yM, Value.oneCell', yN, yO, sets, fillL, Nat.reduceLeDiff, yP, yQ, yR, yS, yT, argsE, yU, yV, yW, Int.reduceLT, Int.reduceLE, Int.reduceToNat, Int.reduceEq, Nat.reduceLT, dl, bdA, Int.toNat_natCast, g2, g17A, hA', undef_eq]
    refine appK_of (lnext_app chainF_len fA.1 fA.2.1 fA.2.2.1 fA.2.2.2.1 fA.2.2.2.2 (hG.Old (ho.trans .ap))) ?_
    rintro _ _ ⟨e2, rfl⟩
    rw [e2, ← hX]
    clear e2
    simp only [↓eD0, ↓eD1, eC0, eC1, eC2, eC3, eC4, eC5, eC6, wantedE, ↓reduceIte, Nat.reduceEqDiff, yA, yB, reread, yC, yD, yE, yF, yG, yH, Value.cells, yI, yJ, outE, lks, lkR, rdV, neg1, evs, opt, Nat.reduceAdd, Nat.reduceMul, and_self, reduceCtorEq, yK, yL, yM, Value.oneCell', yN, yO, sets, fillL, Nat.reduceLeDiff, yP, yQ, yR, yS, yT, argsE, yU, yV, yW, Int.reduceLT, Int.reduceLE, Int.reduceToNat, Int.reduceEq, Nat.reduceLT, bdB, Int.toNat_natCast, g3, g17B, hB', digC_rep, digC_length, lx, tX, uX, mX, digC_one, List.length_replicate, undef_eq]
    refine appK_of (lnext_app chainF_len fB.1 fB.2.1 fB.2.2.1 fB.2.2.2.1 fB.2.2.2.2 (hG.Old (ho.trans .ap))) ?_
    rintro _ _ ⟨e2, rfl⟩
    rw [e2, ← hY]
    clear e2
    have aeX := aggEq_dig (a := X) (b := Y) lx ly
    have aeC := aggEq_dig (a := chainF A.d A.c A.E i) (b := chainF B.d B.c B.E i) chainF_len chainF_len
    have aeE := ent_eq (a := ea) (b := eb)
    have hcol' : colF A B (i + 1) = decide (X = Y ∧ (chainF A.d A.c A.E i ≠ chainF B.d B.c B.E i ∨ ea ≠ eb)) := by
      rw [colF, hcol, Bool.false_or, xA, xB, hEA, hEB]
      congr 1
      simp
    by_cases hit : X = Y ∧ (chainF A.d A.c A.E i ≠ chainF B.d B.c B.E i ∨ ea ≠ eb)
    · rw [decide_eq_true hit] at hcol'
      have hcn := colF_mono (show i + 1 ≤ n by omega) hcol'
      have d1 : decide (X = Y) = true := decide_eq_true hit.1
      by_cases hcc : chainF A.d A.c A.E i = chainF B.d B.c B.E i
      · have d2 : decide (chainF A.d A.c A.E i = chainF B.d B.c B.E i) = true := decide_eq_true hcc
        have d3 : decide (ea = eb) = false := decide_eq_false (hit.2.elim (fun h => absurd hcc h) id)
        simp only [↓eD0, ↓eD1, eC0, eC1, eC2, eC3, eC4, eC5, eC6, wantedE, ↓reduceIte, Nat.reduceEqDiff, yA, yB, reread, yC, yD, yE, yF, yG, yH, Value.cells, yI, yJ, outE, lks, lkR, rdV, neg1, evs, opt, Nat.reduceAdd, Nat.reduceMul, and_self, reduceCtorEq, yK, yL, yM, Value.oneCell', yN, yO, sets, fillL, Nat.reduceLeDiff, yP, yQ, yR, yS, yT, argsE, yU, yV, yW, Int.reduceLT, Int.reduceLE, Int.reduceToNat, Int.reduceEq, Nat.reduceLT, digC_rep, digC_length, ly, lx, tX, tY, uY, mY, digC_one, List.length_replicate, aeX, d1, g2, g3, aeC, d2, g17A, g17B, bdA, bdB, Int.toNat_natCast, hA', hB', aeE, d3, Bool.not_true, Bool.not_false, hcn, undef_eq]
        exact ⟨ho.trans .ap, rfl⟩
      · have d2 : decide (chainF A.d A.c A.E i = chainF B.d B.c B.E i) = false := decide_eq_false hcc
        simp only [↓eD0, ↓eD1, eC0, eC1, eC2, eC3, eC4, eC5, eC6, wantedE, ↓reduceIte, Nat.reduceEqDiff, yA, yB, reread, yC, yD, yE, yF, yG, yH, Value.cells, yI, yJ, outE, lks, lkR, rdV, neg1, evs, opt, Nat.reduceAdd, Nat.reduceMul, and_self, reduceCtorEq, yK, yL, yM, Value.oneCell', yN, yO, sets, fillL, Nat.reduceLeDiff, yP, yQ, yR, yS, yT, argsE, yU, yV, yW, Int.reduceLT, Int.reduceLE, Int.reduceToNat, Int.reduceEq, Nat.reduceLT, digC_rep, digC_length, ly, lx, tX, tY, uY, mY, digC_one, List.length_replicate, aeX, d1, g2, g3, aeC, d2, Bool.not_true, Bool.not_false, hcn, undef_eq]
        exact ⟨ho.trans .ap, rfl⟩
    rw [decide_eq_false hit] at hcol'
    have oT : Old τ (ap τ [.cells 1 (digC X) (0, 0), .cells 1 (digC Y) (0, 0)]) := .ap
    have qX : (ap τ [.cells 1 (digC X) (0, 0), .cells 1 (digC Y) (0, 0)])[τ.size]? = some (.cells 1 (digC X) (0, 0)) := by rw [ap_new0]; rfl
    have qY : (ap τ [.cells 1 (digC X) (0, 0), .cells 1 (digC Y) (0, 0)])[τ.size + 1]? = some (.cells 1 (digC Y) (0, 0)) := by rw [ap_new]; rfl
    have k0 := (oT.2 _ (by omega)).trans z0
    have k1 := (oT.2 _ (by omega)).trans z1
    have k2 := (oT.2 _ (by omega)).trans z2
    have k3 := (oT.2 _ (by omega)).trans z3
    have w2 := put16 (d := X) chainF_len lx k2
    have n3 : ((ap τ [.cells 1 (digC X) (0, 0), .cells 1 (digC Y) (0, 0)]).setIfInBounds (σ.size + 2) (.cells (v7 + 1) (digC X) (0, 0)))[σ.size + 3]? = some (.cells v8 (digC (chainF B.d B.c B.E i)) (0, 0)) := (get_set_ne (by omega)).trans k3
    have w3 := put16 (d := Y) chainF_len ly n3
    have rX : rdN (ap τ [.cells 1 (digC X) (0, 0), .cells 1 (digC Y) (0, 0)]) ⟨τ.size, 0, none⟩ 16 = some (digC X) := rdN_all qX (by rw [digC_length, lx])
    have rY : rdN ((ap τ [.cells 1 (digC X) (0, 0), .cells 1 (digC Y) (0, 0)]).setIfInBounds (σ.size + 2) (.cells (v7 + 1) (digC X) (0, 0))) ⟨τ.size + 1, 0, none⟩ 16 = some (digC Y) := rdN_all ((get_set_ne (by omega)).trans qY) (by rw [digC_length, ly])
    have rX0 : ∀ M, rdN (ap τ ([.cells 1 (digC X) (0, 0)] ++ M)) ⟨τ.size, 0, none⟩ 16 = some (digC X) := fun M => rdN_all (by rw [ap_new0]; rfl) (by rw [digC_length, lx])
    have fin : Old σ (((ap τ [.cells 1 (digC X) (0, 0), .cells 1 (digC Y) (0, 0)]).setIfInBounds (σ.size + 2) (.cells (v7 + 1) (digC X) (0, 0))).setIfInBounds (σ.size + 3) (.cells (v8 + 1) (digC Y) (0, 0))) := ((ho.trans oT).set (by omega)).set (by omega)
    have hlast : i < n ∧ i + 1 ≤ n ∧ Old σ (((ap τ [.cells 1 (digC X) (0, 0), .cells 1 (digC Y) (0, 0)]).setIfInBounds (σ.size + 2) (.cells (v7 + 1) (digC X) (0, 0))).setIfInBounds (σ.size + 3) (.cells (v8 + 1) (digC Y) (0, 0))) ∧ (((ap τ [.cells 1 (digC X) (0, 0), .cells 1 (digC Y) (0, 0)]).setIfInBounds (σ.size + 2) (.cells (v7 + 1) (digC X) (0, 0))).setIfInBounds (σ.size + 3) (.cells (v8 + 1) (digC Y) (0, 0)))[σ.size]? = some (.cells 0 la (0, 0)) ∧ (((ap τ [.cells 1 (digC X) (0, 0), .cells 1 (digC Y) (0, 0)]).setIfInBounds (σ.size + 2) (.cells (v7 + 1) (digC X) (0, 0))).setIfInBounds (σ.size + 3) (.cells (v8 + 1) (digC Y) (0, 0)))[σ.size + 1]? = some (.cells 0 lb (0, 0)) ∧ (∃ v7', (((ap τ [.cells 1 (digC X) (0, 0), .cells 1 (digC Y) (0, 0)]).setIfInBounds (σ.size + 2) (.cells (v7 + 1) (digC X) (0, 0))).setIfInBounds (σ.size + 3) (.cells (v8 + 1) (digC Y) (0, 0)))[σ.size + 2]? = some (.cells v7' (digC (chainF A.d A.c A.E (i + 1))) (0, 0))) ∧ (∃ v8', (((ap τ [.cells 1 (digC X) (0, 0), .cells 1 (digC Y) (0, 0)]).setIfInBounds (σ.size + 2) (.cells (v7 + 1) (digC X) (0, 0))).setIfInBounds (σ.size + 3) (.cells (v8 + 1) (digC Y) (0, 0)))[σ.size + 3]? = some (.cells v8' (digC (chainF B.d B.c B.E (i + 1))) (0, 0))) ∧ colF A B (i + 1) = false := by
      refine ⟨hlt, by omega, fin, ?_, ?_, ⟨v7 + 1, ?_⟩, ⟨v8 + 1, ?_⟩, hcol'⟩
      · exact (get_set_ne (by omega)).trans ((get_set_ne (by omega)).trans k0)
      · exact (get_set_ne (by omega)).trans ((get_set_ne (by omega)).trans k1)
      · rw [xA]; exact (get_set_ne (by omega)).trans (get_set k2)
      · rw [xB]; exact get_set n3
    have hds : decide (X = Y) = false ∨ (decide (X = Y) = true ∧ decide (chainF A.d A.c A.E i = chainF B.d B.c B.E i) = true ∧ decide (ea = eb) = true) := by
      by_cases h1 : X = Y
      · refine .inr ⟨decide_eq_true h1, ?_, ?_⟩
        · rw [decide_eq_true_eq]; exact Decidable.byContradiction fun h2 => hit ⟨h1, .inl h2⟩
        · rw [decide_eq_true_eq]; exact Decidable.byContradiction fun h2 => hit ⟨h1, .inr h2⟩
      · exact .inl (decide_eq_false h1)
    rcases hds with d1 | ⟨d1, d2, d3⟩
    · simp only [↓eD0, ↓eD1, eC0, eC1, eC2, eC3, eC4, eC5, eC6, wantedE, ↓reduceIte, Nat.reduceEqDiff, yA, yB, reread, yC, yD, yE, yF, yG, yH, Value.cells, yI, yJ, outE, lks, lkR, rdV, neg1, evs, opt, Nat.reduceAdd, Nat.reduceMul, and_self, reduceCtorEq, yK, yL, yM, Value.oneCell', yN, yO, sets, fillL, Nat.reduceLeDiff, yP, yQ, yR, yS, yT, argsE, yU, yV, yW, Int.reduceLT, Int.reduceLE, Int.reduceToNat, Int.reduceEq, Nat.reduceLT, digC_rep, digC_length, ly, lx, tX, tY, uY, mY, digC_one, List.length_replicate, aeX, d1, rX, w2, rY, w3, hw1, undef_eq]
      exact hlast
    · simp only [↓eD0, ↓eD1, eC0, eC1, eC2, eC3, eC4, eC5, eC6, wantedE, ↓reduceIte, Nat.reduceEqDiff, yA, yB, reread, yC, yD, yE, yF, yG, yH, Value.cells, yI, yJ, outE, lks, lkR, rdV, neg1, evs, opt, Nat.reduceAdd, Nat.reduceMul, and_self, reduceCtorEq, yK, yL, yM, Value.oneCell', yN, yO, sets, fillL, Nat.reduceLeDiff, yP, yQ, yR, yS, yT, argsE, yU, yV, yW, Int.reduceLT, Int.reduceLE, Int.reduceToNat, Int.reduceEq, Nat.reduceLT, digC_rep, digC_length, ly, lx, tX, tY, uY, mY, digC_one, List.length_replicate, aeX, d1, g2, g3, aeC, d2, g17A, g17B, bdA, bdB, Int.toNat_natCast, hA', hB', aeE, d3, Bool.not_true, Bool.not_false, rX, w2, rY, w3, hw1, undef_eq]
      exact hlast
end Go.Proofs.YtopnlllipkockaaDoor

set_option linter.unusedSimpArgs false
set_option linter.unusedVariables false
set_option maxRecDepth 10000
set_option maxHeartbeats 8000000
namespace Go.Proofs.YtopnlllipkockaaDoor
open Go Go.Cn Go.RowKit
attribute [local irreducible] evL sem onG onI onV

def sameB (A B : Lg) (n : Nat) : Bool := decide (A.d = B.d ∧ A.E.take n = B.E.take n)
theorem sameB_succ {A B : Lg} {i : Nat} (h1 : i < A.E.length) (h2 : i < B.E.length) : sameB A B (i + 1) = (sameB A B i && decide (A.E[i] = B.E[i])) := by
  unfold sameB
  rw [← Bool.decide_and]
  refine decide_eq_decide.2 ?_
  rw [List.take_succ_eq_append_getElem h1, List.take_succ_eq_append_getElem h2]
  constructor
  · rintro ⟨g1, g2⟩
    have := List.append_inj g2 (by simp only [List.length_take]; omega)
    exact ⟨⟨g1, this.1⟩, by simpa using this.2⟩
  · rintro ⟨⟨g1, g2⟩, g3⟩
    exact ⟨g1, by rw [g2, g3]⟩

theorem law6 {σ : H} {la lb : List Value} {A B : Lg} {a1 a2 p1 p2 : Option Addr} {b1 b2 q1 q2 : Nat} {n : Int} (ha : LgA σ la A a1 b1 a2 b2) (hb : LgA σ lb B p1 q1 p2 q2) (hn0 : 0 ≤ n) (hn1 : n ≤ 255) (hH : HGlob σ) (hG : Glob σ) :
    App Tryd.prog (.func 6) #[] #[.agg la.toArray, .agg lb.toArray, .int .u8 n] σ fun v σ' => Old σ σ' ∧ v = .bool true := by
  refine App.of_sem mixed Tryd.func6 t6 k6 r6 (Nat.le_of_ble_eq_true rfl) ?_
  have lA : la.length = 19 := ha.r.len
  have tA : la.take 19 = la := ha.r.take
  have lB : lb.length = 19 := hb.r.len
  have tB : lb.take 19 = lb := hb.r.take
  have cA : la[16]? = some (.int .i64 A.c) := by rw [ha.r.l]; exact rec16 ha.r.d
  have cB : lb[16]? = some (.int .i64 B.c) := by rw [hb.r.l]; exact rec16 hb.r.d
  have eA : la[17]? = some (.slice a1 A.E.length b1) := by rw [ha.r.l]; exact rec17 ha.r.d
  have eB : lb[17]? = some (.slice p1 B.E.length q1) := by rw [hb.r.l]; exact rec17 hb.r.d
  have dA : la.take 16 = digC A.d := by rw [ha.r.l]; exact rec_take16 ha.r.d
  have dB : lb.take 16 = digC B.d := by rw [hb.r.l]; exact rec_take16 hb.r.d
  have fin : ∀ M : List Blk, Old σ (ap σ M) := fun M => .ap
  rw [← ap_nil (σ := σ)]
  unfold s6
  simp only [↓eD0, ↓eD1, eC0, eC1, eC2, eC3, eC4, eC5, eC6, wantedE, ↓reduceIte, Nat.reduceEqDiff, yA, yB, reread, yC, yD, yE, yF, yG, yH, Value.cells, yI, yJ, outE, lks, lkR, rdV, neg1, evs, opt, Nat.reduceAdd, Nat.reduceMul, and_self, reduceCtorEq, yK, yL, yM, Value.oneCell', yN, yO, sets, fillL, Nat.reduceLeDiff, yP, yQ, yR, yS, yT, argsE, yU, yV, yW, Int.reduceLT, Int.reduceLE, Int.reduceToNat, Int.reduceEq, Nat.reduceLT, lA, tA]
  refine appK_of (law_right_app (ha.r.Old .ap) ha.cE (hG.Old .ap)) ?_
  rintro _ _ ⟨e2, rfl⟩
  rw [e2]
  clear e2
  simp only [↓eD0, ↓eD1, eC0, eC1, eC2, eC3, eC4, eC5, eC6, wantedE, ↓reduceIte, Nat.reduceEqDiff, yA, yB, reread, yC, yD, yE, yF, yG, yH, Value.cells, yI, yJ, outE, lks, lkR, rdV, neg1, evs, opt, Nat.reduceAdd, Nat.reduceMul, and_self, reduceCtorEq, yK, yL, yM, Value.oneCell', yN, yO, sets, fillL, Nat.reduceLeDiff, yP, yQ, yR, yS, yT, argsE, yU, yV, yW, Int.reduceLT, Int.reduceLE, Int.reduceToNat, Int.reduceEq, Nat.reduceLT, lB, tB]
  refine appK_of (law_right_app (hb.r.Old .ap) hb.cE (hG.Old .ap)) ?_
  rintro _ _ ⟨e2, rfl⟩
  rw [e2]
  clear e2
  by_cases hf : lrightF A = true ∧ lrightF B = true ∧ A.c = B.c ∧ A.E.length ≠ 0 ∧ B.E.length ≠ 0
  case neg =>
    have hcs : lrightF A = false ∨ (lrightF A = true ∧ lrightF B = false) ∨ (lrightF A = true ∧ lrightF B = true ∧ decide (A.c = B.c) = false) ∨ (lrightF A = true ∧ lrightF B = true ∧ decide (A.c = B.c) = true ∧ decide ((A.E.length : Int) = 0) = true) ∨ (lrightF A = true ∧ lrightF B = true ∧ decide (A.c = B.c) = true ∧ decide ((A.E.length : Int) = 0) = false ∧ decide ((B.E.length : Int) = 0) = true) := by
      cases h1 : lrightF A with
      | false => exact .inl rfl
      | true =>
        cases h2 : lrightF B with
        | false => exact .inr (.inl ⟨rfl, rfl⟩)
        | true =>
          by_cases h3 : A.c = B.c
          · by_cases h4 : A.E.length = 0
            · exact .inr (.inr (.inr (.inl ⟨rfl, rfl, decide_eq_true h3, by rw [decide_eq_true]; omega⟩)))
            · refine .inr (.inr (.inr (.inr ⟨rfl, rfl, decide_eq_true h3, by rw [decide_eq_false]; omega, ?_⟩)))
              rw [decide_eq_true]
              have : ¬B.E.length ≠ 0 := fun h5 => hf ⟨h1, h2, h3, h4, h5⟩
              omega
          · exact .inr (.inr (.inl ⟨rfl, rfl, decide_eq_false h3⟩))
    rcases hcs with z1 | ⟨z1, z2⟩ | ⟨z1, z2, z3⟩ | ⟨z1, z2, z3, z4⟩ | ⟨z1, z2, z3, z4, z5⟩
    case' inl => simp only [↓eD0, ↓eD1, eC0, eC1, eC2, eC3, eC4, eC5, eC6, wantedE, ↓reduceIte, Nat.reduceEqDiff, yA, yB, reread, yC, yD, yE, yF, yG, yH, Value.cells, yI, yJ, outE, lks, lkR, rdV, neg1, evs, opt, Nat.reduceAdd, Nat.reduceMul, and_self, reduceCtorEq, yK, yL, yM, Value.oneCell', yN, yO, sets, fillL, Nat.reduceLeDiff, yP, yQ, yR, yS, yT, argsE, yU, yV, yW, Int.reduceLT, Int.reduceLE, Int.reduceToNat, Int.reduceEq, Nat.reduceLT, z1, Bool.not_false, undef_eq]
    case' inr.inl => simp only [↓eD0, ↓eD1, eC0, eC1, eC2, eC3, eC4, eC5, eC6, wantedE, ↓reduceIte, Nat.reduceEqDiff, yA, yB, reread, yC, yD, yE, yF, yG, yH, Value.cells, yI, yJ, outE, lks, lkR, rdV, neg1, evs, opt, Nat.reduceAdd, Nat.reduceMul, and_self, reduceCtorEq, yK, yL, yM, Value.oneCell', yN, yO, sets, fillL, Nat.reduceLeDiff, yP, yQ, yR, yS, yT, argsE, yU, yV, yW, Int.reduceLT, Int.reduceLE, Int.reduceToNat, Int.reduceEq, Nat.reduceLT, z1, z2, Bool.not_false, Bool.not_true, undef_eq]
    case' inr.inr.inl => simp only [↓eD0, ↓eD1, eC0, eC1, eC2, eC3, eC4, eC5, eC6, wantedE, ↓reduceIte, Nat.reduceEqDiff, yA, yB, reread, yC, yD, yE, yF, yG, yH, Value.cells, yI, yJ, outE, lks, lkR, rdV, neg1, evs, opt, Nat.reduceAdd, Nat.reduceMul, and_self, reduceCtorEq, yK, yL, yM, Value.oneCell', yN, yO, sets, fillL, Nat.reduceLeDiff, yP, yQ, yR, yS, yT, argsE, yU, yV, yW, Int.reduceLT, Int.reduceLE, Int.reduceToNat, Int.reduceEq, Nat.reduceLT, z1, z2, z3, cA, cB, Bool.not_false, Bool.not_true, undef_eq]
    case' inr.inr.inr.inl => simp only [↓eD0, ↓eD1, eC0, eC1, eC2, eC3, eC4, eC5, eC6, wantedE, ↓reduceIte, Nat.reduceEqDiff, yA, yB, reread, yC, yD, yE, yF, yG, yH, Value.cells, yI, yJ, outE, lks, lkR, rdV, neg1, evs, opt, Nat.reduceAdd, Nat.reduceMul, and_self, reduceCtorEq, yK, yL, yM, Value.oneCell', yN, yO, sets, fillL, Nat.reduceLeDiff, yP, yQ, yR, yS, yT, argsE, yU, yV, yW, Int.reduceLT, Int.reduceLE, Int.reduceToNat, Int.reduceEq, Nat.reduceLT, z1, z2, z3, z4, cA, cB, eA, Bool.not_false, Bool.not_true, undef_eq]
    case' inr.inr.inr.inr => simp only [↓eD0, ↓eD1, eC0, eC1, eC2, eC3, eC4, eC5, eC6, wantedE, ↓reduceIte, Nat.reduceEqDiff, yA, yB, reread, yC, yD, yE, yF, yG, yH, Value.cells, yI, yJ, outE, lks, lkR, rdV, neg1, evs, opt, Nat.reduceAdd, Nat.reduceMul, and_self, reduceCtorEq, yK, yL, yM, Value.oneCell', yN, yO, sets, fillL, Nat.reduceLeDiff, yP, yQ, yR, yS, yT, argsE, yU, yV, yW, Int.reduceLT, Int.reduceLE, Int.reduceToNat, Int.reduceEq, Nat.reduceLT, z1, z2, z3, z4, z5, cA, cB, eA, eB, Bool.not_false, Bool.not_true, undef_eq]
    all_goals
      refine appK_of (sanity_app (hH.Old (fin _))) ?_
      rintro _ _ ⟨e2, rfl⟩
      rw [e2]
      clear e2
      simp only [↓eD0, ↓eD1, eC0, eC1, eC2, eC3, eC4, eC5, eC6, wantedE, ↓reduceIte, Nat.reduceEqDiff, yA, yB, reread, yC, yD, yE, yF, yG, yH, Value.cells, yI, yJ, outE, lks, lkR, rdV, neg1, evs, opt, Nat.reduceAdd, Nat.reduceMul, and_self, reduceCtorEq, yK, yL, yM, Value.oneCell', yN, yO, sets, fillL, Nat.reduceLeDiff, yP, yQ, yR, yS, yT, argsE, yU, yV, yW, Int.reduceLT, Int.reduceLE, Int.reduceToNat, Int.reduceEq, Nat.reduceLT, undef_eq]
      rw [ap_nil]
      first | exact ⟨fin _, rfl⟩ | exact fin _
  obtain ⟨z1, z2, hc, hA0, hB0⟩ := hf
  have z3 : decide (A.c = B.c) = true := decide_eq_true hc
  have z4 : decide ((A.E.length : Int) = 0) = false := by rw [decide_eq_false]; omega
  have z5 : decide ((B.E.length : Int) = 0) = false := by rw [decide_eq_false]; omega
  have gA : lfewF A = true := by unfold lrightF at z1; rw [Bool.and_eq_true] at z1; exact z1.1
  have gB : lfewF B = true := by unfold lrightF at z2; rw [Bool.and_eq_true] at z2; exact z2.1
  have VA := ha.v gA
  have VB := hb.v gB
  have nA := VA.fit.n
  have nB := VB.fit.n
  have hwn : IntKind.wrap .i64 n = n := wrap64' (by omega) (by omega)
  obtain ⟨M, hM⟩ : ∃ M : Nat, M = min A.E.length B.E.length := ⟨_, rfl⟩
  have hmin : (if (B.E.length : Int) < (A.E.length : Int) then (B.E.length : Int) else (A.E.length : Int)) = (M : Int) := by split <;> omega
  have hwm : IntKind.wrap .i64 ((M : Int) + 1) = (M : Int) + 1 := wrap64' (by omega) (by omega)
  have hm0 : ((M : Int) + 1 = 0) = False := eq_false (by omega)
  have hk0 : 0 ≤ n.tmod ((M : Int) + 1) := Int.tmod_nonneg _ hn0
  have hk1 : n.tmod ((M : Int) + 1) < (M : Int) + 1 := Int.tmod_lt_of_pos _ (by omega)
  obtain ⟨K, hK⟩ : ∃ K : Nat, n.tmod ((M : Int) + 1) = (K : Int) := ⟨(n.tmod ((M : Int) + 1)).toNat, by omega⟩
  rw [hK] at hk1
  have kA : K ≤ A.E.length := by omega
  have kB : K ≤ B.E.length := by omega
  have dgA : digestF A (K : Int) = (chainF A.d A.c A.E K, 0) := by unfold digestF; rw [if_pos (by omega), Int.toNat_natCast]
  have dgB : digestF B (K : Int) = (chainF B.d B.c B.E K, 0) := by unfold digestF; rw [if_pos (by omega), Int.toNat_natCast]
  obtain ⟨X, hX⟩ : ∃ X, X = chainF A.d A.c A.E K := ⟨_, rfl⟩
  obtain ⟨Y, hY⟩ : ∃ Y, Y = chainF B.d B.c B.E K := ⟨_, rfl⟩
  have lx : X.length = 16 := by rw [hX]; exact chainF_len
  have ly : Y.length = 16 := by rw [hY]; exact chainF_len
  rw [← hX] at dgA
  rw [← hY] at dgB
  have tX := digC_take (l := X) lx
  have uX := digC_sets (z := List.replicate 16 0) (l := X) (by simp [lx])
  have mX := digC_ne' (l := X) lx (by omega)
  have tY := digC_take (l := Y) ly
  have uY := digC_sets (z := List.replicate 16 0) (l := Y) (by simp [ly])
  have mY := digC_ne' (l := Y) ly (by omega)
  have ldA := digC_len ha.r.d
  have ldB := digC_len hb.r.d
  simp only [↓eD0, ↓eD1, eC0, eC1, eC2, eC3, eC4, eC5, eC6, wantedE, ↓reduceIte, Nat.reduceEqDiff, yA, yB, reread, yC, yD, yE, yF, yG, yH, Value.cells, yI, yJ, outE, lks, lkR, rdV, neg1, evs, opt, Nat.reduceAdd, Nat.reduceMul, and_self, reduceCtorEq, yK, yL, yM, Value.oneCell', yN, yO, sets, fillL, Nat.reduceLeDiff, yP, yQ, yR, yS, yT, argsE, yU, yV, yW, Int.reduceLT, Int.reduceLE, Int.reduceToNat, Int.reduceEq, Nat.reduceLT, z1, z2, z3, z4, z5, cA, cB, eA, eB, lA, tA, lB, tB, hwn, hmin, hwm, hm0, hK, Bool.not_true, undef_eq]
  refine appK_of (ldigest_app (n := (K : Int)) (VA.Old (fin _)) (hH.Old (fin _))) ?_
  rintro _ _ ⟨e2, rfl⟩
  rw [e2, dgA]
  clear e2
  simp only [↓eD0, ↓eD1, eC0, eC1, eC2, eC3, eC4, eC5, eC6, wantedE, ↓reduceIte, Nat.reduceEqDiff, yA, yB, reread, yC, yD, yE, yF, yG, yH, Value.cells, yI, yJ, outE, lks, lkR, rdV, neg1, evs, opt, Nat.reduceAdd, Nat.reduceMul, and_self, reduceCtorEq, yK, yL, yM, Value.oneCell', yN, yO, sets, fillL, Nat.reduceLeDiff, yP, yQ, yR, yS, yT, argsE, yU, yV, yW, Int.reduceLT, Int.reduceLE, Int.reduceToNat, Int.reduceEq, Nat.reduceLT, lB, tB, digC_rep, digC_length, lx, tX, uX, mX, digC_one, List.length_replicate, undef_eq]
  refine appK_of (ldigest_app (n := (K : Int)) (VB.Old (fin _)) (hH.Old (fin _))) ?_
  rintro _ _ ⟨e2, rfl⟩
  rw [e2, dgB]
  clear e2
  have aeD := aggEq_dig ha.r.d hb.r.d
  have aeX := aggEq_dig lx ly
  simp only [↓eD0, ↓eD1, eC0, eC1, eC2, eC3, eC4, eC5, eC6, wantedE, ↓reduceIte, Nat.reduceEqDiff, yA, yB, reread, yC, yD, yE, yF, yG, yH, Value.cells, yI, yJ, outE, lks, lkR, rdV, neg1, evs, opt, Nat.reduceAdd, Nat.reduceMul, and_self, reduceCtorEq, yK, yL, yM, Value.oneCell', yN, yO, sets, fillL, Nat.reduceLeDiff, yP, yQ, yR, yS, yT, argsE, yU, yV, yW, Int.reduceLT, Int.reduceLE, Int.reduceToNat, Int.reduceEq, Nat.reduceLT, lA, lB, dA, dB, aeD, digC_rep, digC_length, lx, ly, tY, uY, mY, digC_one, List.length_replicate, undef_eq]
  generalize hθ : ap σ [.cells 0 la (0, 0), .cells 0 lb (0, 0), .cells 1 (digC X) (0, 0), .cells 1 (digC Y) (0, 0)] = θ
  have oθ : Old σ θ := by rw [← hθ]; exact .ap
  have Q0 : θ[σ.size]? = some (.cells 0 la (0, 0)) := by rw [← hθ, ap_new0]; rfl
  have Q1 : θ[σ.size + 1]? = some (.cells 0 lb (0, 0)) := by rw [← hθ, ap_new]; rfl
  have Q2 : θ[σ.size + 2]? = some (.cells 1 (digC X) (0, 0)) := by rw [← hθ, ap_new]; rfl
  have Q3 : θ[σ.size + 3]? = some (.cells 1 (digC Y) (0, 0)) := by rw [← hθ, ap_new]; rfl
  have r0 := rdN_all Q0 lA
  have r1 := rdN_all Q1 lB
  have r2 : rdN θ ⟨σ.size + 2, 0, none⟩ 16 = some (digC X) := rdN_all Q2 (by rw [digC_length, lx])
  have r3 : rdN θ ⟨σ.size + 3, 0, none⟩ 16 = some (digC Y) := rdN_all Q3 (by rw [digC_length, ly])
  have g17A : rd1 θ ⟨σ.size, 17, none⟩ = some (.slice a1 A.E.length b1) := by rw [rd1_eq, Q0]; exact eA
  have g17B : rd1 θ ⟨σ.size + 1, 17, none⟩ = some (.slice p1 B.E.length q1) := by rw [rd1_eq, Q1]; exact eB
  clear hθ
  refine loop_for (J := fun i e τ => i ≤ K ∧ e = [(3, .pointer (some ⟨σ.size, 0, none⟩)), (4, .pointer (some ⟨σ.size + 1, 0, none⟩)), (9, .int .i64 (K : Int)), (10, .pointer (some ⟨σ.size + 2, 0, none⟩)), (12, .pointer (some ⟨σ.size + 3, 0, none⟩)), (14, .bool (sameB A B i)), (15, .int .i64 (i : Int))] ∧ τ = θ) K
    ⟨by omega, by unfold sameB; simp, rfl⟩ ?_
  rintro i e τ hi ⟨_, rfl, rfl⟩
  by_cases hlt : i < K
  · have dl : decide ((i : Int) < (K : Int)) = true := by rw [decide_eq_true]; omega
    have hw1 : IntKind.wrap .i64 ((i:Int) + 1) = ((i + 1 : Nat) : Int) := by rw [wrap64' (by omega) (by omega)]; omega
    have bdA : (0:Int) ≤ (i:Int) ∧ (i:Int) < (A.E.length : Int) := by omega
    have bdB : (0:Int) ≤ (i:Int) ∧ (i:Int) < (B.E.length : Int) := by omega
    have iA : i < A.E.length := by omega
    have iB : i < B.E.length := by omega
    obtain ⟨bA, oA, hbA, hA⟩ := (VA.Old oθ).at iA
    obtain ⟨bB, oB, hbB, hB⟩ := (VB.Old oθ).at iB
    subst hbA hbB
    have hss := sameB_succ (A := A) (B := B) iA iB
    have aeE := ent_eq (a := A.E[i]) (b := B.E[i])
    cases hsb : sameB A B i with
    | true =>
      rw [hsb, Bool.true_and] at hss
      simp only [↓eD0, ↓eD1, eC0, eC1, eC2, eC3, eC4, eC5, eC6, wantedE, ↓reduceIte, Nat.reduceEqDiff, yA, yB, reread, yC, yD, yE, yF, yG, yH, Value.cells, yI, yJ, outE, lks, lkR, rdV, neg1, evs, opt, Nat.reduceAdd, Nat.reduceMul, and_self, reduceCtorEq, yK, yL, yM, Value.oneCell', yN, yO, sets, fillL, Nat.reduceLeDiff, yP, yQ, yR, yS, yT, argsE, yU, yV, yW, Int.reduceLT, Int.reduceLE, Int.reduceToNat, Int.reduceEq, Nat.reduceLT, dl, g17A, g17B, bdA, bdB, Int.toNat_natCast, hA, hB, aeE, hw1, undef_eq]
      first | exact ⟨hlt, by omega, hss.symm⟩ | exact ⟨hlt, by omega, by rw [hss]⟩
    | false =>
      rw [hsb, Bool.false_and] at hss
      simp only [↓eD0, ↓eD1, eC0, eC1, eC2, eC3, eC4, eC5, eC6, wantedE, ↓reduceIte, Nat.reduceEqDiff, yA, yB, reread, yC, yD, yE, yF, yG, yH, Value.cells, yI, yJ, outE, lks, lkR, rdV, neg1, evs, opt, Nat.reduceAdd, Nat.reduceMul, and_self, reduceCtorEq, yK, yL, yM, Value.oneCell', yN, yO, sets, fillL, Nat.reduceLeDiff, yP, yQ, yR, yS, yT, argsE, yU, yV, yW, Int.reduceLT, Int.reduceLE, Int.reduceToNat, Int.reduceEq, Nat.reduceLT, dl, hw1, undef_eq]
      first | exact ⟨hlt, by omega, hss.symm⟩ | exact ⟨hlt, by omega, by rw [hss]⟩
  have : i = K := by omega
  subst this
  have dl : decide ((i : Int) < (i : Int)) = false := by rw [decide_eq_false]; omega
  simp only [↓eD0, ↓eD1, eC0, eC1, eC2, eC3, eC4, eC5, eC6, wantedE, ↓reduceIte, Nat.reduceEqDiff, yA, yB, reread, yC, yD, yE, yF, yG, yH, Value.cells, yI, yJ, outE, lks, lkR, rdV, neg1, evs, opt, Nat.reduceAdd, Nat.reduceMul, and_self, reduceCtorEq, yK, yL, yM, Value.oneCell', yN, yO, sets, fillL, Nat.reduceLeDiff, yP, yQ, yR, yS, yT, argsE, yU, yV, yW, Int.reduceLT, Int.reduceLE, Int.reduceToNat, Int.reduceEq, Nat.reduceLT, dl, r2, r3, aeX, undef_eq]
  have fin2 : ∀ x : Bool, x = true → Old σ τ ∧ Value.bool x = .bool true := fun x hx => ⟨oθ, by rw [hx]⟩
  by_cases hxy : X = Y
  case neg =>
    have d1 : decide (X = Y) = false := decide_eq_false hxy
    have hsf : sameB A B i = false := by
      rw [← Bool.not_eq_true]
      intro h
      have h2 := of_decide_eq_true h
      exact hxy (by rw [hX, hY]; exact chain_same hc h2)
    simp only [↓eD0, ↓eD1, eC0, eC1, eC2, eC3, eC4, eC5, eC6, wantedE, ↓reduceIte, Nat.reduceEqDiff, yA, yB, reread, yC, yD, yE, yF, yG, yH, Value.cells, yI, yJ, outE, lks, lkR, rdV, neg1, evs, opt, Nat.reduceAdd, Nat.reduceMul, and_self, reduceCtorEq, yK, yL, yM, Value.oneCell', yN, yO, sets, fillL, Nat.reduceLeDiff, yP, yQ, yR, yS, yT, argsE, yU, yV, yW, Int.reduceLT, Int.reduceLE, Int.reduceToNat, Int.reduceEq, Nat.reduceLT, d1, hsf, Bool.not_false, Bool.not_true, undef_eq]
    refine appK_of (sanity_app (hH.Old oθ)) ?_
    rintro _ _ ⟨e2, rfl⟩
    rw [e2]
    clear e2
    simp only [↓eD0, ↓eD1, eC0, eC1, eC2, eC3, eC4, eC5, eC6, wantedE, ↓reduceIte, Nat.reduceEqDiff, yA, yB, reread, yC, yD, yE, yF, yG, yH, Value.cells, yI, yJ, outE, lks, lkR, rdV, neg1, evs, opt, Nat.reduceAdd, Nat.reduceMul, and_self, reduceCtorEq, yK, yL, yM, Value.oneCell', yN, yO, sets, fillL, Nat.reduceLeDiff, yP, yQ, yR, yS, yT, argsE, yU, yV, yW, Int.reduceLT, Int.reduceLE, Int.reduceToNat, Int.reduceEq, Nat.reduceLT, r2, r3, aeX, d1, hsf, Bool.not_false, Bool.not_true, undef_eq]
    first | exact ⟨oθ, rfl⟩ | exact oθ
  have d1 : decide (X = Y) = true := decide_eq_true hxy
  cases hsb : sameB A B i with
  | true =>
    simp only [↓eD0, ↓eD1, eC0, eC1, eC2, eC3, eC4, eC5, eC6, wantedE, ↓reduceIte, Nat.reduceEqDiff, yA, yB, reread, yC, yD, yE, yF, yG, yH, Value.cells, yI, yJ, outE, lks, lkR, rdV, neg1, evs, opt, Nat.reduceAdd, Nat.reduceMul, and_self, reduceCtorEq, yK, yL, yM, Value.oneCell', yN, yO, sets, fillL, Nat.reduceLeDiff, yP, yQ, yR, yS, yT, argsE, yU, yV, yW, Int.reduceLT, Int.reduceLE, Int.reduceToNat, Int.reduceEq, Nat.reduceLT, d1, Bool.not_false, Bool.not_true, undef_eq]
    refine appK_of (sanity_app (hH.Old oθ)) ?_
    rintro _ _ ⟨e2, rfl⟩
    rw [e2]
    clear e2
    simp only [↓eD0, ↓eD1, eC0, eC1, eC2, eC3, eC4, eC5, eC6, wantedE, ↓reduceIte, Nat.reduceEqDiff, yA, yB, reread, yC, yD, yE, yF, yG, yH, Value.cells, yI, yJ, outE, lks, lkR, rdV, neg1, evs, opt, Nat.reduceAdd, Nat.reduceMul, and_self, reduceCtorEq, yK, yL, yM, Value.oneCell', yN, yO, sets, fillL, Nat.reduceLeDiff, yP, yQ, yR, yS, yT, argsE, yU, yV, yW, Int.reduceLT, Int.reduceLE, Int.reduceToNat, Int.reduceEq, Nat.reduceLT, r2, r3, aeX, d1, Bool.not_false, Bool.not_true, undef_eq]
    first | exact ⟨oθ, rfl⟩ | exact oθ
  | false =>
    have hcf : colF A B i = true := chain_binds hc kA kB (by rw [← hX, ← hY]; exact hxy) (fun h => by
      have : sameB A B i = true := decide_eq_true h
      rw [hsb] at this; cases this)
    simp only [↓eD0, ↓eD1, eC0, eC1, eC2, eC3, eC4, eC5, eC6, wantedE, ↓reduceIte, Nat.reduceEqDiff, yA, yB, reread, yC, yD, yE, yF, yG, yH, Value.cells, yI, yJ, outE, lks, lkR, rdV, neg1, evs, opt, Nat.reduceAdd, Nat.reduceMul, and_self, reduceCtorEq, yK, yL, yM, Value.oneCell', yN, yO, sets, fillL, Nat.reduceLeDiff, yP, yQ, yR, yS, yT, argsE, yU, yV, yW, Int.reduceLT, Int.reduceLE, Int.reduceToNat, Int.reduceEq, Nat.reduceLT, d1, Bool.not_false, Bool.not_true, undef_eq]
    refine appK_of (sanity_app (hH.Old oθ)) ?_
    rintro _ _ ⟨e2, rfl⟩
    rw [e2]
    clear e2
    simp only [↓eD0, ↓eD1, eC0, eC1, eC2, eC3, eC4, eC5, eC6, wantedE, ↓reduceIte, Nat.reduceEqDiff, yA, yB, reread, yC, yD, yE, yF, yG, yH, Value.cells, yI, yJ, outE, lks, lkR, rdV, neg1, evs, opt, Nat.reduceAdd, Nat.reduceMul, and_self, reduceCtorEq, yK, yL, yM, Value.oneCell', yN, yO, sets, fillL, Nat.reduceLeDiff, yP, yQ, yR, yS, yT, argsE, yU, yV, yW, Int.reduceLT, Int.reduceLE, Int.reduceToNat, Int.reduceEq, Nat.reduceLT, r0, r1, undef_eq]
    refine appK_of (coll_app (VA.Old oθ) (VB.Old oθ) kA kB (hH.Old oθ)) ?_
    rintro _ _ ⟨e2, rfl⟩
    rw [e2, hcf]
    clear e2
    simp only [↓eD0, ↓eD1, eC0, eC1, eC2, eC3, eC4, eC5, eC6, wantedE, ↓reduceIte, Nat.reduceEqDiff, yA, yB, reread, yC, yD, yE, yF, yG, yH, Value.cells, yI, yJ, outE, lks, lkR, rdV, neg1, evs, opt, Nat.reduceAdd, Nat.reduceMul, and_self, reduceCtorEq, yK, yL, yM, Value.oneCell', yN, yO, sets, fillL, Nat.reduceLeDiff, yP, yQ, yR, yS, yT, argsE, yU, yV, yW, Int.reduceLT, Int.reduceLE, Int.reduceToNat, Int.reduceEq, Nat.reduceLT, undef_eq]
    first | exact ⟨oθ, rfl⟩ | exact oθ
end Go.Proofs.YtopnlllipkockaaDoor
