/- Walks and plain laws. Conditions: none. -/
import Derived.Test.YtopnlllipkockaaDoorBodiesL7
set_option linter.all false
set_option linter.unusedSimpArgs false
set_option linter.unusedVariables false
set_option maxRecDepth 10000
set_option maxHeartbeats 8000000
namespace Go.Proofs.YtopnlllipkockaaDoor
open Go Go.Cn Go.RowKit
attribute [local irreducible] evL sem onG onI onV

theorem put16 {θ : H} {b ver : Nat} {c d : List Int} (hc : c.length = 16) (hd : d.length = 16) (h : θ[b]? = some (.cells ver (digC c) (0, 0))) : wrN θ ⟨b, 0, none⟩ (digC d) = some (θ.setIfInBounds b (.cells (ver + 1) (digC d) (0, 0))) := by
  rw [wrN_eq, if_neg (by rw [digC_ne hd]; exact id), h, wrc_cells, if_pos ⟨by rw [digC_len hc, digC_len hd]; show 0 + 16 ≤ 16; omega, digC_one⟩]
  rw [show sets (digC c) (⟨b, 0, none⟩ : Addr).off (digC d) = digC d from digC_sets (by rw [hc, hd])]
  rfl
theorem LgV.at {σ : H} {l : List Value} {L : Lg} {a1 a2 : Option Addr} {b1 b2 i : Nat} (h : LgV σ l L a1 b1 a2 b2) (hi : i < L.E.length) : ∃ b off, a1 = some ⟨b, off, none⟩ ∧ rdN σ ⟨b, off + i * 5, none⟩ 5 = some (entV L.E[i]) := by
  have hx : (L.E.map entV)[i]? = some (entV L.E[i]) := by simp [hi]
  obtain ⟨b, off, h1, h2⟩ := h.E.at hx
  exact ⟨b, off, h1, h2⟩

theorem colF_mono {A B : Lg} {m n : Nat} (h : m ≤ n) (hm : colF A B m = true) : colF A B n = true := by
  induction n with
  | zero => rwa [show m = 0 by omega] at hm
  | succ n ih =>
    rcases Nat.lt_or_ge n m with h1 | h1
    · rwa [show m = n + 1 by omega] at hm
    · rw [colF, ih h1]; rfl
theorem coll_app {σ : H} {la lb : List Value} {A B : Lg} {a1 a2 p1 p2 : Option Addr} {b1 b2 q1 q2 n : Nat} (ha : LgV σ la A a1 b1 a2 b2) (hb : LgV σ lb B p1 q1 p2 q2) (hn1 : n ≤ A.E.length) (hn2 : n ≤ B.E.length) (hG : HGlob σ) :
    App Tryd.prog (.func 33) #[] #[.agg la.toArray, .agg lb.toArray, .int .i64 (n : Int)] σ fun v σ' => σ' = σ ∧ v = .bool (colF A B n) := by
  refine App.forget (App.of_sem mixed Tryd.func33 t33 k33 r33 (Nat.le_of_ble_eq_true rfl) ?_)
  have hda := ha.fit.d
  have hdb := hb.fit.d
  have hnA := ha.fit.n
  have dA : la.take 16 = digC A.d := by rw [ha.l]; exact rec_take16 hda
  have dB : lb.take 16 = digC B.d := by rw [hb.l]; exact rec_take16 hdb
  have cA := ha.c16
  have cB := hb.c16
  have lA := ha.len
  have lB := hb.len
  rw [← ap_nil (σ := σ)]
  unfold s33
  have l16 : ∀ d : List Int, d.length = 16 → (digC d).length = 16 := fun d h => digC_len h
  have bl : ∀ (d : List Int) (c : Int), (beginF d c).length = 16 := fun _ _ => beginF_len
  have tA := digC_take (l := beginF A.d A.c) beginF_len
  have uA := digC_sets (z := List.replicate 16 0) (l := beginF A.d A.c) (by simp [beginF_len])
  have mA := digC_ne' (l := beginF A.d A.c) beginF_len (by omega)
  have tB := digC_take (l := beginF B.d B.c) beginF_len
  have uB := digC_sets (z := List.replicate 16 0) (l := beginF B.d B.c) (by simp [beginF_len])
  have mB := digC_ne' (l := beginF B.d B.c) beginF_len (by omega)
  have tdA := digC_take (l := A.d) hda
  have tdB := digC_take (l := B.d) hdb
  have dlA := digC_len hda
  have dlB := digC_len hdb
  have le16A : (16 ≤ la.length) = True := eq_true (by omega)
  have le16B : (16 ≤ lb.length) = True := eq_true (by omega)
  simp only [↓eD0, ↓eD1, eC0, eC1, eC2, eC3, eC4, eC5, eC6, wantedE, ↓reduceIte, Nat.reduceEqDiff, yA, yB, reread, yC, yD, yE, yF, yG, yH, Value.cells, yI, yJ, outE, lks, lkR, rdV, neg1, evs, opt, Nat.reduceAdd, Nat.reduceMul, and_self, reduceCtorEq, yK, yL, yM, Value.oneCell', yN, yO, sets, fillL, Nat.reduceLeDiff, yP, yQ, yR, yS, yT, argsE, yU, yV, yW, Int.reduceLT, Int.reduceLE, Int.reduceToNat, Int.reduceEq, Nat.reduceLT, dA, dB, cA, cB, lA, lB, dlA, tdA]
  refine appK_of (lbegin_app hda ha.fit.c (hG.Old .ap)) ?_
  rintro _ _ ⟨e2, rfl⟩
  rw [e2]
  clear e2
  simp only [↓eD0, ↓eD1, eC0, eC1, eC2, eC3, eC4, eC5, eC6, wantedE, ↓reduceIte, Nat.reduceEqDiff, yA, yB, reread, yC, yD, yE, yF, yG, yH, Value.cells, yI, yJ, outE, lks, lkR, rdV, neg1, evs, opt, Nat.reduceAdd, Nat.reduceMul, and_self, reduceCtorEq, yK, yL, yM, Value.oneCell', yN, yO, sets, fillL, Nat.reduceLeDiff, yP, yQ, yR, yS, yT, argsE, yU, yV, yW, Int.reduceLT, Int.reduceLE, Int.reduceToNat, Int.reduceEq, Nat.reduceLT, dA, dB, cA, cB, lA, lB, digC_rep, digC_length, beginF_len, tA, uA, mA, digC_one, List.length_replicate, dlB, tdB, hdb]
  refine appK_of (lbegin_app hdb hb.fit.c (hG.Old .ap)) ?_
  rintro _ _ ⟨e2, rfl⟩
  rw [e2]
  clear e2
  have ae0 := aggEq_dig hda hdb
  have ae1 := aggEq_dig (a := beginF A.d A.c) (b := beginF B.d B.c) beginF_len beginF_len
  simp only [↓eD0, ↓eD1, eC0, eC1, eC2, eC3, eC4, eC5, eC6, wantedE, ↓reduceIte, Nat.reduceEqDiff, yA, yB, reread, yC, yD, yE, yF, yG, yH, Value.cells, yI, yJ, outE, lks, lkR, rdV, neg1, evs, opt, Nat.reduceAdd, Nat.reduceMul, and_self, reduceCtorEq, yK, yL, yM, Value.oneCell', yN, yO, sets, fillL, Nat.reduceLeDiff, yP, yQ, yR, yS, yT, argsE, yU, yV, yW, Int.reduceLT, Int.reduceLE, Int.reduceToNat, Int.reduceEq, Nat.reduceLT, dA, dB, cA, cB, lA, lB, digC_rep, digC_length, beginF_len, tB, uB, mB, digC_one, List.length_replicate, ae0, hda, hdb, undef_eq]
  by_cases hd0 : A.d ≠ B.d ∧ beginF A.d A.c = beginF B.d B.c
  · have d1 : decide (A.d = B.d) = false := decide_eq_false hd0.1
    have d2 : decide (beginF A.d A.c = beginF B.d B.c) = true := decide_eq_true hd0.2
    have hcf : ∀ m, colF A B m = true := by
      intro m
      induction m with
      | zero => rw [colF]; exact decide_eq_true hd0
      | succ m ih => rw [colF, ih]; rfl
    simp only [↓eD0, ↓eD1, eC0, eC1, eC2, eC3, eC4, eC5, eC6, wantedE, ↓reduceIte, Nat.reduceEqDiff, yA, yB, reread, yC, yD, yE, yF, yG, yH, Value.cells, yI, yJ, outE, lks, lkR, rdV, neg1, evs, opt, Nat.reduceAdd, Nat.reduceMul, and_self, reduceCtorEq, yK, yL, yM, Value.oneCell', yN, yO, sets, fillL, Nat.reduceLeDiff, yP, yQ, yR, yS, yT, argsE, yU, yV, yW, Int.reduceLT, Int.reduceLE, Int.reduceToNat, Int.reduceEq, Nat.reduceLT, digC_length, beginF_len, tA, tB, d1, d2, ae1, Bool.not_false, hcf, undef_eq]
    exact ⟨.ap, rfl⟩
  have c0 : colF A B 0 = false := by rw [colF]; exact decide_eq_false hd0
  have hcs : decide (A.d = B.d) = true ∨ (decide (A.d = B.d) = false ∧ decide (beginF A.d A.c = beginF B.d B.c) = false) := by
    by_cases h1 : A.d = B.d
    · exact .inl (decide_eq_true h1)
    · exact .inr ⟨decide_eq_false h1, decide_eq_false fun h2 => hd0 ⟨h1, h2⟩⟩
  rcases hcs with d1 | ⟨d1, d2⟩
  case' inl => simp only [↓eD0, ↓eD1, eC0, eC1, eC2, eC3, eC4, eC5, eC6, wantedE, ↓reduceIte, Nat.reduceEqDiff, yA, yB, reread, yC, yD, yE, yF, yG, yH, Value.cells, yI, yJ, outE, lks, lkR, rdV, neg1, evs, opt, Nat.reduceAdd, Nat.reduceMul, and_self, reduceCtorEq, yK, yL, yM, Value.oneCell', yN, yO, sets, fillL, Nat.reduceLeDiff, yP, yQ, yR, yS, yT, argsE, yU, yV, yW, Int.reduceLT, Int.reduceLE, Int.reduceToNat, Int.reduceEq, Nat.reduceLT, d1, Bool.not_true, undef_eq]
  case' inr => simp only [↓eD0, ↓eD1, eC0, eC1, eC2, eC3, eC4, eC5, eC6, wantedE, ↓reduceIte, Nat.reduceEqDiff, yA, yB, reread, yC, yD, yE, yF, yG, yH, Value.cells, yI, yJ, outE, lks, lkR, rdV, neg1, evs, opt, Nat.reduceAdd, Nat.reduceMul, and_self, reduceCtorEq, yK, yL, yM, Value.oneCell', yN, yO, sets, fillL, Nat.reduceLeDiff, yP, yQ, yR, yS, yT, argsE, yU, yV, yW, Int.reduceLT, Int.reduceLE, Int.reduceToNat, Int.reduceEq, Nat.reduceLT, digC_length, beginF_len, tA, tB, d1, d2, ae1, Bool.not_false, undef_eq]
  all_goals
    refine loop_for (J := fun i e τ => i ≤ n ∧ e = [(2, .int .i64 (n : Int)), (3, .pointer (some ⟨σ.size, 0, none⟩)), (4, .pointer (some ⟨σ.size + 1, 0, none⟩)), (7, .pointer (some ⟨σ.size + 2, 0, none⟩)), (8, .pointer (some ⟨σ.size + 3, 0, none⟩)), (9, .int .i64 (i : Int))] ∧ Old σ τ ∧ τ[σ.size]? = some (.cells 0 la (0, 0)) ∧ τ[σ.size + 1]? = some (.cells 0 lb (0, 0)) ∧ (∃ v7, τ[σ.size + 2]? = some (.cells v7 (digC (chainF A.d A.c A.E i)) (0, 0))) ∧ (∃ v8, τ[σ.size + 3]? = some (.cells v8 (digC (chainF B.d B.c B.E i)) (0, 0))) ∧ colF A B i = false) n
      ⟨by omega, rfl, .ap, by rw [ap_new0]; rfl, by rw [ap_new]; rfl, ⟨1, by rw [ap_new]; rfl⟩, ⟨1, by rw [ap_new]; rfl⟩, c0⟩ ?_
    rintro i e τ hi ⟨_, rfl, ho, z0, z1, ⟨v7, z2⟩, ⟨v8, z3⟩, hcol⟩
    have y3 : σ.size + 3 < τ.size := (Array.getElem?_eq_some_iff.1 z3).1
    by_cases hlt : i < n
    case neg =>
      have : i = n := by omega
      subst this
      have dl : decide ((i : Int) < (i : Int)) = false := by rw [decide_eq_false]; omega
      simp only [↓eD0, ↓eD1, eC0, eC1, eC2, eC3, eC4, eC5, eC6, wantedE, ↓reduceIte, Nat.reduceEqDiff, yA, yB, reread, yC, yD, yE, yF, yG, yH, Value.cells, yI, yJ, outE, lks, lkR, rdV, neg1, evs, opt, Nat.reduceAdd, Nat.reduceMul, and_self, reduceCtorEq, yK, yL, yM, Value.oneCell', yN, yO, sets, fillL, Nat.reduceLeDiff, yP, yQ, yR, yS, yT, argsE, yU, yV, yW, Int.reduceLT, Int.reduceLE, Int.reduceToNat, Int.reduceEq, Nat.reduceLT, dl, hcol, undef_eq]
      exact ⟨ho, rfl⟩
    have dl : decide ((i : Int) < (n : Int)) = true := by rw [decide_eq_true]; omega
    have hw1 : IntKind.wrap .i64 ((i:Int) + 1) = ((i + 1 : Nat) : Int) := by rw [wrap64' (by omega) (by omega)]; omega
    have bdA : (0:Int) ≤ (i:Int) ∧ (i:Int) < (A.E.length : Int) := by omega
    have bdB : (0:Int) ≤ (i:Int) ∧ (i:Int) < (B.E.length : Int) := by omega
    have iA : i < A.E.length := by omega
    have iB : i < B.E.length := by omega
    have g17A : ∀ M, rd1 (ap τ M) ⟨σ.size, 17, none⟩ = some (.slice a1 A.E.length b1) := fun M => rd1_of z0 .ap ha.c17
    have g17B : ∀ M, rd1 (ap τ M) ⟨σ.size + 1, 17, none⟩ = some (.slice p1 B.E.length q1) := fun M => rd1_of z1 .ap hb.c17
    obtain ⟨bA, oA, hbA, hA⟩ := (ha.Old ho).at iA
    obtain ⟨bB, oB, hbB, hB⟩ := (hb.Old ho).at iB
    subst hbA hbB
    have hA' : ∀ M, rdN (ap τ M) ⟨bA, oA + i * 5, none⟩ 5 = some (entV A.E[i]) := fun M => rdN_old hA
    have hB' : ∀ M, rdN (ap τ M) ⟨bB, oB + i * 5, none⟩ 5 = some (entV B.E[i]) := fun M => rdN_old hB
    have g2 : ∀ M, rdN (ap τ M) ⟨σ.size + 2, 0, none⟩ 16 = some (digC (chainF A.d A.c A.E i)) := fun M => rdb_of z2 .ap (by rw [digC_length, chainF_len])
    have g3 : ∀ M, rdN (ap τ M) ⟨σ.size + 3, 0, none⟩ 16 = some (digC (chainF B.d B.c B.E i)) := fun M => rdb_of z3 .ap (by rw [digC_length, chainF_len])
    have fA := ha.fit.E A.E[i] (by simp)
    have fB := hb.fit.E B.E[i] (by simp)
    have xA := chainF_succ (d := A.d) (c := A.c) iA
    have xB := chainF_succ (d := B.d) (c := B.c) iB
    have hEA : A.E[i]? = some A.E[i] := by simp [iA]
    have hEB : B.E[i]? = some B.E[i] := by simp [iB]
    generalize hei : A.E[i] = ea at hA' fA xA hEA
    generalize hfi : B.E[i] = eb at hB' fB xB hEB
    have lx : (nextF (chainF A.d A.c A.E i) ea).length = 16 := nextF_len
    have ly : (nextF (chainF B.d B.c B.E i) eb).length = 16 := nextF_len
    obtain ⟨X, hX⟩ : ∃ X, X = nextF (chainF A.d A.c A.E i) ea := ⟨_, rfl⟩
    obtain ⟨Y, hY⟩ : ∃ Y, Y = nextF (chainF B.d B.c B.E i) eb := ⟨_, rfl⟩
    rw [← hX] at lx xA
    rw [← hY] at ly xB
    have tX := digC_take (l := X) lx
    have uX := digC_sets (z := List.replicate 16 0) (l := X) (by simp [lx])
    have mX := digC_ne' (l := X) lx (by omega)
    have tY := digC_take (l := Y) ly
    have uY := digC_sets (z := List.replicate 16 0) (l := Y) (by simp [ly])
    have mY := digC_ne' (l := Y) ly (by omega)
    rw [← ap_nil (σ := τ)]
    simp only [↓eD0, ↓eD1, eC0, eC1, eC2, eC3, eC4, eC5, eC6, wantedE, ↓reduceIte, Nat.reduceEqDiff, yA, yB, reread, yC, yD, yE, yF, yG, yH, Value.cells, yI, yJ, outE, lks, lkR, rdV, neg1, evs, opt, Nat.reduceAdd, Nat.reduceMul, and_self, reduceCtorEq, yK, yL, yM, Value.oneCell', yN, yO, sets, fillL, Nat.reduceLeDiff, yP, yQ, yR, yS, yT, argsE, yU, yV, yW, Int.reduceLT, Int.reduceLE, Int.reduceToNat, Int.reduceEq, Nat.reduceLT, dl, bdA, Int.toNat_natCast, g2, g17A, hA', undef_eq]
    refine appK_of (lnext_app chainF_len fA.1 fA.2.1 fA.2.2.1 fA.2.2.2.1 fA.2.2.2.2 (hG.Old (ho.trans .ap))) ?_
    rintro _ _ ⟨e2, rfl⟩
    rw [e2, ← hX]
    clear e2
    simp only [↓eD0, ↓eD1, eC0, eC1, eC2, eC3, eC4, eC5, eC6, wantedE, ↓reduceIte, Nat.reduceEqDiff, yA, yB, reread, yC, yD, yE, yF, yG, yH, Value.cells, yI, yJ, outE, lks, lkR, rdV, neg1, evs, opt, Nat.reduceAdd, Nat.reduceMul, and_self, reduceCtorEq, yK, yL, yM, Value.oneCell', yN, yO, sets, fillL, Nat.reduceLeDiff, yP, yQ, yR, yS, yT, argsE, yU, yV, yW, Int.reduceLT, Int.reduceLE, Int.reduceToNat, Int.reduceEq, Nat.reduceLT, bdB, Int.toNat_natCast, g3, g17B, hB', digC_rep, digC_length, lx, tX, uX, mX, digC_one, List.length_replicate, undef_eq]
    refine appK_of (lnext_app chainF_len fB.1 fB.2.1 fB.2.2.1 fB.2.2.2.1 fB.2.2.2.2 (hG.Old (ho.trans .ap))) ?_
    rintro _ _ ⟨e2, rfl⟩
    rw [e2, ← hY]
    clear e2
    have aeX := aggEq_dig (a := X) (b := Y) lx ly
    have aeC := aggEq_dig (a := chainF A.d A.c A.E i) (b := chainF B.d B.c B.E i) chainF_len chainF_len
    have aeE := ent_eq (a := ea) (b := eb)
    have hcol' : colF A B (i + 1) = decide (X = Y ∧ (chainF A.d A.c A.E i ≠ chainF B.d B.c B.E i ∨ ea ≠ eb)) := by
      rw [colF, hcol, Bool.false_or, xA, xB, hEA, hEB]
      congr 1
      simp
    by_cases hit : X = Y ∧ (chainF A.d A.c A.E i ≠ chainF B.d B.c B.E i ∨ ea ≠ eb)
    · rw [decide_eq_true hit] at hcol'
      have hcn := colF_mono (show i + 1 ≤ n by omega) hcol'
      have d1 : decide (X = Y) = true := decide_eq_true hit.1
      by_cases hcc : chainF A.d A.c A.E i = chainF B.d B.c B.E i
      · have d2 : decide (chainF A.d A.c A.E i = chainF B.d B.c B.E i) = true := decide_eq_true hcc
        have d3 : decide (ea = eb) = false := decide_eq_false (hit.2.elim (fun h => absurd hcc h) id)
        simp only [↓eD0, ↓eD1, eC0, eC1, eC2, eC3, eC4, eC5, eC6, wantedE, ↓reduceIte, Nat.reduceEqDiff, yA, yB, reread, yC, yD, yE, yF, yG, yH, Value.cells, yI, yJ, outE, lks, lkR, rdV, neg1, evs, opt, Nat.reduceAdd, Nat.reduceMul, and_self, reduceCtorEq, yK, yL, yM, Value.oneCell', yN, yO, sets, fillL, Nat.reduceLeDiff, yP, yQ, yR, yS, yT, argsE, yU, yV, yW, Int.reduceLT, Int.reduceLE, Int.reduceToNat, Int.reduceEq, Nat.reduceLT, digC_rep, digC_length, ly, lx, tX, tY, uY, mY, digC_one, List.length_replicate, aeX, d1, g2, g3, aeC, d2, g17A, g17B, bdA, bdB, Int.toNat_natCast, hA', hB', aeE, d3, Bool.not_true, Bool.not_false, hcn, undef_eq]
        exact ⟨ho.trans .ap, rfl⟩
      · have d2 : decide (chainF A.d A.c A.E i = chainF B.d B.c B.E i) = false := decide_eq_false hcc
        simp only [↓eD0, ↓eD1, eC0, eC1, eC2, eC3, eC4, eC5, eC6, wantedE, ↓reduceIte, Nat.reduceEqDiff, yA, yB, reread, yC, yD, yE, yF, yG, yH, Value.cells, yI, yJ, outE, lks, lkR, rdV, neg1, evs, opt, Nat.reduceAdd, Nat.reduceMul, and_self, reduceCtorEq, yK, yL, yM, Value.oneCell', yN, yO, sets, fillL, Nat.reduceLeDiff, yP, yQ, yR, yS, yT, argsE, yU, yV, yW, Int.reduceLT, Int.reduceLE, Int.reduceToNat, Int.reduceEq, Nat.reduceLT, digC_rep, digC_length, ly, lx, tX, tY, uY, mY, digC_one, List.length_replicate, aeX, d1, g2, g3, aeC, d2, Bool.not_true, Bool.not_false, hcn, undef_eq]
        exact ⟨ho.trans .ap, rfl⟩
    rw [decide_eq_false hit] at hcol'
    have oT : Old τ (ap τ [.cells 1 (digC X) (0, 0), .cells 1 (digC Y) (0, 0)]) := .ap
    have qX : (ap τ [.cells 1 (digC X) (0, 0), .cells 1 (digC Y) (0, 0)])[τ.size]? = some (.cells 1 (digC X) (0, 0)) := by rw [ap_new0]; rfl
    have qY : (ap τ [.cells 1 (digC X) (0, 0), .cells 1 (digC Y) (0, 0)])[τ.size + 1]? = some (.cells 1 (digC Y) (0, 0)) := by rw [ap_new]; rfl
    have k0 := (oT.2 _ (by omega)).trans z0
    have k1 := (oT.2 _ (by omega)).trans z1
    have k2 := (oT.2 _ (by omega)).trans z2
    have k3 := (oT.2 _ (by omega)).trans z3
    have w2 := put16 (d := X) chainF_len lx k2
    have n3 : ((ap τ [.cells 1 (digC X) (0, 0), .cells 1 (digC Y) (0, 0)]).setIfInBounds (σ.size + 2) (.cells (v7 + 1) (digC X) (0, 0)))[σ.size + 3]? = some (.cells v8 (digC (chainF B.d B.c B.E i)) (0, 0)) := (get_set_ne (by omega)).trans k3
    have w3 := put16 (d := Y) chainF_len ly n3
    have rX : rdN (ap τ [.cells 1 (digC X) (0, 0), .cells 1 (digC Y) (0, 0)]) ⟨τ.size, 0, none⟩ 16 = some (digC X) := rdN_all qX (by rw [digC_length, lx])
    have rY : rdN ((ap τ [.cells 1 (digC X) (0, 0), .cells 1 (digC Y) (0, 0)]).setIfInBounds (σ.size + 2) (.cells (v7 + 1) (digC X) (0, 0))) ⟨τ.size + 1, 0, none⟩ 16 = some (digC Y) := rdN_all ((get_set_ne (by omega)).trans qY) (by rw [digC_length, ly])
    have rX0 : ∀ M, rdN (ap τ ([.cells 1 (digC X) (0, 0)] ++ M)) ⟨τ.size, 0, none⟩ 16 = some (digC X) := fun M => rdN_all (by rw [ap_new0]; rfl) (by rw [digC_length, lx])
    have fin : Old σ (((ap τ [.cells 1 (digC X) (0, 0), .cells 1 (digC Y) (0, 0)]).setIfInBounds (σ.size + 2) (.cells (v7 + 1) (digC X) (0, 0))).setIfInBounds (σ.size + 3) (.cells (v8 + 1) (digC Y) (0, 0))) := ((ho.trans oT).set (by omega)).set (by omega)
    have hlast : i < n ∧ i + 1 ≤ n ∧ Old σ (((ap τ [.cells 1 (digC X) (0, 0), .cells 1 (digC Y) (0, 0)]).setIfInBounds (σ.size + 2) (.cells (v7 + 1) (digC X) (0, 0))).setIfInBounds (σ.size + 3) (.cells (v8 + 1) (digC Y) (0, 0))) ∧ (((ap τ [.cells 1 (digC X) (0, 0), .cells 1 (digC Y) (0, 0)]).setIfInBounds (σ.size + 2) (.cells (v7 + 1) (digC X) (0, 0))).setIfInBounds (σ.size + 3) (.cells (v8 + 1) (digC Y) (0, 0)))[σ.size]? = some (.cells 0 la (0, 0)) ∧ (((ap τ [.cells 1 (digC X) (0, 0), .cells 1 (digC Y) (0, 0)]).setIfInBounds (σ.size + 2) (.cells (v7 + 1) (digC X) (0, 0))).setIfInBounds (σ.size + 3) (.cells (v8 + 1) (digC Y) (0, 0)))[σ.size + 1]? = some (.cells 0 lb (0, 0)) ∧ (∃ v7', (((ap τ [.cells 1 (digC X) (0, 0), .cells 1 (digC Y) (0, 0)]).setIfInBounds (σ.size + 2) (.cells (v7 + 1) (digC X) (0, 0))).setIfInBounds (σ.size + 3) (.cells (v8 + 1) (digC Y) (0, 0)))[σ.size + 2]? = some (.cells v7' (digC (chainF A.d A.c A.E (i + 1))) (0, 0))) ∧ (∃ v8', (((ap τ [.cells 1 (digC X) (0, 0), .cells 1 (digC Y) (0, 0)]).setIfInBounds (σ.size + 2) (.cells (v7 + 1) (digC X) (0, 0))).setIfInBounds (σ.size + 3) (.cells (v8 + 1) (digC Y) (0, 0)))[σ.size + 3]? = some (.cells v8' (digC (chainF B.d B.c B.E (i + 1))) (0, 0))) ∧ colF A B (i + 1) = false := by
      refine ⟨hlt, by omega, fin, ?_, ?_, ⟨v7 + 1, ?_⟩, ⟨v8 + 1, ?_⟩, hcol'⟩
      · exact (get_set_ne (by omega)).trans ((get_set_ne (by omega)).trans k0)
      · exact (get_set_ne (by omega)).trans ((get_set_ne (by omega)).trans k1)
      · rw [xA]; exact (get_set_ne (by omega)).trans (get_set k2)
      · rw [xB]; exact get_set n3
    have hds : decide (X = Y) = false ∨ (decide (X = Y) = true ∧ decide (chainF A.d A.c A.E i = chainF B.d B.c B.E i) = true ∧ decide (ea = eb) = true) := by
      by_cases h1 : X = Y
      · refine .inr ⟨decide_eq_true h1, ?_, ?_⟩
        · rw [decide_eq_true_eq]; exact Decidable.byContradiction fun h2 => hit ⟨h1, .inl h2⟩
        · rw [decide_eq_true_eq]; exact Decidable.byContradiction fun h2 => hit ⟨h1, .inr h2⟩
      · exact .inl (decide_eq_false h1)
    rcases hds with d1 | ⟨d1, d2, d3⟩
    · simp only [↓eD0, ↓eD1, eC0, eC1, eC2, eC3, eC4, eC5, eC6, wantedE, ↓reduceIte, Nat.reduceEqDiff, yA, yB, reread, yC, yD, yE, yF, yG, yH, Value.cells, yI, yJ, outE, lks, lkR, rdV, neg1, evs, opt, Nat.reduceAdd, Nat.reduceMul, and_self, reduceCtorEq, yK, yL, yM, Value.oneCell', yN, yO, sets, fillL, Nat.reduceLeDiff, yP, yQ, yR, yS, yT, argsE, yU, yV, yW, Int.reduceLT, Int.reduceLE, Int.reduceToNat, Int.reduceEq, Nat.reduceLT, digC_rep, digC_length, ly, lx, tX, tY, uY, mY, digC_one, List.length_replicate, aeX, d1, rX, w2, rY, w3, hw1, undef_eq]
      exact hlast
    · simp only [↓eD0, ↓eD1, eC0, eC1, eC2, eC3, eC4, eC5, eC6, wantedE, ↓reduceIte, Nat.reduceEqDiff, yA, yB, reread, yC, yD, yE, yF, yG, yH, Value.cells, yI, yJ, outE, lks, lkR, rdV, neg1, evs, opt, Nat.reduceAdd, Nat.reduceMul, and_self, reduceCtorEq, yK, yL, yM, Value.oneCell', yN, yO, sets, fillL, Nat.reduceLeDiff, yP, yQ, yR, yS, yT, argsE, yU, yV, yW, Int.reduceLT, Int.reduceLE, Int.reduceToNat, Int.reduceEq, Nat.reduceLT, digC_rep, digC_length, ly, lx, tX, tY, uY, mY, digC_one, List.length_replicate, aeX, d1, g2, g3, aeC, d2, g17A, g17B, bdA, bdB, Int.toNat_natCast, hA', hB', aeE, d3, Bool.not_true, Bool.not_false, rX, w2, rY, w3, hw1, undef_eq]
      exact hlast
end Go.Proofs.YtopnlllipkockaaDoor

set_option linter.unusedSimpArgs false
set_option linter.unusedVariables false
set_option maxRecDepth 10000
set_option maxHeartbeats 8000000
namespace Go.Proofs.YtopnlllipkockaaDoor
open Go Go.Cn Go.RowKit
attribute [local irreducible] evL sem onG onI onV

theorem entF_drop {E : List Ent} {k : Nat} : ((E.map entV).flatten).drop (k * 5) = ((E.drop k).map entV).flatten := by
  induction k generalizing E with
  | zero => simp
  | succ k ih =>
    cases E with
    | nil => simp
    | cons x E =>
      rw [List.map_cons, List.flatten_cons, List.drop_succ_cons, ← ih, Nat.add_mul, Nat.one_mul, Nat.add_comm (k * 5) 5, ← List.drop_drop, List.drop_left' (show (entV x).length = 5 from rfl)]
theorem entF_take {E : List Ent} {k : Nat} : ((E.map entV).flatten).take (k * 5) = ((E.take k).map entV).flatten := by
  induction k generalizing E with
  | zero => simp
  | succ k ih =>
    cases E with
    | nil => simp
    | cons x E =>
      rw [List.map_cons, List.flatten_cons, List.take_succ_cons, List.map_cons, List.flatten_cons, ← ih, Nat.add_mul, Nat.one_mul, Nat.add_comm (k * 5) 5, List.take_append, show (entV x).length = 5 from rfl, List.take_of_length_le (by show 5 ≤ _; omega), show 5 + k * 5 - 5 = k * 5 by omega]
theorem flat_set {E : List Ent} {k : Nat} {e : Ent} (hk : k < E.length) : sets ((E.map entV).flatten) (k * 5) (entV e) = ((E.set k e).map entV).flatten := by
  have hl : ((E.map entV).flatten).length = E.length * 5 := by rw [flatten_length entV_rows, List.length_map]
  have h5 : (entV e).length = 5 := rfl
  rw [sets_all (by rw [hl, h5]; omega), h5, entF_take, show k * 5 + 5 = (k + 1) * 5 by omega, entF_drop]
  rw [List.set_eq_take_append_cons_drop, if_pos hk]
  simp
theorem seal_new {L : Lg} {key : ByteArray} (hE : L.E.length ≠ 0) (hS : L.S = []) : sealS L key = (⟨L.d, L.c, L.E, [newSeal L key]⟩, 0) := by
  unfold sealS
  rw [hS, if_neg (by show ¬(L.E.length : Int) = 0; omega), if_neg (by simp)]
  rfl
theorem seal_holds {L : Lg} {key : ByteArray} {k : Nat} {e : Ent} (hk : k < L.E.length) (hne : L.E[k] ≠ e) (hB : checkF ⟨L.d, L.c, L.E.set k e, [newSeal L key]⟩ = 0) : colF ⟨L.d, L.c, L.E, [newSeal L key]⟩ ⟨L.d, L.c, L.E.set k e, [newSeal L key]⟩ L.E.length = true := by
  have hg := (good_iff.1 hB).d
  refine chain_binds (A := ⟨L.d, L.c, L.E, [newSeal L key]⟩) (B := ⟨L.d, L.c, L.E.set k e, [newSeal L key]⟩) rfl (Nat.le_refl _) (by simp) ?_ ?_
  · change chkD ⟨L.d, L.c, L.E.set k e, [newSeal L key]⟩ [newSeal L key] = true at hg
    rw [chkD] at hg
    split at hg
    · rename_i h
      have h2 : (newSeal L key).end_ = (L.E.length : Int) := rfl
      rw [h2, Int.toNat_natCast] at h
      exact h
    · cases hg
  · rintro ⟨_, h⟩
    simp only [List.take_length] at h
    rw [List.take_of_length_le (by simp)] at h
    have h1 : (L.E.set k e)[k]? = some e := by simp [hk]
    rw [← h, List.getElem?_eq_getElem hk] at h1
    exact hne (Option.some.inj h1)

theorem law7 {σ : H} {l : List Value} {L : Lg} {a1 a2 : Option Addr} {b1 b2 : Nat} {key other : ByteArray} {n : Int} {e : Ent} (h : LgA σ l L a1 b1 a2 b2) (hks : key.size ≤ maxLen) (hos : other.size ≤ maxLen) (hn0 : 0 ≤ n) (hn1 : n ≤ 255) (he : e.raw) (hH : HGlob σ) (hG : Glob σ) :
    App Tryd.prog (.func 7) #[] #[.agg l.toArray, .string key, .string other, .int .u8 n, .agg (entV e).toArray] σ fun v σ' => Old σ σ' ∧ v = .bool true := by
  refine App.of_sem mixed Tryd.func7 t7 k7 r7 (Nat.le_of_ble_eq_true rfl) ?_
  have lR : l.length = 19 := h.r.len
  have tR : l.take 19 = l := h.r.take
  have c17 : l[17]? = some (.slice a1 L.E.length b1) := by rw [h.r.l]; exact rec17 h.r.d
  have c18 : l[18]? = some (.slice a2 L.S.length b2) := by rw [h.r.l]; exact rec18 h.r.d
  have fin : ∀ M : List Blk, Old σ (ap σ M) := fun M => .ap
  rw [← ap_nil (σ := σ)]
  unfold s7
  simp only [↓eD0, ↓eD1, eC0, eC1, eC2, eC3, eC4, eC5, eC6, wantedE, ↓reduceIte, Nat.reduceEqDiff, yA, yB, reread, yC, yD, yE, yF, yG, yH, Value.cells, yI, yJ, outE, lks, lkR, rdV, neg1, evs, opt, Nat.reduceAdd, Nat.reduceMul, and_self, reduceCtorEq, yK, yL, yM, Value.oneCell', yN, yO, sets, fillL, Nat.reduceLeDiff, yP, yQ, yR, yS, yT, argsE, yU, yV, yW, Int.reduceLT, Int.reduceLE, Int.reduceToNat, Int.reduceEq, Nat.reduceLT, lR, tR, entV]
  refine appK_of (law_right_app (h.r.Old .ap) h.cE (hG.Old .ap)) ?_
  rintro _ _ ⟨e2, rfl⟩
  rw [e2]
  clear e2
  by_cases hf : lrightF L = true ∧ L.E.length ≠ 0 ∧ L.S.length = 0 ∧ key.size ≤ 200 ∧ other.size ≤ 200 ∧ e.data.size ≤ 600
  case neg =>
    have hcs : lrightF L = false ∨ (lrightF L = true ∧ decide ((L.E.length : Int) = 0) = true) ∨ (lrightF L = true ∧ decide ((L.E.length : Int) = 0) = false ∧ decide ((L.S.length : Int) = 0) = false) ∨ (lrightF L = true ∧ decide ((L.E.length : Int) = 0) = false ∧ decide ((L.S.length : Int) = 0) = true ∧ decide ((200 : Int) < (key.size : Int)) = true) ∨ (lrightF L = true ∧ decide ((L.E.length : Int) = 0) = false ∧ decide ((L.S.length : Int) = 0) = true ∧ decide ((200 : Int) < (key.size : Int)) = false ∧ decide ((200 : Int) < (other.size : Int)) = true) ∨ (lrightF L = true ∧ decide ((L.E.length : Int) = 0) = false ∧ decide ((L.S.length : Int) = 0) = true ∧ decide ((200 : Int) < (key.size : Int)) = false ∧ decide ((200 : Int) < (other.size : Int)) = false ∧ decide ((600 : Int) < (e.data.size : Int)) = true) := by
      cases h1 : lrightF L with
      | false => exact .inl rfl
      | true =>
        refine .inr ?_
        by_cases h2 : L.E.length = 0
        · exact .inl ⟨rfl, by rw [decide_eq_true]; omega⟩
        refine .inr ?_
        by_cases h3 : L.S.length = 0
        case neg => exact .inl ⟨rfl, by rw [decide_eq_false]; omega, by rw [decide_eq_false]; omega⟩
        refine .inr ?_
        by_cases h4 : key.size ≤ 200
        case neg => exact .inl ⟨rfl, by rw [decide_eq_false]; omega, by rw [decide_eq_true]; omega, by rw [decide_eq_true]; omega⟩
        refine .inr ?_
        by_cases h5 : other.size ≤ 200
        case neg => exact .inl ⟨rfl, by rw [decide_eq_false]; omega, by rw [decide_eq_true]; omega, by rw [decide_eq_false]; omega, by rw [decide_eq_true]; omega⟩
        have h6 : ¬e.data.size ≤ 600 := fun h6 => hf ⟨h1, h2, h3, h4, h5, h6⟩
        exact .inr ⟨rfl, by rw [decide_eq_false]; omega, by rw [decide_eq_true]; omega, by rw [decide_eq_false]; omega, by rw [decide_eq_false]; omega, by rw [decide_eq_true]; omega⟩
    rcases hcs with z1 | ⟨z1, z2⟩ | ⟨z1, z2, z3⟩ | ⟨z1, z2, z3, z4⟩ | ⟨z1, z2, z3, z4, z5⟩ | ⟨z1, z2, z3, z4, z5, z6⟩
    case' inl => simp only [↓eD0, ↓eD1, eC0, eC1, eC2, eC3, eC4, eC5, eC6, wantedE, ↓reduceIte, Nat.reduceEqDiff, yA, yB, reread, yC, yD, yE, yF, yG, yH, Value.cells, yI, yJ, outE, lks, lkR, rdV, neg1, evs, opt, Nat.reduceAdd, Nat.reduceMul, and_self, reduceCtorEq, yK, yL, yM, Value.oneCell', yN, yO, sets, fillL, Nat.reduceLeDiff, yP, yQ, yR, yS, yT, argsE, yU, yV, yW, Int.reduceLT, Int.reduceLE, Int.reduceToNat, Int.reduceEq, Nat.reduceLT, z1, Bool.not_false, undef_eq]
    case' inr.inl => simp only [↓eD0, ↓eD1, eC0, eC1, eC2, eC3, eC4, eC5, eC6, wantedE, ↓reduceIte, Nat.reduceEqDiff, yA, yB, reread, yC, yD, yE, yF, yG, yH, Value.cells, yI, yJ, outE, lks, lkR, rdV, neg1, evs, opt, Nat.reduceAdd, Nat.reduceMul, and_self, reduceCtorEq, yK, yL, yM, Value.oneCell', yN, yO, sets, fillL, Nat.reduceLeDiff, yP, yQ, yR, yS, yT, argsE, yU, yV, yW, Int.reduceLT, Int.reduceLE, Int.reduceToNat, Int.reduceEq, Nat.reduceLT, z1, z2, c17, Bool.not_false, Bool.not_true, undef_eq]
    case' inr.inr.inl => simp only [↓eD0, ↓eD1, eC0, eC1, eC2, eC3, eC4, eC5, eC6, wantedE, ↓reduceIte, Nat.reduceEqDiff, yA, yB, reread, yC, yD, yE, yF, yG, yH, Value.cells, yI, yJ, outE, lks, lkR, rdV, neg1, evs, opt, Nat.reduceAdd, Nat.reduceMul, and_self, reduceCtorEq, yK, yL, yM, Value.oneCell', yN, yO, sets, fillL, Nat.reduceLeDiff, yP, yQ, yR, yS, yT, argsE, yU, yV, yW, Int.reduceLT, Int.reduceLE, Int.reduceToNat, Int.reduceEq, Nat.reduceLT, z1, z2, z3, c17, c18, Bool.not_false, Bool.not_true, undef_eq]
    case' inr.inr.inr.inl => simp only [↓eD0, ↓eD1, eC0, eC1, eC2, eC3, eC4, eC5, eC6, wantedE, ↓reduceIte, Nat.reduceEqDiff, yA, yB, reread, yC, yD, yE, yF, yG, yH, Value.cells, yI, yJ, outE, lks, lkR, rdV, neg1, evs, opt, Nat.reduceAdd, Nat.reduceMul, and_self, reduceCtorEq, yK, yL, yM, Value.oneCell', yN, yO, sets, fillL, Nat.reduceLeDiff, yP, yQ, yR, yS, yT, argsE, yU, yV, yW, Int.reduceLT, Int.reduceLE, Int.reduceToNat, Int.reduceEq, Nat.reduceLT, z1, z2, z3, z4, c17, c18, Bool.not_false, Bool.not_true, undef_eq]
    case' inr.inr.inr.inr.inl => simp only [↓eD0, ↓eD1, eC0, eC1, eC2, eC3, eC4, eC5, eC6, wantedE, ↓reduceIte, Nat.reduceEqDiff, yA, yB, reread, yC, yD, yE, yF, yG, yH, Value.cells, yI, yJ, outE, lks, lkR, rdV, neg1, evs, opt, Nat.reduceAdd, Nat.reduceMul, and_self, reduceCtorEq, yK, yL, yM, Value.oneCell', yN, yO, sets, fillL, Nat.reduceLeDiff, yP, yQ, yR, yS, yT, argsE, yU, yV, yW, Int.reduceLT, Int.reduceLE, Int.reduceToNat, Int.reduceEq, Nat.reduceLT, z1, z2, z3, z4, z5, c17, c18, Bool.not_false, Bool.not_true, undef_eq]
    case' inr.inr.inr.inr.inr => simp only [↓eD0, ↓eD1, eC0, eC1, eC2, eC3, eC4, eC5, eC6, wantedE, ↓reduceIte, Nat.reduceEqDiff, yA, yB, reread, yC, yD, yE, yF, yG, yH, Value.cells, yI, yJ, outE, lks, lkR, rdV, neg1, evs, opt, Nat.reduceAdd, Nat.reduceMul, and_self, reduceCtorEq, yK, yL, yM, Value.oneCell', yN, yO, sets, fillL, Nat.reduceLeDiff, yP, yQ, yR, yS, yT, argsE, yU, yV, yW, Int.reduceLT, Int.reduceLE, Int.reduceToNat, Int.reduceEq, Nat.reduceLT, z1, z2, z3, z4, z5, z6, c17, c18, Bool.not_false, Bool.not_true, undef_eq]
    all_goals
      refine appK_of (sanity_app (hH.Old (fin _))) ?_
      rintro _ _ ⟨e2, rfl⟩
      rw [e2]
      clear e2
      simp only [↓eD0, ↓eD1, eC0, eC1, eC2, eC3, eC4, eC5, eC6, wantedE, ↓reduceIte, Nat.reduceEqDiff, yA, yB, reread, yC, yD, yE, yF, yG, yH, Value.cells, yI, yJ, outE, lks, lkR, rdV, neg1, evs, opt, Nat.reduceAdd, Nat.reduceMul, and_self, reduceCtorEq, yK, yL, yM, Value.oneCell', yN, yO, sets, fillL, Nat.reduceLeDiff, yP, yQ, yR, yS, yT, argsE, yU, yV, yW, Int.reduceLT, Int.reduceLE, Int.reduceToNat, Int.reduceEq, Nat.reduceLT, undef_eq]
      rw [ap_nil]
      first | exact ⟨fin _, rfl⟩ | exact fin _
  obtain ⟨z1, f2, f3, f4, f5, f6⟩ := hf
  have z2 : decide ((L.E.length : Int) = 0) = false := by rw [decide_eq_false]; omega
  have z3 : decide ((L.S.length : Int) = 0) = true := by rw [decide_eq_true]; omega
  have z4 : decide ((200 : Int) < (key.size : Int)) = false := by rw [decide_eq_false]; omega
  have z5 : decide ((200 : Int) < (other.size : Int)) = false := by rw [decide_eq_false]; omega
  have z6 : decide ((600 : Int) < (e.data.size : Int)) = false := by rw [decide_eq_false]; omega
  have hS : L.S = [] := List.length_eq_zero_iff.1 f3
  have g1 : lfewF L = true := by have := z1; unfold lrightF at this; rw [Bool.and_eq_true] at this; exact this.1
  have V := h.v g1
  have hk2 : key.size < 100000000000 := by omega
  have ho2 : other.size < 100000000000 := by omega
  have efit : e.fit := ⟨he.1, he.2.1, he.2.2.1, he.2.2.2, by omega⟩
  have nE := V.fit.n
  simp only [↓eD0, ↓eD1, eC0, eC1, eC2, eC3, eC4, eC5, eC6, wantedE, ↓reduceIte, Nat.reduceEqDiff, yA, yB, reread, yC, yD, yE, yF, yG, yH, Value.cells, yI, yJ, outE, lks, lkR, rdV, neg1, evs, opt, Nat.reduceAdd, Nat.reduceMul, and_self, reduceCtorEq, yK, yL, yM, Value.oneCell', yN, yO, sets, fillL, Nat.reduceLeDiff, yP, yQ, yR, yS, yT, argsE, yU, yV, yW, Int.reduceLT, Int.reduceLE, Int.reduceToNat, Int.reduceEq, Nat.reduceLT, z1, z2, z3, z4, z5, z6, c17, c18, lR, tR, Bool.not_true, undef_eq]
  have e5 : entV e = [.int .i64 e.kind, .int .i64 e.cpu, .int .i64 e.count, .int .i64 e.n, .string e.data] := rfl
  rw [← e5]
  generalize hT : ap σ [.cells 0 l (0, 0), .cells 0 (entV e) (0, 0)] = T
  have oT : Old σ T := by rw [← hT]; exact .ap
  have q0 : T[σ.size]? = some (.cells 0 l (0, 0)) := by rw [← hT, ap_new0]; rfl
  have Q1 : T[σ.size + 1]? = some (.cells 0 (entV e) (0, 0)) := by rw [← hT, ap_new]; rfl
  have sT : σ.size + 2 ≤ T.size := by rw [← hT]; simp [ap_size]
  clear hT
  have V := V.Old oT
  have hG := hG.Old oT
  have hH := hH.Old oT
  refine appK_of (lseal_app (key := key) V hk2 hH) ?_
  rintro v τ ⟨ho, lA, a1', c1', a2', c2', rfl, -, VA, -, -⟩
  have VA := VA (by rw [seal_new f2 hS])
  rw [seal_new f2 hS] at VA ⊢
  rw [← ap_nil (σ := τ)]
  have u18 : lA[18]? = some (.slice a2' 1 c2') := VA.c18
  have d11 : decide (((1 : Nat) : Int) = 1) = true := rfl
  have u17 : lA[17]? = some (.slice a1' L.E.length c1') := VA.c17
  simp only [↓eD0, ↓eD1, eC0, eC1, eC2, eC3, eC4, eC5, eC6, wantedE, ↓reduceIte, Nat.reduceEqDiff, yA, yB, reread, yC, yD, yE, yF, yG, yH, Value.cells, yI, yJ, outE, lks, lkR, rdV, neg1, evs, opt, Nat.reduceAdd, Nat.reduceMul, and_self, reduceCtorEq, yK, yL, yM, Value.oneCell', yN, yO, sets, fillL, Nat.reduceLeDiff, yP, yQ, yR, yS, yT, argsE, yU, yV, yW, Int.reduceLT, Int.reduceLE, Int.reduceToNat, Int.reduceEq, Nat.reduceLT, VA.len, VA.sets, VA.take, VA.one, VA.ne, u17, u18, d11, Bool.not_true, undef_eq]
  have hoT : Old τ (ap τ [.cells 1 lA (0, 0), .cells 1 lA (0, 0), .cells 0 [] (0, 0)]) := .ap
  have hsT : (ap τ [.cells 1 lA (0, 0), .cells 1 lA (0, 0), .cells 0 [] (0, 0)]).size = τ.size + 3 := by simp [ap_size]
  have m0 : (ap τ [.cells 1 lA (0, 0), .cells 1 lA (0, 0), .cells 0 [] (0, 0)])[τ.size]? = some (.cells 1 lA (0, 0)) := by rw [ap_new0]; rfl
  have m1 : (ap τ [.cells 1 lA (0, 0), .cells 1 lA (0, 0), .cells 0 [] (0, 0)])[τ.size + 1]? = some (.cells 1 lA (0, 0)) := by rw [ap_new]; rfl
  have m2 : (ap τ [.cells 1 lA (0, 0), .cells 1 lA (0, 0), .cells 0 [] (0, 0)])[τ.size + 2]? = some (.cells 0 [] (0, 0)) := by rw [ap_new]; rfl
  generalize ap τ [.cells 1 lA (0, 0), .cells 1 lA (0, 0), .cells 0 [] (0, 0)] = T2 at hoT hsT m0 m1 m2 ⊢
  have hss : (sized (τ.size + 2)).size = τ.size + 2 := sized_size
  have g0 : Grown (sized (τ.size + 2)) T2 5 (.slice (some ⟨τ.size + 2, 0, none⟩) 0 0) [] 0 := Grown.lit rfl (by decide) (by rw [hss]; omega) m2
  have x1 := row_xcells (VA.E.Old hoT)
  rw [List.length_map] at x1
  obtain ⟨vA, τA, hap, AP⟩ := append_grown (bytes := 48) g0 (by omega) (by rw [hss]; omega) x1 (by rw [flatten_length entV_rows]; simp) entV_ones (by simp only; omega) (by omega)
  simp only [Nat.zero_add, List.nil_append] at AP
  have oA : Old τ τA := AP.Old' g0 (by rw [hss]; omega) hoT
  have p0 := AP.low g0 (by rw [hss]; omega) m0
  have p1' := AP.low g0 (by rw [hss]; omega) m1
  refine onV_of hap ?_
  obtain ⟨gl, gb, gg⟩ := AP.grown
  rcases gg with ⟨gg, _⟩ | ⟨bE, ver, cap, hbE, hcap, rfl, hcE⟩
  · exact absurd gg f2
  obtain ⟨lB, hlB⟩ : ∃ lB, lB = recC L.d L.c (.slice (some ⟨bE, 0, none⟩) L.E.length cap) (.slice a2' 1 c2') := ⟨_, rfl⟩
  have dL := V.fit.d
  have lAe : lA = recC L.d L.c (.slice a1' L.E.length c1') (.slice a2' 1 c2') := VA.l
  have rc17 : ∀ v, (recC L.d L.c (.slice a1' L.E.length c1') (.slice a2' 1 c2')).set 17 v = recC L.d L.c v (.slice a2' 1 c2') := fun v => rec_s17 dL
  have w17 : wrN τA ⟨τ.size + 1, 17, none⟩ [.slice (some ⟨bE, 0, none⟩) L.E.length cap] = some (τA.setIfInBounds (τ.size + 1) (.cells 2 lB (0, 0))) := by
    rw [wrN_eq, if_neg (by simp), p1', wrc_cells, if_pos ⟨by rw [VA.len]; show 17 + 1 ≤ 19; omega, rfl⟩]
    show some (τA.setIfInBounds (τ.size + 1) (.cells 2 (lA.set 17 _) (0, 0))) = _
    rw [lAe, rc17, hlB]
  have hne1 : bE ≠ τ.size + 1 := by rw [hss] at hbE; omega
  have hne0 : bE ≠ τ.size := by rw [hss] at hbE; omega
  have j0 := get_set (k := .cells 2 lB (0, 0)) p1'
  have jA : (τA.setIfInBounds (τ.size + 1) (.cells 2 lB (0, 0)))[τ.size]? = some (.cells 1 lA (0, 0)) := (get_set_ne (by omega)).trans p0
  have jE : (τA.setIfInBounds (τ.size + 1) (.cells 2 lB (0, 0)))[bE]? = some (.cells ver ((L.E.map entV).flatten) (0, 0)) := (get_set_ne (Ne.symm hne1)).trans hcE
  have oB : Old τ (τA.setIfInBounds (τ.size + 1) (.cells 2 lB (0, 0))) := oA.set (by omega)
  have s17 : lB[17]? = some (.slice (some ⟨bE, 0, none⟩) L.E.length cap) := by rw [hlB]; exact rec17 dL
  have j17 : rd1 (τA.setIfInBounds (τ.size + 1) (.cells 2 lB (0, 0))) ⟨τ.size + 1, 17, none⟩ = some (.slice (some ⟨bE, 0, none⟩) L.E.length cap) := by rw [rd1_eq, j0]; exact s17
  generalize τA.setIfInBounds (τ.size + 1) (.cells 2 lB (0, 0)) = τB at w17 j0 jA jE oB j17
  have hwn : IntKind.wrap .i64 n = n := wrap64' (by omega) (by omega)
  have hl0 : ((L.E.length : Int) = 0) = False := eq_false (by omega)
  have hk0 : 0 ≤ n.tmod (L.E.length : Int) := Int.tmod_nonneg _ hn0
  have hk1 : n.tmod (L.E.length : Int) < (L.E.length : Int) := Int.tmod_lt_of_pos _ (by omega)
  obtain ⟨K, hK⟩ : ∃ K : Nat, n.tmod (L.E.length : Int) = (K : Int) := ⟨(n.tmod (L.E.length : Int)).toNat, by omega⟩
  rw [hK] at hk1
  have kl : K < L.E.length := by omega
  have bd : (0 : Int) ≤ (K : Int) ∧ (K : Int) < (L.E.length : Int) := by omega
  have rE : rdN τB ⟨bE, 0 + K * 5, none⟩ 5 = some (entV L.E[K]) := by
    have hx : (L.E.map entV)[K]? = some (entV L.E[K]) := by simp [kl]
    obtain ⟨g1, g2⟩ := flatten_get entV_rows hx
    rw [rdN_eq, if_neg (by omega), jE, rdcN_cells, if_pos (by rw [Nat.zero_add]; exact g1), Nat.zero_add, g2]
  rw [Nat.zero_add] at rE
  have r1 : rdN τB ⟨σ.size + 1, 0, none⟩ 5 = some (entV e) := rdb_of Q1 (ho.trans oB) rfl
  have aeE := ent_eq (a := L.E[K]) (b := e)
  have wE : wrN τB ⟨bE, K * 5, none⟩ (entV e) = some (τB.setIfInBounds bE (.cells (ver + 1) (((L.E.set K e).map entV).flatten) (0, 0))) := by
    rw [wrN_eq, if_neg (by simp [entV]), jE, wrc_cells, if_pos ⟨by rw [flatten_length entV_rows, List.length_map]; show K * 5 + 5 ≤ _; omega, rfl⟩]
    show some (τB.setIfInBounds bE (.cells (ver + 1) (sets _ (K * 5) (entV e)) (0, 0))) = _
    rw [flat_set kl]
  have oC : Old τ (τB.setIfInBounds bE (.cells (ver + 1) (((L.E.set K e).map entV).flatten) (0, 0))) := oB.set (by rw [hss] at hbE; omega)
  have iE := get_set (k := .cells (ver + 1) (((L.E.set K e).map entV).flatten) (0, 0)) jE
  have i0 : (τB.setIfInBounds bE (.cells (ver + 1) (((L.E.set K e).map entV).flatten) (0, 0)))[τ.size + 1]? = some (.cells 2 lB (0, 0)) := (get_set_ne hne1).trans j0
  have iA : (τB.setIfInBounds bE (.cells (ver + 1) (((L.E.set K e).map entV).flatten) (0, 0)))[τ.size]? = some (.cells 1 lA (0, 0)) := (get_set_ne hne0).trans jA
  generalize τB.setIfInBounds bE (.cells (ver + 1) (((L.E.set K e).map entV).flatten) (0, 0)) = τC at wE oC iE i0 iA
  have lBl : lB.length = 19 := by rw [hlB]; exact rec_len dL
  have rB := rdN_all i0 lBl
  have rA := rdN_all iA VA.len
  have VC := VA.Old oC
  have hls : (L.E.set K e).length = L.E.length := by simp
  have VB : LgV τC lB ⟨L.d, L.c, L.E.set K e, [newSeal L key]⟩ (some ⟨bE, 0, none⟩) cap a2' c2' := by
    refine ⟨by simp only [hls]; exact hlB, ?_, VC.S, ?_, VC.cS, ⟨dL, VC.fit.c, ?_, by simp only [hls]; omega⟩, VC.ok, VC.nS⟩
    · have : Grown (sized (τ.size + 2)) τC 5 (.slice (some ⟨bE, 0, none⟩) L.E.length cap) ((L.E.set K e).map entV).flatten ((L.E.set K e).map entV).length := ⟨by rw [flatten_length entV_rows], by simp only [List.length_map, hls]; exact gb, .inr ⟨bE, ver + 1, cap, hbE, by simp only [List.length_map, hls]; exact hcap, by simp only [List.length_map, hls], iE⟩⟩
      simp only [hls]
      exact this.Row entV_rows
    · simp only [hls]
      refine ⟨_, _, _, rfl, ?_, ?_⟩
      · rcases hcap with rfl | rfl
        · rw [capLow_inex gb]; exact Nat.le_refl _
        · rw [capLow_small gb]; exact Nat.le_refl _
      · rcases hcap with rfl | rfl
        · exact .inr (csz_inex gb)
        · exact .inl (csz_small gb)
    · intro x hx
      rcases List.mem_or_eq_of_mem_set hx with hx | hx
      · exact V.fit.E x hx
      · rw [hx]; exact efit
  have le5 : (entV e).length = 5 := rfl
  simp only [↓eD0, ↓eD1, eC0, eC1, eC2, eC3, eC4, eC5, eC6, wantedE, ↓reduceIte, Nat.reduceEqDiff, yA, yB, reread, yC, yD, yE, yF, yG, yH, Value.cells, yI, yJ, outE, lks, lkR, rdV, neg1, evs, opt, Nat.reduceAdd, Nat.reduceMul, and_self, reduceCtorEq, yK, yL, yM, Value.oneCell', yN, yO, sets, fillL, Nat.reduceLeDiff, yP, yQ, yR, yS, yT, argsE, yU, yV, yW, Int.reduceLT, Int.reduceLE, Int.reduceToNat, Int.reduceEq, Nat.reduceLT, w17, j17, hwn, hl0, hK, bd, Int.toNat_natCast, rE, r1, aeE, wE, rB, le5, undef_eq]
  have oTC : Old T τC := ho.trans oC
  refine appK_of (lcheck_app VB (hH.Old oTC)) ?_
  rintro _ _ ⟨e2, rfl⟩
  rw [e2]
  clear e2
  have t17 : rd1 τC ⟨τ.size + 1, 17, none⟩ = some (.slice (some ⟨bE, 0, none⟩) L.E.length cap) := by rw [rd1_eq, i0]; exact s17
  have hcs : decide (checkF ⟨L.d, L.c, L.E.set K e, [newSeal L key]⟩ = 0) = false ∨ (decide (checkF ⟨L.d, L.c, L.E.set K e, [newSeal L key]⟩ = 0) = true ∧ decide (L.E[K] = e) = true) ∨ (decide (checkF ⟨L.d, L.c, L.E.set K e, [newSeal L key]⟩ = 0) = true ∧ decide (L.E[K] = e) = false ∧ colF ⟨L.d, L.c, L.E, [newSeal L key]⟩ ⟨L.d, L.c, L.E.set K e, [newSeal L key]⟩ L.E.length = true) := by
    by_cases h1 : checkF ⟨L.d, L.c, L.E.set K e, [newSeal L key]⟩ = 0
    · by_cases h2 : L.E[K] = e
      · exact .inr (.inl ⟨decide_eq_true h1, decide_eq_true h2⟩)
      · exact .inr (.inr ⟨decide_eq_true h1, decide_eq_false h2, seal_holds kl h2 h1⟩)
    · exact .inl (decide_eq_false h1)
  have r0 : rdN τC ⟨σ.size, 0, none⟩ 19 = some l := rdb_of q0 oTC lR
  rcases hcs with y1 | ⟨y1, y2⟩ | ⟨y1, y2, y3⟩
  case' inr.inl => simp only [↓eD0, ↓eD1, eC0, eC1, eC2, eC3, eC4, eC5, eC6, wantedE, ↓reduceIte, Nat.reduceEqDiff, yA, yB, reread, yC, yD, yE, yF, yG, yH, Value.cells, yI, yJ, outE, lks, lkR, rdV, neg1, evs, opt, Nat.reduceAdd, Nat.reduceMul, and_self, reduceCtorEq, yK, yL, yM, Value.oneCell', yN, yO, sets, fillL, Nat.reduceLeDiff, yP, yQ, yR, yS, yT, argsE, yU, yV, yW, Int.reduceLT, Int.reduceLE, Int.reduceToNat, Int.reduceEq, Nat.reduceLT, y1, r0, Bool.not_true, undef_eq]
  case' inr.inr.inl => simp only [↓eD0, ↓eD1, eC0, eC1, eC2, eC3, eC4, eC5, eC6, wantedE, ↓reduceIte, Nat.reduceEqDiff, yA, yB, reread, yC, yD, yE, yF, yG, yH, Value.cells, yI, yJ, outE, lks, lkR, rdV, neg1, evs, opt, Nat.reduceAdd, Nat.reduceMul, and_self, reduceCtorEq, yK, yL, yM, Value.oneCell', yN, yO, sets, fillL, Nat.reduceLeDiff, yP, yQ, yR, yS, yT, argsE, yU, yV, yW, Int.reduceLT, Int.reduceLE, Int.reduceToNat, Int.reduceEq, Nat.reduceLT, y1, y2, r0, Bool.not_true, undef_eq]
  case' inr.inr.inr =>
    simp only [↓eD0, ↓eD1, eC0, eC1, eC2, eC3, eC4, eC5, eC6, wantedE, ↓reduceIte, Nat.reduceEqDiff, yA, yB, reread, yC, yD, yE, yF, yG, yH, Value.cells, yI, yJ, outE, lks, lkR, rdV, neg1, evs, opt, Nat.reduceAdd, Nat.reduceMul, and_self, reduceCtorEq, yK, yL, yM, Value.oneCell', yN, yO, sets, fillL, Nat.reduceLeDiff, yP, yQ, yR, yS, yT, argsE, yU, yV, yW, Int.reduceLT, Int.reduceLE, Int.reduceToNat, Int.reduceEq, Nat.reduceLT, y1, y2, rA, rB, t17, Bool.not_false, undef_eq]
    refine appK_of (coll_app VC VB (n := L.E.length) (Nat.le_refl _) (by simp) (hH.Old oTC)) ?_
    rintro _ _ ⟨e2, rfl⟩
    rw [e2, y3]
    clear e2
    simp only [↓eD0, ↓eD1, eC0, eC1, eC2, eC3, eC4, eC5, eC6, wantedE, ↓reduceIte, Nat.reduceEqDiff, yA, yB, reread, yC, yD, yE, yF, yG, yH, Value.cells, yI, yJ, outE, lks, lkR, rdV, neg1, evs, opt, Nat.reduceAdd, Nat.reduceMul, and_self, reduceCtorEq, yK, yL, yM, Value.oneCell', yN, yO, sets, fillL, Nat.reduceLeDiff, yP, yQ, yR, yS, yT, argsE, yU, yV, yW, Int.reduceLT, Int.reduceLE, Int.reduceToNat, Int.reduceEq, Nat.reduceLT, r0, Bool.not_true, undef_eq]
  all_goals
    have oσC : Old σ τC := oT.trans oTC
    refine appK_of (lseal_app (key := other) (V.Old oTC) ho2 (hH.Old oTC)) ?_
    rintro v τ5 ⟨ho5, l5, a5, c5, a5', c5', rfl, -, V5, -, -⟩
    have V5 := V5 (by rw [seal_new f2 hS])
    rw [seal_new f2 hS] at V5 ⊢
    have x18 : l5[18]? = some (.slice a5' 1 c5') := V5.c18
    have ra : ∀ M, rdN (ap τ5 M) ⟨τ.size, 0, none⟩ 19 = some lA := fun M => rdb_of iA (ho5.trans .ap) VA.len
    have ra18 : ∀ M, rd1 (ap τ5 M) ⟨τ.size, 18, none⟩ = some (.slice a2' 1 c2') := fun M => rd1_of iA (ho5.trans .ap) VA.c18
    rw [← ap_nil (σ := τ5)]
    simp only [↓eD0, ↓eD1, eC0, eC1, eC2, eC3, eC4, eC5, eC6, wantedE, ↓reduceIte, Nat.reduceEqDiff, yA, yB, reread, yC, yD, yE, yF, yG, yH, Value.cells, yI, yJ, outE, lks, lkR, rdV, neg1, evs, opt, Nat.reduceAdd, Nat.reduceMul, and_self, reduceCtorEq, yK, yL, yM, Value.oneCell', yN, yO, sets, fillL, Nat.reduceLeDiff, yP, yQ, yR, yS, yT, argsE, yU, yV, yW, Int.reduceLT, Int.reduceLE, Int.reduceToNat, Int.reduceEq, Nat.reduceLT, V5.len, V5.sets, V5.take, V5.one, V5.ne, x18, d11, ra, Bool.not_true, undef_eq]
    refine appK_of (lsealed_app (key := other) ((VC.Old ho5).Old .ap) ho2 (hH.Old ((oTC.trans ho5).trans .ap))) ?_
    rintro _ _ ⟨e2, rfl⟩
    rw [e2]
    clear e2
    simp only [↓eD0, ↓eD1, eC0, eC1, eC2, eC3, eC4, eC5, eC6, wantedE, ↓reduceIte, Nat.reduceEqDiff, yA, yB, reread, yC, yD, yE, yF, yG, yH, Value.cells, yI, yJ, outE, lks, lkR, rdV, neg1, evs, opt, Nat.reduceAdd, Nat.reduceMul, and_self, reduceCtorEq, yK, yL, yM, Value.oneCell', yN, yO, sets, fillL, Nat.reduceLeDiff, yP, yQ, yR, yS, yT, argsE, yU, yV, yW, Int.reduceLT, Int.reduceLE, Int.reduceToNat, Int.reduceEq, Nat.reduceLT, undef_eq]
    refine appK_of (sanity_app (hH.Old ((oTC.trans ho5).trans .ap))) ?_
    rintro _ _ ⟨e2, rfl⟩
    rw [e2]
    clear e2
    obtain ⟨S1, hS1⟩ : ∃ S1, S1 = newSeal L key := ⟨_, rfl⟩
    obtain ⟨S2, hS2⟩ : ∃ S2, S2 = newSeal L other := ⟨_, rfl⟩
    have k1 : S1.ok := by rw [hS1]; exact (newSeal_ok nE).1
    have k2 : S2.ok := by rw [hS2]; exact (newSeal_ok nE).1
    have hsf : lsealedF ⟨L.d, L.c, L.E, [newSeal L key]⟩ other = if S1.seal_ = S2.seal_ then (endF [newSeal L key], 0) else (0, 8) := by
      unfold lsealedF
      show (if keyOk other [newSeal L key] = true then _ else _) = _
      rw [keyOk]
      have : (newSeal L key).seal_ = sealF other (newSeal L key).dig (newSeal L key).end_ ↔ S1.seal_ = S2.seal_ := by rw [hS1, hS2]; exact Iff.rfl
      by_cases hq : S1.seal_ = S2.seal_
      · rw [if_pos (this.2 hq), if_pos hq, keyOk, if_pos rfl]
      · rw [if_neg (fun hh => hq (this.1 hh)), if_neg hq, if_neg (by decide)]
    have y0 : ([newSeal L key].map seaV)[0]? = some (seaV S1) := by rw [hS1]; rfl
    have y5 : ([newSeal L other].map seaV)[0]? = some (seaV S2) := by rw [hS2]; rfl
    obtain ⟨bs, os, hbs, hrs⟩ := (VC.S.Old ho5).at y0
    obtain ⟨bt, ot, hbt, hrt⟩ := V5.S.at y5
    subst hbs hbt
    rw [Nat.zero_mul, Nat.add_zero] at hrs hrt
    have ld : ∀ S : Sea, S.ok → ((seaV S).drop 17).take 16 = digC S.seal_ := fun S hS => by
      unfold seaV
      rw [List.drop_succ_cons, List.drop_left' (by rw [digC_length, hS.1])]
      exact List.take_of_length_le (by rw [digC_length, hS.2]; exact Nat.le_refl _)
    have us : ∀ M, rdN (ap τ5 M) ⟨bs, os + 17, none⟩ 16 = some (digC S1.seal_) := fun M => by
      have := rdN_sub (rdN_old (l := M) hrs) (a := 17) (m := 16) (by omega)
      rwa [ld S1 k1] at this
    have ut : ∀ M, rdN (ap τ5 M) ⟨bt, ot + 17, none⟩ 16 = some (digC S2.seal_) := fun M => by
      have := rdN_sub (rdN_old (l := M) hrt) (a := 17) (m := 16) (by omega)
      rwa [ld S2 k2] at this
    have bd1 : (0 : Int) ≤ 0 ∧ (0 : Int) < ((1 : Nat) : Int) := by decide
    have aeS := aggEq_dig (a := S2.seal_) (b := S1.seal_) k2.2 k1.2
    have fin5 : ∀ M, Old σ (ap τ5 M) := fun M => (oσC.trans ho5).trans .ap
    rw [hsf]
    by_cases hq : S1.seal_ = S2.seal_
    · have q5 : decide (S2.seal_ = S1.seal_) = true := decide_eq_true hq.symm
      rw [if_pos hq]
      simp only [↓eD0, ↓eD1, eC0, eC1, eC2, eC3, eC4, eC5, eC6, wantedE, ↓reduceIte, Nat.reduceEqDiff, yA, yB, reread, yC, yD, yE, yF, yG, yH, Value.cells, yI, yJ, outE, lks, lkR, rdV, neg1, evs, opt, Nat.reduceAdd, Nat.reduceMul, and_self, reduceCtorEq, yK, yL, yM, Value.oneCell', yN, yO, sets, fillL, Nat.reduceLeDiff, yP, yQ, yR, yS, yT, argsE, yU, yV, yW, Int.reduceLT, Int.reduceLE, Int.reduceToNat, Int.reduceEq, Nat.reduceLT, x18, ra18, bd1, Int.toNat_zero, Nat.zero_mul, us, ut, aeS, q5, undef_eq]
      first | exact ⟨fin5 _, rfl⟩ | exact fin5 _
    · have q5 : decide (S2.seal_ = S1.seal_) = false := decide_eq_false fun hh => hq hh.symm
      rw [if_neg hq]
      simp only [↓eD0, ↓eD1, eC0, eC1, eC2, eC3, eC4, eC5, eC6, wantedE, ↓reduceIte, Nat.reduceEqDiff, yA, yB, reread, yC, yD, yE, yF, yG, yH, Value.cells, yI, yJ, outE, lks, lkR, rdV, neg1, evs, opt, Nat.reduceAdd, Nat.reduceMul, and_self, reduceCtorEq, yK, yL, yM, Value.oneCell', yN, yO, sets, fillL, Nat.reduceLeDiff, yP, yQ, yR, yS, yT, argsE, yU, yV, yW, Int.reduceLT, Int.reduceLE, Int.reduceToNat, Int.reduceEq, Nat.reduceLT, x18, ra18, bd1, Int.toNat_zero, Nat.zero_mul, us, ut, aeS, q5, undef_eq]
      first | exact ⟨fin5 _, rfl⟩ | exact fin5 _
end Go.Proofs.YtopnlllipkockaaDoor
