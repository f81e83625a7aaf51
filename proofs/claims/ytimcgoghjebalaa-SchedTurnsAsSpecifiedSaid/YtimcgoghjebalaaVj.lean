/- Walks and plain laws. Conditions: none. -/
import Derived.Test.YtimcgoghjebalaaVg
set_option linter.all false
set_option linter.unusedSimpArgs false
set_option linter.unusedVariables false
set_option maxRecDepth 10000
set_option maxHeartbeats 1000000
namespace Go.Proofs.Ytimcgoghjebalaa
open Go Go.Cn Go.RowKit

theorem rvalid_app {σ : H} {l : List Value} {B : Bud} (h : IsB σ l B) : App Try.prog (.func 21) #[] #[.agg l.toArray] σ fun v σ' => σ' = σ ∧ v = .bool (validF B) := by
  refine App.forget (App.of_sem mixed Try.func21 t21 k21 r21 (Nat.le_of_ble_eq_true rfl) ?_)
  obtain ⟨base, cap, rfl, hr, _⟩ := h
  rw [← ap_nil (σ := σ)]
  unfold s21
  simp only [↓eD0, ↓eD1, eC0, eC1, eC2, eC3, eC4, eC5, eC6, wantedE, ↓reduceIte, Nat.reduceEqDiff, Option.map_some, Option.map_none, reread, List.nil_append, List.cons_append, List.map_cons, List.map_nil, List.length_nil, List.length_cons, Value.cells, List.getElem?_cons_zero, List.getElem?_cons_succ, outE, lks, lkR, rdV, neg1, evs, opt, Nat.reduceAdd, Nat.reduceMul, and_self, reduceCtorEq, List.size_toArray, List.all_cons, List.all_nil, Value.oneCell', List.set_cons_zero, List.set_cons_succ, sets, fillL, Nat.reduceLeDiff, List.drop_succ_cons, List.drop_zero, List.take_succ_cons, List.take_zero, List.toList_toArray, argsE, Array.append_empty, Array.empty_append, List.getElem?_toArray, Int.reduceLT, Int.reduceLE, Int.reduceToNat, Int.reduceEq, Nat.reduceLT, budV]
  refine appK_of amount_app ?_
  rintro _ _ ⟨e2, rfl⟩
  rw [e2]
  clear e2
  by_cases a1 : Amt B.st
  case neg =>
    have d1 : decide (Amt B.st) = false := by simpa using a1
    simp only [↓eD0, ↓eD1, eC0, eC1, eC2, eC3, eC4, eC5, eC6, wantedE, ↓reduceIte, Nat.reduceEqDiff, Option.map_some, Option.map_none, reread, List.nil_append, List.cons_append, List.map_cons, List.map_nil, List.length_nil, List.length_cons, Value.cells, List.getElem?_cons_zero, List.getElem?_cons_succ, outE, lks, lkR, rdV, neg1, evs, opt, Nat.reduceAdd, Nat.reduceMul, and_self, reduceCtorEq, List.size_toArray, List.all_cons, List.all_nil, Value.oneCell', List.set_cons_zero, List.set_cons_succ, sets, fillL, Nat.reduceLeDiff, List.drop_succ_cons, List.drop_zero, List.take_succ_cons, List.take_zero, List.toList_toArray, argsE, Array.append_empty, Array.empty_append, List.getElem?_toArray, Int.reduceLT, Int.reduceLE, Int.reduceToNat, Int.reduceEq, Nat.reduceLT, d1, undef_eq]
    exact ⟨.ap, by simp [flat], by rw [valid_amt (fun h => a1 h.1)]⟩
  have d1 : decide (Amt B.st) = true := by simpa using a1
  simp only [↓eD0, ↓eD1, eC0, eC1, eC2, eC3, eC4, eC5, eC6, wantedE, ↓reduceIte, Nat.reduceEqDiff, Option.map_some, Option.map_none, reread, List.nil_append, List.cons_append, List.map_cons, List.map_nil, List.length_nil, List.length_cons, Value.cells, List.getElem?_cons_zero, List.getElem?_cons_succ, outE, lks, lkR, rdV, neg1, evs, opt, Nat.reduceAdd, Nat.reduceMul, and_self, reduceCtorEq, List.size_toArray, List.all_cons, List.all_nil, Value.oneCell', List.set_cons_zero, List.set_cons_succ, sets, fillL, Nat.reduceLeDiff, List.drop_succ_cons, List.drop_zero, List.take_succ_cons, List.take_zero, List.toList_toArray, argsE, Array.append_empty, Array.empty_append, List.getElem?_toArray, Int.reduceLT, Int.reduceLE, Int.reduceToNat, Int.reduceEq, Nat.reduceLT, d1, undef_eq]
  refine appK_of amount_app ?_
  rintro _ _ ⟨e2, rfl⟩
  rw [e2]
  clear e2
  by_cases a2 : Amt B.pg
  case neg =>
    have d2 : decide (Amt B.pg) = false := by simpa using a2
    simp only [↓eD0, ↓eD1, eC0, eC1, eC2, eC3, eC4, eC5, eC6, wantedE, ↓reduceIte, Nat.reduceEqDiff, Option.map_some, Option.map_none, reread, List.nil_append, List.cons_append, List.map_cons, List.map_nil, List.length_nil, List.length_cons, Value.cells, List.getElem?_cons_zero, List.getElem?_cons_succ, outE, lks, lkR, rdV, neg1, evs, opt, Nat.reduceAdd, Nat.reduceMul, and_self, reduceCtorEq, List.size_toArray, List.all_cons, List.all_nil, Value.oneCell', List.set_cons_zero, List.set_cons_succ, sets, fillL, Nat.reduceLeDiff, List.drop_succ_cons, List.drop_zero, List.take_succ_cons, List.take_zero, List.toList_toArray, argsE, Array.append_empty, Array.empty_append, List.getElem?_toArray, Int.reduceLT, Int.reduceLE, Int.reduceToNat, Int.reduceEq, Nat.reduceLT, d2, undef_eq]
    exact ⟨.ap, by simp [flat], by rw [valid_amt (fun h => a2 h.2)]⟩
  have d2 : decide (Amt B.pg) = true := by simpa using a2
  by_cases h3 : B.L.length ≤ 32
  case neg =>
    have d3 : decide ((32:Int) < (B.L.length:Int)) = true := by simp; omega
    simp only [↓eD0, ↓eD1, eC0, eC1, eC2, eC3, eC4, eC5, eC6, wantedE, ↓reduceIte, Nat.reduceEqDiff, Option.map_some, Option.map_none, reread, List.nil_append, List.cons_append, List.map_cons, List.map_nil, List.length_nil, List.length_cons, Value.cells, List.getElem?_cons_zero, List.getElem?_cons_succ, outE, lks, lkR, rdV, neg1, evs, opt, Nat.reduceAdd, Nat.reduceMul, and_self, reduceCtorEq, List.size_toArray, List.all_cons, List.all_nil, Value.oneCell', List.set_cons_zero, List.set_cons_succ, sets, fillL, Nat.reduceLeDiff, List.drop_succ_cons, List.drop_zero, List.take_succ_cons, List.take_zero, List.toList_toArray, argsE, Array.append_empty, Array.empty_append, List.getElem?_toArray, Int.reduceLT, Int.reduceLE, Int.reduceToNat, Int.reduceEq, Nat.reduceLT, d2, d3, undef_eq]
    exact ⟨.ap, by simp [flat], by simp [validF, h3]⟩
  have d3 : decide ((32:Int) < (B.L.length:Int)) = false := by simp; omega
  simp only [↓eD0, ↓eD1, eC0, eC1, eC2, eC3, eC4, eC5, eC6, wantedE, ↓reduceIte, Nat.reduceEqDiff, Option.map_some, Option.map_none, reread, List.nil_append, List.cons_append, List.map_cons, List.map_nil, List.length_nil, List.length_cons, Value.cells, List.getElem?_cons_zero, List.getElem?_cons_succ, outE, lks, lkR, rdV, neg1, evs, opt, Nat.reduceAdd, Nat.reduceMul, and_self, reduceCtorEq, List.size_toArray, List.all_cons, List.all_nil, Value.oneCell', List.set_cons_zero, List.set_cons_succ, sets, fillL, Nat.reduceLeDiff, List.drop_succ_cons, List.drop_zero, List.take_succ_cons, List.take_zero, List.toList_toArray, argsE, Array.append_empty, Array.empty_append, List.getElem?_toArray, Int.reduceLT, Int.reduceLE, Int.reduceToNat, Int.reduceEq, Nat.reduceLT, d2, d3, undef_eq]
  generalize hT : ap σ [.cells 0 [.int .i64 B.st, .int .i64 B.pg, .slice base B.L.length cap] (0, 0)] = T
  have hoT : Old σ T := hT ▸ .ap
  have q0 : T[σ.size]? = some (.cells 0 [.int .i64 B.st, .int .i64 B.pg, .slice base B.L.length cap] (0, 0)) := by rw [← hT]; exact ap_new0
  refine loop_for (J := fun i e τ => Old T τ ∧ i ≤ B.L.length ∧ e = [(1, .pointer (some ⟨σ.size, 0, none⟩)), (3, .int .i64 (sumT stR (B.L.take i))), (4, .int .i64 (sumT pgR (B.L.take i))), (5, .int .i64 i)] ∧ ∀ j, j < i → goodT B.L j = true) B.L.length ⟨.refl, by omega, rfl, fun j h => by omega⟩ ?_
  rintro i e τ hi ⟨hoτ, _, rfl, hg⟩
  have ho : Old σ τ := hoT.trans hoτ
  have q1 := (hoτ.2 _ (Array.getElem?_eq_some_iff.1 q0).1).trans q0
  have z1 := (Array.getElem?_eq_some_iff.1 q1).1
  have e1 : ap τ [] = τ := ap_nil
  have r0 : ∀ L, rd1 (ap τ L) ⟨σ.size, 0, none⟩ = some (.int .i64 B.st) := fun L => by rw [rd1_eq, ap_old z1, q1]; rfl
  have r1 : ∀ L, rd1 (ap τ L) ⟨σ.size, 1, none⟩ = some (.int .i64 B.pg) := fun L => by rw [rd1_eq, ap_old z1, q1]; rfl
  have r2 : ∀ L, rd1 (ap τ L) ⟨σ.size, 2, none⟩ = some (.slice base B.L.length cap) := fun L => by rw [rd1_eq, ap_old z1, q1]; rfl
  have hbs : ∀ n, n ≤ i → ∀ c ∈ B.L.take n, (0 ≤ stR c ∧ stR c ≤ 1073741824) ∧ (0 ≤ pgR c ∧ pgR c ≤ 1073741824) := by
    intro n hn c hc
    obtain ⟨j, hj, rfl⟩ := List.getElem_of_mem hc
    simp only [List.length_take] at hj
    rw [List.getElem_take]
    have := hg j (by omega)
    rw [goodT_get (by omega)] at this
    simp only [Bool.and_eq_true, decide_eq_true_eq] at this
    obtain ⟨_, ⟨p1, p2, p3, _⟩, ⟨p4, p5, p6, _⟩⟩ := this
    unfold stR pgR
    omega
  rw [← e1]
  by_cases hlt : i < B.L.length
  · have dl : decide ((i:Int) < (B.L.length : Int)) = true := by simpa using hlt
    have hx : (B.L.map tenV)[i]? = some (tenV B.L[i]) := by simp [hlt]
    obtain ⟨b, off, hbase, g1⟩ := hr.at hx
    subst hbase
    have g3 : ∀ l, rdN (ap τ l) ⟨b, off + i * 7, none⟩ 7 = some (tenV B.L[i]) := fun l => rdN_Old (ho.trans .ap) g1
    have hbi : (0:Int) ≤ (i:Int) ∧ (i:Int) < (B.L.length : Int) := by omega
    have hw : IntKind.wrap .i64 ((i:Int) + 1) = ((i + 1 : Nat) : Int) := by rw [wrap64 (by omega) (by omega)]; omega
    have gg := goodT_get hlt
    have s1 := sumT_take (f := stR) hlt
    have s2 := sumT_take (f := pgR) hlt
    have b1 := sumT_bounds (f := stR) (l := B.L.take i) (fun x hx => (hbs i (Nat.le_refl _) x hx).1)
    have b2 := sumT_bounds (f := pgR) (l := B.L.take i) (fun x hx => (hbs i (Nat.le_refl _) x hx).2)
    simp only [List.length_take] at b1 b2
    have done : ∀ L, (prevM B.L i < B.L[i].m → B.L[i].st.Ok → B.L[i].pg.Ok →
        (IntKind.wrap .i64 (sumT stR (B.L.take i) + B.L[i].st.r) = sumT stR (B.L.take (i + 1)) ∧ IntKind.wrap .i64 (sumT pgR (B.L.take i) + B.L[i].pg.r) = sumT pgR (B.L.take (i + 1))) ∧
        (i < B.L.length ∧ Old T (ap τ L) ∧ i + 1 ≤ B.L.length ∧ ∀ j, j < i + 1 → goodT B.L j = true)) := fun L p1 p2 p3 => by
      have o2 := p2
      have o3 := p3
      obtain ⟨u1, u2, u3, _, _⟩ := o2
      obtain ⟨u4, u5, u6, _, _⟩ := o3
      unfold stR at s1 b1
      unfold pgR at s2 b2
      refine ⟨⟨?_, ?_⟩, hlt, hoτ.trans .ap, by omega, fun j hj => ?_⟩
      · show IntKind.wrap .i64 (sumT (fun t => t.st.r) (B.L.take i) + B.L[i].st.r) = sumT (fun t => t.st.r) (B.L.take (i + 1))
        rw [wrap64 (by omega) (by omega), s1]
      · show IntKind.wrap .i64 (sumT (fun t => t.pg.r) (B.L.take i) + B.L[i].pg.r) = sumT (fun t => t.pg.r) (B.L.take (i + 1))
        rw [wrap64 (by omega) (by omega), s2]
      · by_cases hji : j = i
        · subst hji; rw [gg, decide_eq_true p1, decide_eq_true p2, decide_eq_true p3]; rfl
        · exact hg j (by omega)
    have tailc : ∀ L, prevM B.L i < B.L[i].m → (prevM B.L i < B.L[i].m → B.L[i].st.Ok → B.L[i].pg.Ok → True) → True := fun _ _ _ => trivial
    by_cases c0 : B.L[i].m < 1
    case pos =>
      have dc0 : decide (B.L[i].m < 1) = true := by simpa using c0
      simp only [↓eD0, ↓eD1, eC0, eC1, eC2, eC3, eC4, eC5, eC6, wantedE, ↓reduceIte, Nat.reduceEqDiff, Option.map_some, Option.map_none, reread, List.nil_append, List.cons_append, List.map_cons, List.map_nil, List.length_nil, List.length_cons, Value.cells, List.getElem?_cons_zero, List.getElem?_cons_succ, outE, lks, lkR, rdV, neg1, evs, opt, Nat.reduceAdd, Nat.reduceMul, and_self, reduceCtorEq, List.size_toArray, List.all_cons, List.all_nil, Value.oneCell', List.set_cons_zero, List.set_cons_succ, sets, fillL, Nat.reduceLeDiff, List.drop_succ_cons, List.drop_zero, List.take_succ_cons, List.take_zero, List.toList_toArray, argsE, Array.append_empty, Array.empty_append, List.getElem?_toArray, Int.reduceLT, Int.reduceLE, Int.reduceToNat, Int.reduceEq, Nat.reduceLT, r2, dl, hbi, Int.toNat_natCast, g3, tenV, rep7, dc0, undef_eq]
      refine ⟨ho.trans .ap, by simp [flat], ?_⟩
      have hp0 : 0 ≤ prevM B.L i := by
        cases i with
        | zero => exact Int.le_refl _
        | succ j =>
          have h1 := hg j (by omega)
          rw [goodT_get (by omega)] at h1
          simp only [Bool.and_eq_true, decide_eq_true_eq] at h1
          rw [prevM_succ (by omega)]
          have key : ∀ k, k ≤ j → 0 ≤ prevM B.L k := by
            intro k
            induction k with
            | zero => intro _; exact Int.le_refl _
            | succ k ih =>
              intro hk
              have h2 := hg k (by omega)
              rw [goodT_get (by omega)] at h2
              simp only [Bool.and_eq_true, decide_eq_true_eq] at h2
              rw [prevM_succ (by omega)]
              have := ih (by omega)
              omega
          have := key j (Nat.le_refl _)
          omega
      rw [valid_bad hlt (by rw [gg, decide_eq_false (by omega)]; rfl)]
    have dc0 : decide (B.L[i].m < 1) = false := by simpa using c0
    by_cases hi0 : i = 0
    · subst hi0
      have p1 : prevM B.L 0 < B.L[0].m := by show (0:Int) < _; omega
      have g30 : ∀ l, rdN (ap τ l) ⟨b, off, none⟩ 7 = some (tenV B.L[0]) := fun l => by simpa using g3 l
      have d00 : decide ((0:Int) < ((0:Nat):Int)) = false := by decide
      simp only [↓eD0, ↓eD1, eC0, eC1, eC2, eC3, eC4, eC5, eC6, wantedE, ↓reduceIte, Nat.reduceEqDiff, Option.map_some, Option.map_none, reread, List.nil_append, List.cons_append, List.map_cons, List.map_nil, List.length_nil, List.length_cons, Value.cells, List.getElem?_cons_zero, List.getElem?_cons_succ, outE, lks, lkR, rdV, neg1, evs, opt, Nat.reduceAdd, Nat.reduceMul, and_self, reduceCtorEq, List.size_toArray, List.all_cons, List.all_nil, Value.oneCell', List.set_cons_zero, List.set_cons_succ, sets, fillL, Nat.reduceLeDiff, List.drop_succ_cons, List.drop_zero, List.take_succ_cons, List.take_zero, List.toList_toArray, argsE, Array.append_empty, Array.empty_append, List.getElem?_toArray, Int.reduceLT, Int.reduceLE, Int.reduceToNat, Int.reduceEq, Nat.reduceLT, r2, dl, hbi, Int.toNat_natCast, g3, g30, tenV, rep7, dc0, d00, undef_eq]
      refine appK_of (rright_app (c := B.L[0].st)) ?_
      rintro _ _ ⟨e2, rfl⟩
      rw [e2]
      clear e2
      by_cases c2 : B.L[0].st.Ok
      case neg =>
        have dc2 : decide B.L[0].st.Ok = false := by simpa using c2
        simp only [↓eD0, ↓eD1, eC0, eC1, eC2, eC3, eC4, eC5, eC6, wantedE, ↓reduceIte, Nat.reduceEqDiff, Option.map_some, Option.map_none, reread, List.nil_append, List.cons_append, List.map_cons, List.map_nil, List.length_nil, List.length_cons, Value.cells, List.getElem?_cons_zero, List.getElem?_cons_succ, outE, lks, lkR, rdV, neg1, evs, opt, Nat.reduceAdd, Nat.reduceMul, and_self, reduceCtorEq, List.size_toArray, List.all_cons, List.all_nil, Value.oneCell', List.set_cons_zero, List.set_cons_succ, sets, fillL, Nat.reduceLeDiff, List.drop_succ_cons, List.drop_zero, List.take_succ_cons, List.take_zero, List.toList_toArray, argsE, Array.append_empty, Array.empty_append, List.getElem?_toArray, Int.reduceLT, Int.reduceLE, Int.reduceToNat, Int.reduceEq, Nat.reduceLT, dc2, undef_eq]
        exact ⟨ho.trans .ap, by simp [flat], by rw [valid_bad hlt (by rw [gg, dc2]; simp)]⟩
      have dc2 : decide B.L[0].st.Ok = true := by simpa using c2
      simp only [↓eD0, ↓eD1, eC0, eC1, eC2, eC3, eC4, eC5, eC6, wantedE, ↓reduceIte, Nat.reduceEqDiff, Option.map_some, Option.map_none, reread, List.nil_append, List.cons_append, List.map_cons, List.map_nil, List.length_nil, List.length_cons, Value.cells, List.getElem?_cons_zero, List.getElem?_cons_succ, outE, lks, lkR, rdV, neg1, evs, opt, Nat.reduceAdd, Nat.reduceMul, and_self, reduceCtorEq, List.size_toArray, List.all_cons, List.all_nil, Value.oneCell', List.set_cons_zero, List.set_cons_succ, sets, fillL, Nat.reduceLeDiff, List.drop_succ_cons, List.drop_zero, List.take_succ_cons, List.take_zero, List.toList_toArray, argsE, Array.append_empty, Array.empty_append, List.getElem?_toArray, Int.reduceLT, Int.reduceLE, Int.reduceToNat, Int.reduceEq, Nat.reduceLT, dc2, undef_eq]
      refine appK_of (rright_app (c := B.L[0].pg)) ?_
      rintro _ _ ⟨e2, rfl⟩
      rw [e2]
      clear e2
      by_cases c3 : B.L[0].pg.Ok
      case neg =>
        have dc3 : decide B.L[0].pg.Ok = false := by simpa using c3
        simp only [↓eD0, ↓eD1, eC0, eC1, eC2, eC3, eC4, eC5, eC6, wantedE, ↓reduceIte, Nat.reduceEqDiff, Option.map_some, Option.map_none, reread, List.nil_append, List.cons_append, List.map_cons, List.map_nil, List.length_nil, List.length_cons, Value.cells, List.getElem?_cons_zero, List.getElem?_cons_succ, outE, lks, lkR, rdV, neg1, evs, opt, Nat.reduceAdd, Nat.reduceMul, and_self, reduceCtorEq, List.size_toArray, List.all_cons, List.all_nil, Value.oneCell', List.set_cons_zero, List.set_cons_succ, sets, fillL, Nat.reduceLeDiff, List.drop_succ_cons, List.drop_zero, List.take_succ_cons, List.take_zero, List.toList_toArray, argsE, Array.append_empty, Array.empty_append, List.getElem?_toArray, Int.reduceLT, Int.reduceLE, Int.reduceToNat, Int.reduceEq, Nat.reduceLT, dc3, undef_eq]
        exact ⟨ho.trans .ap, by simp [flat], by rw [valid_bad hlt (by rw [gg, dc3]; simp)]⟩
      have dc3 : decide B.L[0].pg.Ok = true := by simpa using c3
      obtain ⟨⟨w1, w2⟩, w3⟩ := done [.cells 1 (tenV B.L[0]) (0, 0)] p1 c2 c3
      simp only [Nat.zero_add, List.take_zero] at w1 w2
      simp only [↓eD0, ↓eD1, eC0, eC1, eC2, eC3, eC4, eC5, eC6, wantedE, ↓reduceIte, Nat.reduceEqDiff, Option.map_some, Option.map_none, reread, List.nil_append, List.cons_append, List.map_cons, List.map_nil, List.length_nil, List.length_cons, Value.cells, List.getElem?_cons_zero, List.getElem?_cons_succ, outE, lks, lkR, rdV, neg1, evs, opt, Nat.reduceAdd, Nat.reduceMul, and_self, reduceCtorEq, List.size_toArray, List.all_cons, List.all_nil, Value.oneCell', List.set_cons_zero, List.set_cons_succ, sets, fillL, Nat.reduceLeDiff, List.drop_succ_cons, List.drop_zero, List.take_succ_cons, List.take_zero, List.toList_toArray, argsE, Array.append_empty, Array.empty_append, List.getElem?_toArray, Int.reduceLT, Int.reduceLE, Int.reduceToNat, Int.reduceEq, Nat.reduceLT, dc3, undef_eq, hw, w1, w2]
      exact ⟨w3.1, w3.2.1, w3.2.2.1, w3.2.2.2⟩
    · obtain ⟨j, rfl⟩ : ∃ j, i = j + 1 := ⟨i - 1, by omega⟩
      have hjl : j < B.L.length := by omega
      have hx' : (B.L.map tenV)[j]? = some (tenV B.L[j]) := by simp [hjl]
      obtain ⟨b', off', hbase', g1'⟩ := hr.at hx'
      injection hbase' with hbase'
      injection hbase' with hb1 hb2
      subst hb1 hb2
      have g4 : ∀ l, rd1 (ap τ l) ⟨b, off + j * 7, none⟩ = some (.int .i64 B.L[j].m) := fun l => rd1_row (rdN_Old (ho.trans .ap) g1') (j := 0) rfl
      have di : decide ((0:Int) < ((j + 1 : Nat) : Int)) = true := by rw [decide_eq_true]; omega
      have wj : IntKind.wrap .i64 (((j + 1 : Nat) : Int) - 1) = ((j : Nat) : Int) := by rw [wrap64 (by omega) (by omega)]; omega
      have hbj : (0:Int) ≤ (j:Int) ∧ (j:Int) < (B.L.length : Int) := by omega
      have hpm := prevM_succ hjl
      by_cases c1 : B.L[j + 1].m ≤ B.L[j].m
      case pos =>
        have dc1 : decide (B.L[j + 1].m ≤ B.L[j].m) = true := by simpa using c1
        simp only [↓eD0, ↓eD1, eC0, eC1, eC2, eC3, eC4, eC5, eC6, wantedE, ↓reduceIte, Nat.reduceEqDiff, Option.map_some, Option.map_none, reread, List.nil_append, List.cons_append, List.map_cons, List.map_nil, List.length_nil, List.length_cons, Value.cells, List.getElem?_cons_zero, List.getElem?_cons_succ, outE, lks, lkR, rdV, neg1, evs, opt, Nat.reduceAdd, Nat.reduceMul, and_self, reduceCtorEq, List.size_toArray, List.all_cons, List.all_nil, Value.oneCell', List.set_cons_zero, List.set_cons_succ, sets, fillL, Nat.reduceLeDiff, List.drop_succ_cons, List.drop_zero, List.take_succ_cons, List.take_zero, List.toList_toArray, argsE, Array.append_empty, Array.empty_append, List.getElem?_toArray, Int.reduceLT, Int.reduceLE, Int.reduceToNat, Int.reduceEq, Nat.reduceLT, r2, dl, hbi, hbj, Int.toNat_natCast, g3, g4, tenV, rep7, dc0, di, wj, dc1, undef_eq]
        exact ⟨ho.trans .ap, by simp [flat], by rw [valid_bad hlt (by rw [gg, hpm, decide_eq_false (by omega)]; rfl)]⟩
      have dc1 : decide (B.L[j + 1].m ≤ B.L[j].m) = false := by simpa using c1
      have p1 : prevM B.L (j + 1) < B.L[j + 1].m := by rw [hpm]; omega
      simp only [↓eD0, ↓eD1, eC0, eC1, eC2, eC3, eC4, eC5, eC6, wantedE, ↓reduceIte, Nat.reduceEqDiff, Option.map_some, Option.map_none, reread, List.nil_append, List.cons_append, List.map_cons, List.map_nil, List.length_nil, List.length_cons, Value.cells, List.getElem?_cons_zero, List.getElem?_cons_succ, outE, lks, lkR, rdV, neg1, evs, opt, Nat.reduceAdd, Nat.reduceMul, and_self, reduceCtorEq, List.size_toArray, List.all_cons, List.all_nil, Value.oneCell', List.set_cons_zero, List.set_cons_succ, sets, fillL, Nat.reduceLeDiff, List.drop_succ_cons, List.drop_zero, List.take_succ_cons, List.take_zero, List.toList_toArray, argsE, Array.append_empty, Array.empty_append, List.getElem?_toArray, Int.reduceLT, Int.reduceLE, Int.reduceToNat, Int.reduceEq, Nat.reduceLT, r2, dl, hbi, hbj, Int.toNat_natCast, g3, g4, tenV, rep7, dc0, di, wj, dc1, undef_eq]
      refine appK_of (rright_app (c := B.L[j + 1].st)) ?_
      rintro _ _ ⟨e2, rfl⟩
      rw [e2]
      clear e2
      by_cases c2 : B.L[j + 1].st.Ok
      case neg =>
        have dc2 : decide B.L[j + 1].st.Ok = false := by simpa using c2
        simp only [↓eD0, ↓eD1, eC0, eC1, eC2, eC3, eC4, eC5, eC6, wantedE, ↓reduceIte, Nat.reduceEqDiff, Option.map_some, Option.map_none, reread, List.nil_append, List.cons_append, List.map_cons, List.map_nil, List.length_nil, List.length_cons, Value.cells, List.getElem?_cons_zero, List.getElem?_cons_succ, outE, lks, lkR, rdV, neg1, evs, opt, Nat.reduceAdd, Nat.reduceMul, and_self, reduceCtorEq, List.size_toArray, List.all_cons, List.all_nil, Value.oneCell', List.set_cons_zero, List.set_cons_succ, sets, fillL, Nat.reduceLeDiff, List.drop_succ_cons, List.drop_zero, List.take_succ_cons, List.take_zero, List.toList_toArray, argsE, Array.append_empty, Array.empty_append, List.getElem?_toArray, Int.reduceLT, Int.reduceLE, Int.reduceToNat, Int.reduceEq, Nat.reduceLT, dc2, undef_eq]
        exact ⟨ho.trans .ap, by simp [flat], by rw [valid_bad hlt (by rw [gg, dc2]; simp)]⟩
      have dc2 : decide B.L[j + 1].st.Ok = true := by simpa using c2
      simp only [↓eD0, ↓eD1, eC0, eC1, eC2, eC3, eC4, eC5, eC6, wantedE, ↓reduceIte, Nat.reduceEqDiff, Option.map_some, Option.map_none, reread, List.nil_append, List.cons_append, List.map_cons, List.map_nil, List.length_nil, List.length_cons, Value.cells, List.getElem?_cons_zero, List.getElem?_cons_succ, outE, lks, lkR, rdV, neg1, evs, opt, Nat.reduceAdd, Nat.reduceMul, and_self, reduceCtorEq, List.size_toArray, List.all_cons, List.all_nil, Value.oneCell', List.set_cons_zero, List.set_cons_succ, sets, fillL, Nat.reduceLeDiff, List.drop_succ_cons, List.drop_zero, List.take_succ_cons, List.take_zero, List.toList_toArray, argsE, Array.append_empty, Array.empty_append, List.getElem?_toArray, Int.reduceLT, Int.reduceLE, Int.reduceToNat, Int.reduceEq, Nat.reduceLT, dc2, undef_eq]
      refine appK_of (rright_app (c := B.L[j + 1].pg)) ?_
      rintro _ _ ⟨e2, rfl⟩
      rw [e2]
      clear e2
      by_cases c3 : B.L[j + 1].pg.Ok
      case neg =>
        have dc3 : decide B.L[j + 1].pg.Ok = false := by simpa using c3
        simp only [↓eD0, ↓eD1, eC0, eC1, eC2, eC3, eC4, eC5, eC6, wantedE, ↓reduceIte, Nat.reduceEqDiff, Option.map_some, Option.map_none, reread, List.nil_append, List.cons_append, List.map_cons, List.map_nil, List.length_nil, List.length_cons, Value.cells, List.getElem?_cons_zero, List.getElem?_cons_succ, outE, lks, lkR, rdV, neg1, evs, opt, Nat.reduceAdd, Nat.reduceMul, and_self, reduceCtorEq, List.size_toArray, List.all_cons, List.all_nil, Value.oneCell', List.set_cons_zero, List.set_cons_succ, sets, fillL, Nat.reduceLeDiff, List.drop_succ_cons, List.drop_zero, List.take_succ_cons, List.take_zero, List.toList_toArray, argsE, Array.append_empty, Array.empty_append, List.getElem?_toArray, Int.reduceLT, Int.reduceLE, Int.reduceToNat, Int.reduceEq, Nat.reduceLT, dc3, undef_eq]
        exact ⟨ho.trans .ap, by simp [flat], by rw [valid_bad hlt (by rw [gg, dc3]; simp)]⟩
      have dc3 : decide B.L[j + 1].pg.Ok = true := by simpa using c3
      obtain ⟨⟨w1, w2⟩, w3⟩ := done [.cells 1 (tenV B.L[j + 1]) (0, 0)] p1 c2 c3
      simp only [↓eD0, ↓eD1, eC0, eC1, eC2, eC3, eC4, eC5, eC6, wantedE, ↓reduceIte, Nat.reduceEqDiff, Option.map_some, Option.map_none, reread, List.nil_append, List.cons_append, List.map_cons, List.map_nil, List.length_nil, List.length_cons, Value.cells, List.getElem?_cons_zero, List.getElem?_cons_succ, outE, lks, lkR, rdV, neg1, evs, opt, Nat.reduceAdd, Nat.reduceMul, and_self, reduceCtorEq, List.size_toArray, List.all_cons, List.all_nil, Value.oneCell', List.set_cons_zero, List.set_cons_succ, sets, fillL, Nat.reduceLeDiff, List.drop_succ_cons, List.drop_zero, List.take_succ_cons, List.take_zero, List.toList_toArray, argsE, Array.append_empty, Array.empty_append, List.getElem?_toArray, Int.reduceLT, Int.reduceLE, Int.reduceToNat, Int.reduceEq, Nat.reduceLT, dc3, undef_eq, hw, w1, w2]
      exact ⟨w3.1, w3.2.1, w3.2.2.1, w3.2.2.2⟩
  · have : i = B.L.length := by omega
    subst this
    have dl : decide ((B.L.length:Int) < (B.L.length : Int)) = false := by simp
    have hall := all_good hg
    simp only [↓eD0, ↓eD1, eC0, eC1, eC2, eC3, eC4, eC5, eC6, wantedE, ↓reduceIte, Nat.reduceEqDiff, Option.map_some, Option.map_none, reread, List.nil_append, List.cons_append, List.map_cons, List.map_nil, List.length_nil, List.length_cons, Value.cells, List.getElem?_cons_zero, List.getElem?_cons_succ, outE, lks, lkR, rdV, neg1, evs, opt, Nat.reduceAdd, Nat.reduceMul, and_self, reduceCtorEq, List.size_toArray, List.all_cons, List.all_nil, Value.oneCell', List.set_cons_zero, List.set_cons_succ, sets, fillL, Nat.reduceLeDiff, List.drop_succ_cons, List.drop_zero, List.take_succ_cons, List.take_zero, List.toList_toArray, argsE, Array.append_empty, Array.empty_append, List.getElem?_toArray, Int.reduceLT, Int.reduceLE, Int.reduceToNat, Int.reduceEq, Nat.reduceLT, r2, dl, List.take_length]
    by_cases s1 : sumT stR B.L ≤ B.st
    case neg =>
      have ds1 : decide (sumT stR B.L ≤ B.st) = false := by simpa using s1
      simp only [↓eD0, ↓eD1, eC0, eC1, eC2, eC3, eC4, eC5, eC6, wantedE, ↓reduceIte, Nat.reduceEqDiff, Option.map_some, Option.map_none, reread, List.nil_append, List.cons_append, List.map_cons, List.map_nil, List.length_nil, List.length_cons, Value.cells, List.getElem?_cons_zero, List.getElem?_cons_succ, outE, lks, lkR, rdV, neg1, evs, opt, Nat.reduceAdd, Nat.reduceMul, and_self, reduceCtorEq, List.size_toArray, List.all_cons, List.all_nil, Value.oneCell', List.set_cons_zero, List.set_cons_succ, sets, fillL, Nat.reduceLeDiff, List.drop_succ_cons, List.drop_zero, List.take_succ_cons, List.take_zero, List.toList_toArray, argsE, Array.append_empty, Array.empty_append, List.getElem?_toArray, Int.reduceLT, Int.reduceLE, Int.reduceToNat, Int.reduceEq, Nat.reduceLT, r0, r1, ds1, List.take_length, undef_eq]
      exact ⟨ho.trans .ap, by simp [flat], by simp [validF, s1]⟩
    have ds1 : decide (sumT stR B.L ≤ B.st) = true := by simpa using s1
    simp only [↓eD0, ↓eD1, eC0, eC1, eC2, eC3, eC4, eC5, eC6, wantedE, ↓reduceIte, Nat.reduceEqDiff, Option.map_some, Option.map_none, reread, List.nil_append, List.cons_append, List.map_cons, List.map_nil, List.length_nil, List.length_cons, Value.cells, List.getElem?_cons_zero, List.getElem?_cons_succ, outE, lks, lkR, rdV, neg1, evs, opt, Nat.reduceAdd, Nat.reduceMul, and_self, reduceCtorEq, List.size_toArray, List.all_cons, List.all_nil, Value.oneCell', List.set_cons_zero, List.set_cons_succ, sets, fillL, Nat.reduceLeDiff, List.drop_succ_cons, List.drop_zero, List.take_succ_cons, List.take_zero, List.toList_toArray, argsE, Array.append_empty, Array.empty_append, List.getElem?_toArray, Int.reduceLT, Int.reduceLE, Int.reduceToNat, Int.reduceEq, Nat.reduceLT, r0, r1, ds1, List.take_length, undef_eq]
    exact ⟨ho.trans .ap, by simp [flat], by simp [validF, s1, a1, a2, h3, hall]⟩
end Go.Proofs.Ytimcgoghjebalaa

set_option linter.unusedSimpArgs false
set_option linter.unusedVariables false
set_option maxRecDepth 10000
set_option maxHeartbeats 1000000
namespace Go.Proofs.Ytimcgoghjebalaa
open Go Go.Cn Go.RowKit

theorem ten_eq {a b c d e f g a' b' c' d' e' f' g' : Int} : aggEq (List.replicate 7 (.int .i64)) [.int .i64 a, .int .i64 b, .int .i64 c, .int .i64 d, .int .i64 e, .int .i64 f, .int .i64 g] [.int .i64 a', .int .i64 b', .int .i64 c', .int .i64 d', .int .i64 e', .int .i64 f', .int .i64 g'] = some (decide (a = a' ∧ b = b' ∧ c = c' ∧ d = d' ∧ e = e' ∧ f = f' ∧ g = g')) := by
  simp only [List.replicate, aggEq, Leaf.fits, leafEq, decide_true, and_self, ↓reduceIte]
  by_cases h1 : a = a' <;> by_cases h2 : b = b' <;> by_cases h3 : c = c' <;> by_cases h4 : d = d' <;> by_cases h5 : e = e' <;> by_cases h6 : f = f' <;> by_cases h7 : g = g' <;> simp [h1, h2, h3, h4, h5, h6, h7]

/-- Two budgets that are the same. -/
theorem same_app {σ : H} {la lb : List Value} {B : Bud} (ha : IsB σ la B) (hb : IsB σ lb B) (hn : B.L.length < 4000000000000) :
    App Try.prog (.func 26) #[] #[.agg la.toArray, .agg lb.toArray] σ fun v σ' => σ' = σ ∧ v = .bool true := by
  refine App.forget (App.of_sem mixed Try.func26 t26 k26 r26 (Nat.le_of_ble_eq_true rfl) ?_)
  obtain ⟨base, cp, rfl, ra, _⟩ := ha
  obtain ⟨base2, cp2, rfl, rb, _⟩ := hb
  have es : ∀ x : Int, decide (x = x) = true := fun x => by simp
  rw [← ap_nil (σ := σ)]
  unfold s26
  simp only [↓eD0, ↓eD1, eC0, eC1, eC2, eC3, eC4, eC5, eC6, wantedE, ↓reduceIte, Nat.reduceEqDiff, Option.map_some, Option.map_none, reread, List.nil_append, List.cons_append, List.map_cons, List.map_nil, List.length_nil, List.length_cons, Value.cells, List.getElem?_cons_zero, List.getElem?_cons_succ, outE, lks, lkR, rdV, neg1, evs, opt, Nat.reduceAdd, Nat.reduceMul, and_self, reduceCtorEq, List.size_toArray, List.all_cons, List.all_nil, Value.oneCell', List.set_cons_zero, List.set_cons_succ, sets, fillL, Nat.reduceLeDiff, List.drop_succ_cons, List.drop_zero, List.take_succ_cons, List.take_zero, List.toList_toArray, argsE, Array.append_empty, Array.empty_append, List.getElem?_toArray, Int.reduceLT, Int.reduceLE, Int.reduceToNat, Int.reduceEq, Nat.reduceLT, budV, es, undef_eq]
  generalize hT : ap σ [.cells 0 [.int .i64 B.st, .int .i64 B.pg, .slice base B.L.length cp] (0, 0), .cells 0 [.int .i64 B.st, .int .i64 B.pg, .slice base2 B.L.length cp2] (0, 0)] = T
  have hoT : Old σ T := hT ▸ .ap
  have q0 : T[σ.size]? = some (.cells 0 [.int .i64 B.st, .int .i64 B.pg, .slice base B.L.length cp] (0, 0)) := by rw [← hT]; exact ap_new0
  have q1 : T[σ.size + 1]? = some (.cells 0 [.int .i64 B.st, .int .i64 B.pg, .slice base2 B.L.length cp2] (0, 0)) := by rw [← hT]; exact ap_new
  refine loop_for (J := fun i e τ => Old T τ ∧ i ≤ B.L.length ∧ e = [(2, .pointer (some ⟨σ.size, 0, none⟩)), (3, .pointer (some ⟨σ.size + 1, 0, none⟩)), (5, .int .i64 i)]) B.L.length ⟨.refl, by omega, rfl⟩ ?_
  rintro i e τ hi ⟨hoτ, _, rfl⟩
  have ho : Old σ τ := hoT.trans hoτ
  have p0 := (hoτ.2 _ (Array.getElem?_eq_some_iff.1 q0).1).trans q0
  have p1 := (hoτ.2 _ (Array.getElem?_eq_some_iff.1 q1).1).trans q1
  have z0 := (Array.getElem?_eq_some_iff.1 p0).1
  have z1 := (Array.getElem?_eq_some_iff.1 p1).1
  have r2 : ∀ L, rd1 (ap τ L) ⟨σ.size, 2, none⟩ = some (.slice base B.L.length cp) := fun L => by rw [rd1_eq, ap_old z0, p0]; rfl
  have r3 : ∀ L, rd1 (ap τ L) ⟨σ.size + 1, 2, none⟩ = some (.slice base2 B.L.length cp2) := fun L => by rw [rd1_eq, ap_old z1, p1]; rfl
  rw [← ap_nil (σ := τ)]
  by_cases hlt : i < B.L.length
  · have dl : decide ((i:Int) < (B.L.length : Int)) = true := by simpa using hlt
    have hx : (B.L.map tenV)[i]? = some (tenV B.L[i]) := by simp [hlt]
    obtain ⟨b1, off, rfl, h1⟩ := ra.at hx
    obtain ⟨b2, off2, rfl, h2⟩ := rb.at hx
    have g3 : ∀ L, rdN (ap τ L) ⟨b1, off + i * 7, none⟩ 7 = some (tenV B.L[i]) := fun L => rdN_Old (ho.trans .ap) h1
    have g4 : ∀ L, rdN (ap τ L) ⟨b2, off2 + i * 7, none⟩ 7 = some (tenV B.L[i]) := fun L => rdN_Old (ho.trans .ap) h2
    have hb1 : (0:Int) ≤ (i:Int) ∧ (i:Int) < (B.L.length : Int) := by omega
    have hw : IntKind.wrap .i64 ((i:Int) + 1) = ((i + 1 : Nat) : Int) := by rw [wrap64 (by omega) (by omega)]; omega
    have de : ∀ a b c d e f g : Int, decide (a = a ∧ b = b ∧ c = c ∧ d = d ∧ e = e ∧ f = f ∧ g = g) = true := fun _ _ _ _ _ _ _ => by simp
    simp only [↓eD0, ↓eD1, eC0, eC1, eC2, eC3, eC4, eC5, eC6, wantedE, ↓reduceIte, Nat.reduceEqDiff, Option.map_some, Option.map_none, reread, List.nil_append, List.cons_append, List.map_cons, List.map_nil, List.length_nil, List.length_cons, Value.cells, List.getElem?_cons_zero, List.getElem?_cons_succ, outE, lks, lkR, rdV, neg1, evs, opt, Nat.reduceAdd, Nat.reduceMul, and_self, reduceCtorEq, List.size_toArray, List.all_cons, List.all_nil, Value.oneCell', List.set_cons_zero, List.set_cons_succ, sets, fillL, Nat.reduceLeDiff, List.drop_succ_cons, List.drop_zero, List.take_succ_cons, List.take_zero, List.toList_toArray, argsE, Array.append_empty, Array.empty_append, List.getElem?_toArray, Int.reduceLT, Int.reduceLE, Int.reduceToNat, Int.reduceEq, Nat.reduceLT, r2, r3, dl, hb1, Int.toNat_natCast, g3, g4, tenV, ten_eq, de, hw]
    exact ⟨hlt, hoτ.trans .ap, by omega⟩
  · have : i = B.L.length := by omega
    subst this
    have dl : decide ((B.L.length:Int) < (B.L.length : Int)) = false := by simp
    simp only [↓eD0, ↓eD1, eC0, eC1, eC2, eC3, eC4, eC5, eC6, wantedE, ↓reduceIte, Nat.reduceEqDiff, Option.map_some, Option.map_none, reread, List.nil_append, List.cons_append, List.map_cons, List.map_nil, List.length_nil, List.length_cons, Value.cells, List.getElem?_cons_zero, List.getElem?_cons_succ, outE, lks, lkR, rdV, neg1, evs, opt, Nat.reduceAdd, Nat.reduceMul, and_self, reduceCtorEq, List.size_toArray, List.all_cons, List.all_nil, Value.oneCell', List.set_cons_zero, List.set_cons_succ, sets, fillL, Nat.reduceLeDiff, List.drop_succ_cons, List.drop_zero, List.take_succ_cons, List.take_zero, List.toList_toArray, argsE, Array.append_empty, Array.empty_append, List.getElem?_toArray, Int.reduceLT, Int.reduceLE, Int.reduceToNat, Int.reduceEq, Nat.reduceLT, r2, r3, dl]
    exact ⟨ho.trans .ap, by simp [flat]⟩

/-! ### Leave -/
def cutT (B : Bud) (m : Int) : Bud := ⟨B.st, B.pg, B.L.take (placeF B.L m) ++ B.L.drop (placeF B.L m + 1)⟩
def leaveF (B : Bud) (m : Int) : Bud × Int := if isF B.L m = true then (cutT B m, 0) else (B, 5)
theorem isF_lt {L : List Ten} {m : Int} (h : isF L m = true) : placeF L m < L.length := by
  unfold isF at h
  cases hx : L[placeF L m]? with
  | none => rw [hx] at h; cases h
  | some t => exact (List.getElem?_eq_some_iff.1 hx).1
theorem filter_srt : ∀ {L : List Ten} {m : Int}, Srt L → L.filter (fun t => !decide (t.m = m)) = if isF L m = true then L.take (placeF L m) ++ L.drop (placeF L m + 1) else L
  | [], m, _ => by simp [isF]
  | t :: r, m, hs => by
    obtain ⟨h1, h2⟩ := List.pairwise_cons.1 hs
    have ih := filter_srt (L := r) (m := m) h2
    by_cases hle : m ≤ t.m
    · have hp : placeF (t :: r) m = 0 := by rw [placeF, if_pos hle]
      by_cases he : t.m = m
      · have hi : isF (t :: r) m = true := by simp [isF, hp, he]
        rw [if_pos hi, hp, List.filter_cons, if_neg (by simp [he])]
        simp only [List.take_zero, List.nil_append, Nat.zero_add, List.drop_succ_cons, List.drop_zero]
        rw [List.filter_eq_self]
        intro x hx
        have := h1 x hx
        simp; omega
      · have hi : isF (t :: r) m = false := by simp [isF, hp, he]
        rw [hi, if_neg (by simp), List.filter_eq_self]
        intro x hx
        rcases List.mem_cons.1 hx with rfl | hx
        · simpa using he
        · have := h1 x hx
          simp; omega
    · have hp : placeF (t :: r) m = placeF r m + 1 := by rw [placeF, if_neg hle]
      have hi : isF (t :: r) m = isF r m := by simp [isF, hp]
      rw [List.filter_cons, if_pos (by simp; omega), ih, hi, hp]
      split <;> simp
/-- A budget without a machine is valid. -/
theorem cut_len {B : Bud} {m : Int} (h : isF B.L m = true) : (cutT B m).L.length = B.L.length - 1 := by
  have := isF_lt h
  simp [cutT]; omega
end Go.Proofs.Ytimcgoghjebalaa
