/- Walks and plain laws. Conditions: none. -/
import Derived.Test.YtimcgoghjebalaaVp
set_option linter.all false
set_option linter.unusedSimpArgs false
set_option linter.unusedVariables false
set_option maxRecDepth 10000
set_option maxHeartbeats 1000000
namespace Go.Proofs.Ytimcgoghjebalaa
open Go Go.Cn Go.RowKit

theorem law9 {σ : H} {lb : List Value} {B : Bud} {l : List Ten} {tv : Value} {q : Int} (h : IsB σ lb B) (ht : Row σ 7 tv (l.map tenV)) (hq0 : 0 ≤ q) (hq1 : q ≤ 4294967295) :
    App Try.prog (.func 9) #[] #[.agg lb.toArray, tv, .int .u32 q] σ fun v σ' => Old σ σ' ∧ v = .bool true := by
  refine App.of_sem mixed Try.func9 t9 k9 r9 (Nat.le_of_ble_eq_true rfl) ?_
  have hB := h
  obtain ⟨base, cap, rfl, hr, hcap⟩ := h
  obtain ⟨tb, tc, rfl⟩ := ht.slice
  simp only [List.length_map] at ht ⊢
  rw [← ap_nil (σ := σ)]
  unfold s9
  by_cases h40 : B.L.length ≤ 40
  case neg =>
    have d0 : decide ((40:Int) < (B.L.length:Int)) = true := by rw [decide_eq_true]; omega
    simp only [↓eD0, ↓eD1, eC0, eC1, eC2, eC3, eC4, eC5, eC6, wantedE, ↓reduceIte, Nat.reduceEqDiff, Option.map_some, Option.map_none, reread, List.nil_append, List.cons_append, List.map_cons, List.map_nil, List.length_nil, List.length_cons, Value.cells, List.getElem?_cons_zero, List.getElem?_cons_succ, outE, lks, lkR, rdV, neg1, evs, opt, Nat.reduceAdd, Nat.reduceMul, and_self, reduceCtorEq, List.size_toArray, List.all_cons, List.all_nil, Value.oneCell', List.set_cons_zero, List.set_cons_succ, sets, fillL, Nat.reduceLeDiff, List.drop_succ_cons, List.drop_zero, List.take_succ_cons, List.take_zero, List.toList_toArray, argsE, Array.append_empty, Array.empty_append, List.getElem?_toArray, Int.reduceLT, Int.reduceLE, Int.reduceToNat, Int.reduceEq, Nat.reduceLT, budV, d0, undef_eq]
    refine appK_of sanity_app ?_
    rintro _ _ ⟨e2, rfl⟩
    rw [e2]
    clear e2
    simp only [↓eD0, ↓eD1, eC0, eC1, eC2, eC3, eC4, eC5, eC6, wantedE, ↓reduceIte, Nat.reduceEqDiff, Option.map_some, Option.map_none, reread, List.nil_append, List.cons_append, List.map_cons, List.map_nil, List.length_nil, List.length_cons, Value.cells, List.getElem?_cons_zero, List.getElem?_cons_succ, outE, lks, lkR, rdV, neg1, evs, opt, Nat.reduceAdd, Nat.reduceMul, and_self, reduceCtorEq, List.size_toArray, List.all_cons, List.all_nil, Value.oneCell', List.set_cons_zero, List.set_cons_succ, sets, fillL, Nat.reduceLeDiff, List.drop_succ_cons, List.drop_zero, List.take_succ_cons, List.take_zero, List.toList_toArray, argsE, Array.append_empty, Array.empty_append, List.getElem?_toArray, Int.reduceLT, Int.reduceLE, Int.reduceToNat, Int.reduceEq, Nat.reduceLT]
    exact .ap
  have d0 : decide ((40:Int) < (B.L.length:Int)) = false := by rw [decide_eq_false]; omega
  simp only [↓eD0, ↓eD1, eC0, eC1, eC2, eC3, eC4, eC5, eC6, wantedE, ↓reduceIte, Nat.reduceEqDiff, Option.map_some, Option.map_none, reread, List.nil_append, List.cons_append, List.map_cons, List.map_nil, List.length_nil, List.length_cons, Value.cells, List.getElem?_cons_zero, List.getElem?_cons_succ, outE, lks, lkR, rdV, neg1, evs, opt, Nat.reduceAdd, Nat.reduceMul, and_self, reduceCtorEq, List.size_toArray, List.all_cons, List.all_nil, Value.oneCell', List.set_cons_zero, List.set_cons_succ, sets, fillL, Nat.reduceLeDiff, List.drop_succ_cons, List.drop_zero, List.take_succ_cons, List.take_zero, List.toList_toArray, argsE, Array.append_empty, Array.empty_append, List.getElem?_toArray, Int.reduceLT, Int.reduceLE, Int.reduceToNat, Int.reduceEq, Nat.reduceLT, budV, d0, undef_eq]
  refine appK_of (rvalid_app (hB.Old .ap)) ?_
  rintro _ _ ⟨e2, rfl⟩
  rw [e2]
  clear e2
  cases hv : validF B
  · simp only [↓eD0, ↓eD1, eC0, eC1, eC2, eC3, eC4, eC5, eC6, wantedE, ↓reduceIte, Nat.reduceEqDiff, Option.map_some, Option.map_none, reread, List.nil_append, List.cons_append, List.map_cons, List.map_nil, List.length_nil, List.length_cons, Value.cells, List.getElem?_cons_zero, List.getElem?_cons_succ, outE, lks, lkR, rdV, neg1, evs, opt, Nat.reduceAdd, Nat.reduceMul, and_self, reduceCtorEq, List.size_toArray, List.all_cons, List.all_nil, Value.oneCell', List.set_cons_zero, List.set_cons_succ, sets, fillL, Nat.reduceLeDiff, List.drop_succ_cons, List.drop_zero, List.take_succ_cons, List.take_zero, List.toList_toArray, argsE, Array.append_empty, Array.empty_append, List.getElem?_toArray, Int.reduceLT, Int.reduceLE, Int.reduceToNat, Int.reduceEq, Nat.reduceLT, undef_eq]
    refine appK_of sanity_app ?_
    rintro _ _ ⟨e2, rfl⟩
    rw [e2]
    clear e2
    simp only [↓eD0, ↓eD1, eC0, eC1, eC2, eC3, eC4, eC5, eC6, wantedE, ↓reduceIte, Nat.reduceEqDiff, Option.map_some, Option.map_none, reread, List.nil_append, List.cons_append, List.map_cons, List.map_nil, List.length_nil, List.length_cons, Value.cells, List.getElem?_cons_zero, List.getElem?_cons_succ, outE, lks, lkR, rdV, neg1, evs, opt, Nat.reduceAdd, Nat.reduceMul, and_self, reduceCtorEq, List.size_toArray, List.all_cons, List.all_nil, Value.oneCell', List.set_cons_zero, List.set_cons_succ, sets, fillL, Nat.reduceLeDiff, List.drop_succ_cons, List.drop_zero, List.take_succ_cons, List.take_zero, List.toList_toArray, argsE, Array.append_empty, Array.empty_append, List.getElem?_toArray, Int.reduceLT, Int.reduceLE, Int.reduceToNat, Int.reduceEq, Nat.reduceLT]
    exact .ap
  have hV := valid_iff.1 hv
  have hsrt := hV.srt
  by_cases h20 : l.length ≤ 20
  case neg =>
    have d0 : decide ((20:Int) < (l.length:Int)) = true := by rw [decide_eq_true]; omega
    simp only [↓eD0, ↓eD1, eC0, eC1, eC2, eC3, eC4, eC5, eC6, wantedE, ↓reduceIte, Nat.reduceEqDiff, Option.map_some, Option.map_none, reread, List.nil_append, List.cons_append, List.map_cons, List.map_nil, List.length_nil, List.length_cons, Value.cells, List.getElem?_cons_zero, List.getElem?_cons_succ, outE, lks, lkR, rdV, neg1, evs, opt, Nat.reduceAdd, Nat.reduceMul, and_self, reduceCtorEq, List.size_toArray, List.all_cons, List.all_nil, Value.oneCell', List.set_cons_zero, List.set_cons_succ, sets, fillL, Nat.reduceLeDiff, List.drop_succ_cons, List.drop_zero, List.take_succ_cons, List.take_zero, List.toList_toArray, argsE, Array.append_empty, Array.empty_append, List.getElem?_toArray, Int.reduceLT, Int.reduceLE, Int.reduceToNat, Int.reduceEq, Nat.reduceLT, d0, undef_eq]
    refine appK_of sanity_app ?_
    rintro _ _ ⟨e2, rfl⟩
    rw [e2]
    clear e2
    simp only [↓eD0, ↓eD1, eC0, eC1, eC2, eC3, eC4, eC5, eC6, wantedE, ↓reduceIte, Nat.reduceEqDiff, Option.map_some, Option.map_none, reread, List.nil_append, List.cons_append, List.map_cons, List.map_nil, List.length_nil, List.length_cons, Value.cells, List.getElem?_cons_zero, List.getElem?_cons_succ, outE, lks, lkR, rdV, neg1, evs, opt, Nat.reduceAdd, Nat.reduceMul, and_self, reduceCtorEq, List.size_toArray, List.all_cons, List.all_nil, Value.oneCell', List.set_cons_zero, List.set_cons_succ, sets, fillL, Nat.reduceLeDiff, List.drop_succ_cons, List.drop_zero, List.take_succ_cons, List.take_zero, List.toList_toArray, argsE, Array.append_empty, Array.empty_append, List.getElem?_toArray, Int.reduceLT, Int.reduceLE, Int.reduceToNat, Int.reduceEq, Nat.reduceLT]
    exact .ap
  have d20 : decide ((20:Int) < (l.length:Int)) = false := by rw [decide_eq_false]; omega
  simp only [↓eD0, ↓eD1, eC0, eC1, eC2, eC3, eC4, eC5, eC6, wantedE, ↓reduceIte, Nat.reduceEqDiff, Option.map_some, Option.map_none, reread, List.nil_append, List.cons_append, List.map_cons, List.map_nil, List.length_nil, List.length_cons, Value.cells, List.getElem?_cons_zero, List.getElem?_cons_succ, outE, lks, lkR, rdV, neg1, evs, opt, Nat.reduceAdd, Nat.reduceMul, and_self, reduceCtorEq, List.size_toArray, List.all_cons, List.all_nil, Value.oneCell', List.set_cons_zero, List.set_cons_succ, sets, fillL, Nat.reduceLeDiff, List.drop_succ_cons, List.drop_zero, List.take_succ_cons, List.take_zero, List.toList_toArray, argsE, Array.append_empty, Array.empty_append, List.getElem?_toArray, Int.reduceLT, Int.reduceLE, Int.reduceToNat, Int.reduceEq, Nat.reduceLT, d20, undef_eq]
  refine loop_for (J := fun i e τ => i ≤ B.L.length ∧ e = [(1, .slice tb l.length tc), (2, .int .u32 q), (3, .pointer (some ⟨σ.size, 0, none⟩)), (7, .map (some (σ.size + 1))), (40, .slice base B.L.length cap), (41, .int .i64 B.L.length), (42, .int .i64 i)] ∧
      Old σ τ ∧ σ.size + 2 ≤ τ.size ∧ (∃ ver, τ[σ.size]? = some (.cells ver (budV B base cap) (0, 0))) ∧ ∃ ver es clock, τ[σ.size + 1]? = some (.map ver es clock) ∧ MapN es (tenF (B.L.take i)) i) B.L.length
    ⟨by omega, rfl, .ap, by rw [ap_size]; exact Nat.le_refl _, ⟨0, ap_new0⟩, 0, _, 0, ap_new, mapN_empty⟩ ?_
  rintro i e τ hi ⟨_, rfl, ho, hsz, ⟨v0, q0⟩, ver, es, clock, q1, hm⟩
  have z0 := (Array.getElem?_eq_some_iff.1 q0).1
  have z1 := (Array.getElem?_eq_some_iff.1 q1).1
  rw [← ap_nil (σ := τ)]
  by_cases hlt : i < B.L.length
  · have dl : decide ((i:Int) < (B.L.length : Int)) = true := by simpa using hlt
    have hx : (B.L.map tenV)[i]? = some (tenV B.L[i]) := by simp [hlt]
    obtain ⟨b, off, rfl, h1⟩ := hr.at hx
    have g3 : ∀ L, rdN (ap τ L) ⟨b, off + i * 7, none⟩ 7 = some (tenV B.L[i]) := fun L => rdN_Old (ho.trans .ap) h1
    have hb : (0:Int) ≤ (i:Int) ∧ (i:Int) < (B.L.length : Int) := by omega
    have hw : IntKind.wrap .i64 ((i:Int) + 1) = ((i + 1 : Nat) : Int) := by rw [wrap64 (by omega) (by omega)]; omega
    obtain ⟨es', clock', p1, p2⟩ := mapN_push (σ := ap τ [.cells 1 (tenV B.L[i]) (0, 0)]) (k := B.L[i].m) (v := tenA B.L[i]) hm (tenF_fresh hsrt hlt) ((ap_old z1).trans q1)
    have p1' : mapPut (.int .i64) (.map (some (σ.size + 1))) (.int .i64 B.L[i].m) (.agg #[.int .i64 B.L[i].m, .int .i64 B.L[i].st.r, .int .i64 B.L[i].st.l, .int .i64 B.L[i].st.s, .int .i64 B.L[i].pg.r, .int .i64 B.L[i].pg.l, .int .i64 B.L[i].pg.s]) (ap τ [.cells 1 [.int .i64 B.L[i].m, .int .i64 B.L[i].st.r, .int .i64 B.L[i].st.l, .int .i64 B.L[i].st.s, .int .i64 B.L[i].pg.r, .int .i64 B.L[i].pg.l, .int .i64 B.L[i].pg.s] (0, 0)]) = some ((ap τ [.cells 1 (tenV B.L[i]) (0, 0)]).setIfInBounds (σ.size + 1) (.map (ver + 1) es' clock')) := p1
    rw [← tenF_take hsrt hlt] at p2
    simp only [↓eD0, ↓eD1, eC0, eC1, eC2, eC3, eC4, eC5, eC6, wantedE, ↓reduceIte, Nat.reduceEqDiff, Option.map_some, Option.map_none, reread, List.nil_append, List.cons_append, List.map_cons, List.map_nil, List.length_nil, List.length_cons, Value.cells, List.getElem?_cons_zero, List.getElem?_cons_succ, outE, lks, lkR, rdV, neg1, evs, opt, Nat.reduceAdd, Nat.reduceMul, and_self, reduceCtorEq, List.size_toArray, List.all_cons, List.all_nil, Value.oneCell', List.set_cons_zero, List.set_cons_succ, sets, fillL, Nat.reduceLeDiff, List.drop_succ_cons, List.drop_zero, List.take_succ_cons, List.take_zero, List.toList_toArray, argsE, Array.append_empty, Array.empty_append, List.getElem?_toArray, Int.reduceLT, Int.reduceLE, Int.reduceToNat, Int.reduceEq, Nat.reduceLT, dl, hb, Int.toNat_natCast, g3, tenV, rep7, p1', hw]
    refine ⟨hlt, by omega, (ho.trans .ap).set (by omega), by simp [ap_size]; omega, ⟨_, (get_set_ne (by omega)).trans ((ap_old z0).trans q0)⟩, ver + 1, es', clock', get_set ((ap_old z1).trans q1), ?_⟩
    exact p2
  · have : i = B.L.length := by omega
    subst this
    have dl : decide ((B.L.length:Int) < (B.L.length : Int)) = false := by simp
    rw [List.take_length] at hm
    have hSt : St σ τ B base cap := ⟨ho, hsz, ⟨v0, q0⟩, hB.Old ho, fun hne c hc => .inl (isB_clear hB hne hc), hV, ver, es, clock, q1, hm⟩
    simp only [↓eD0, ↓eD1, eC0, eC1, eC2, eC3, eC4, eC5, eC6, wantedE, ↓reduceIte, Nat.reduceEqDiff, Option.map_some, Option.map_none, reread, List.nil_append, List.cons_append, List.map_cons, List.map_nil, List.length_nil, List.length_cons, Value.cells, List.getElem?_cons_zero, List.getElem?_cons_succ, outE, lks, lkR, rdV, neg1, evs, opt, Nat.reduceAdd, Nat.reduceMul, and_self, reduceCtorEq, List.size_toArray, List.all_cons, List.all_nil, Value.oneCell', List.set_cons_zero, List.set_cons_succ, sets, fillL, Nat.reduceLeDiff, List.drop_succ_cons, List.drop_zero, List.take_succ_cons, List.take_zero, List.toList_toArray, argsE, Array.append_empty, Array.empty_append, List.getElem?_toArray, Int.reduceLT, Int.reduceLE, Int.reduceToNat, Int.reduceEq, Nat.reduceLT, dl]
    rw [ap_nil]
    clear hm q1 q0 z0 z1 hsz
    refine loop_for (J := fun i e τ => i ≤ l.length ∧ e = [(2, .int .u32 q), (3, .pointer (some ⟨σ.size, 0, none⟩)), (7, .map (some (σ.size + 1))), (51, .slice tb l.length tc), (52, .int .i64 l.length), (53, .int .i64 i)] ∧
        ∃ C base cap, St σ τ C base cap) l.length ⟨by omega, rfl, _, _, _, hSt⟩ ?_
    rintro i e τ hi ⟨_, rfl, C, base, cap, hS⟩
    rw [← ap_nil (σ := τ)]
    by_cases hlt : i < l.length
    · have dl : decide ((i:Int) < (l.length : Int)) = true := by simpa using hlt
      have hx : (l.map tenV)[i]? = some (tenV l[i]) := by simp [hlt]
      obtain ⟨b, off, rfl, h1⟩ := ht.at hx
      have g3 : ∀ L, rdN (ap τ L) ⟨b, off + i * 7, none⟩ 7 = some (tenV l[i]) := fun L => rdN_Old (hS.old.trans .ap) h1
      have hb : (0:Int) ≤ (i:Int) ∧ (i:Int) < (l.length : Int) := by omega
      have hw : IntKind.wrap .i64 ((i:Int) + 1) = ((i + 1 : Nat) : Int) := by rw [wrap64 (by omega) (by omega)]; omega
      obtain ⟨v1, q1⟩ := hS.box
      have z1 := (Array.getElem?_eq_some_iff.1 q1).1
      have f0 : ∀ L, rdN (ap τ L) ⟨σ.size, 0, none⟩ 3 = some (budV C base cap) := fun L => rdN_all ((ap_old z1).trans q1) rfl
      have few := hS.val.few
      simp only [↓eD0, ↓eD1, eC0, eC1, eC2, eC3, eC4, eC5, eC6, wantedE, ↓reduceIte, Nat.reduceEqDiff, Option.map_some, Option.map_none, reread, List.nil_append, List.cons_append, List.map_cons, List.map_nil, List.length_nil, List.length_cons, Value.cells, List.getElem?_cons_zero, List.getElem?_cons_succ, outE, lks, lkR, rdV, neg1, evs, opt, Nat.reduceAdd, Nat.reduceMul, and_self, reduceCtorEq, List.size_toArray, List.all_cons, List.all_nil, Value.oneCell', List.set_cons_zero, List.set_cons_succ, sets, fillL, Nat.reduceLeDiff, List.drop_succ_cons, List.drop_zero, List.take_succ_cons, List.take_zero, List.toList_toArray, argsE, Array.append_empty, Array.empty_append, List.getElem?_toArray, Int.reduceLT, Int.reduceLE, Int.reduceToNat, Int.reduceEq, Nat.reduceLT, dl, hb, Int.toNat_natCast, g3, tenV, rep7, f0, budV]
      refine appK_of (admit_app (t := l[i]) (hS.isb.Old .ap) hS.val.srt (by omega)) ?_
      rintro _ τ1 ⟨ho1, lx, rfl, hx, fx⟩
      obtain ⟨bx, cx, rfl, rx, kx⟩ := hx
      have hx : IsB τ1 (budV (admitF C l[i]).1 bx cx) (admitF C l[i]).1 := ⟨bx, cx, rfl, rx, kx⟩
      have hti : τ1[τ.size]? = some (.cells 1 (tenV l[i]) (0, 0)) := (ho1.2 _ (by simp [ap_size])).trans ap_new0
      have zti := (Array.getElem?_eq_some_iff.1 hti).1
      have f1 : ∀ L, rdN (ap τ1 L) ⟨τ.size, 0, none⟩ 7 = some (tenV l[i]) := fun L => rdN_all ((ap_old zti).trans hti) rfl
      have f2 : ∀ L, rd1 (ap τ1 L) ⟨τ.size, 0, none⟩ = some (.int .i64 l[i].m) := fun L => by rw [rd1_eq, ap_old zti, hti]; rfl
      rw [← ap_nil (σ := τ1)]
      simp only [↓eD0, ↓eD1, eC0, eC1, eC2, eC3, eC4, eC5, eC6, wantedE, ↓reduceIte, Nat.reduceEqDiff, Option.map_some, Option.map_none, reread, List.nil_append, List.cons_append, List.map_cons, List.map_nil, List.length_nil, List.length_cons, Value.cells, List.getElem?_cons_zero, List.getElem?_cons_succ, outE, lks, lkR, rdV, neg1, evs, opt, Nat.reduceAdd, Nat.reduceMul, and_self, reduceCtorEq, List.size_toArray, List.all_cons, List.all_nil, Value.oneCell', List.set_cons_zero, List.set_cons_succ, sets, fillL, Nat.reduceLeDiff, List.drop_succ_cons, List.drop_zero, List.take_succ_cons, List.take_zero, List.toList_toArray, argsE, Array.append_empty, Array.empty_append, List.getElem?_toArray, Int.reduceLT, Int.reduceLE, Int.reduceToNat, Int.reduceEq, Nat.reduceLT, budV, f1, f2]
      by_cases hc : (admitF C l[i]).2 = 0
      case' pos =>
        have dc : decide ((admitF C l[i]).2 = 0) = true := by simpa using hc
        obtain ⟨τ2, τ3, p1, p2, p3, p4, p5⟩ := hS.admit (t := l[i]) (τ1 := ap τ1 [.cells 1 (budV (admitF C l[i]).1 bx cx) (0, 0)]) (Old.ap.trans (ho1.trans .ap)) hc (hx.Old .ap) (fun c hb => by have := fx hc c _ rfl hb; rw [ap_size] at this; omega)
        have f3 : rdN τ2 ⟨τ1.size, 0, none⟩ 3 = some (budV (admitF C l[i]).1 bx cx) := rdN_all (p4 τ1.size _ (by have := ho1.1; rw [ap_size] at this; have := hS.sz; omega) ap_new0) rfl
        simp only [budV] at p1 p2 f3
        simp only [↓eD0, ↓eD1, eC0, eC1, eC2, eC3, eC4, eC5, eC6, wantedE, ↓reduceIte, Nat.reduceEqDiff, Option.map_some, Option.map_none, reread, List.nil_append, List.cons_append, List.map_cons, List.map_nil, List.length_nil, List.length_cons, Value.cells, List.getElem?_cons_zero, List.getElem?_cons_succ, outE, lks, lkR, rdV, neg1, evs, opt, Nat.reduceAdd, Nat.reduceMul, and_self, reduceCtorEq, List.size_toArray, List.all_cons, List.all_nil, Value.oneCell', List.set_cons_zero, List.set_cons_succ, sets, fillL, Nat.reduceLeDiff, List.drop_succ_cons, List.drop_zero, List.take_succ_cons, List.take_zero, List.toList_toArray, argsE, Array.append_empty, Array.empty_append, List.getElem?_toArray, Int.reduceLT, Int.reduceLE, Int.reduceToNat, Int.reduceEq, Nat.reduceLT, dc, f1, f2, tenV, p1, p2, f3]
        refine onV_of (if_neg (by omega)) ?_
        clear p1 p2 p4 p5 f3 f1 f2 hti zti hx rx kx fx dc hc
        generalize (admitF C l[i]).1 = D at p3
      case' neg =>
        have dc : decide ((admitF C l[i]).2 = 0) = false := by simpa using hc
        simp only [↓eD0, ↓eD1, eC0, eC1, eC2, eC3, eC4, eC5, eC6, wantedE, ↓reduceIte, Nat.reduceEqDiff, Option.map_some, Option.map_none, reread, List.nil_append, List.cons_append, List.map_cons, List.map_nil, List.length_nil, List.length_cons, Value.cells, List.getElem?_cons_zero, List.getElem?_cons_succ, outE, lks, lkR, rdV, neg1, evs, opt, Nat.reduceAdd, Nat.reduceMul, and_self, reduceCtorEq, List.size_toArray, List.all_cons, List.all_nil, Value.oneCell', List.set_cons_zero, List.set_cons_succ, sets, fillL, Nat.reduceLeDiff, List.drop_succ_cons, List.drop_zero, List.take_succ_cons, List.take_zero, List.toList_toArray, argsE, Array.append_empty, Array.empty_append, List.getElem?_toArray, Int.reduceLT, Int.reduceLE, Int.reduceToNat, Int.reduceEq, Nat.reduceLT, dc]
        refine onV_of (if_neg (by omega)) ?_
        generalize hT : ap τ1 [Blk.cells 1 _ (0, 0)] = τ3
        have p3 : St σ τ3 C base cap := hT ▸ hS.Old' (Old.ap.trans (ho1.trans .ap))
        clear hT
      all_goals
        obtain ⟨D, bd, cd, p3⟩ : ∃ D bd cd, St σ τ3 D bd cd := ⟨_, _, _, p3⟩
        clear hS f0 g3 few ho1
        generalize q.fdiv _ = z
        rw [← ap_nil (σ := τ3)]
        obtain ⟨v4, q4⟩ := p3.box
        have z4 := (Array.getElem?_eq_some_iff.1 q4).1
        have r4 : ∀ L, rd1 (ap τ3 L) ⟨σ.size, 2, none⟩ = some (.slice bd D.L.length cd) := fun L => by rw [rd1_eq, ap_old z4, q4]; rfl
        have f4 : ∀ L, rdN (ap τ3 L) ⟨σ.size, 0, none⟩ 3 = some (budV D bd cd) := fun L => rdN_all ((ap_old z4).trans q4) rfl
        simp only [↓eD0, ↓eD1, eC0, eC1, eC2, eC3, eC4, eC5, eC6, wantedE, ↓reduceIte, Nat.reduceEqDiff, Option.map_some, Option.map_none, reread, List.nil_append, List.cons_append, List.map_cons, List.map_nil, List.length_nil, List.length_cons, Value.cells, List.getElem?_cons_zero, List.getElem?_cons_succ, outE, lks, lkR, rdV, neg1, evs, opt, Nat.reduceAdd, Nat.reduceMul, and_self, reduceCtorEq, List.size_toArray, List.all_cons, List.all_nil, Value.oneCell', List.set_cons_zero, List.set_cons_succ, sets, fillL, Nat.reduceLeDiff, List.drop_succ_cons, List.drop_zero, List.take_succ_cons, List.take_zero, List.toList_toArray, argsE, Array.append_empty, Array.empty_append, List.getElem?_toArray, Int.reduceLT, Int.reduceLE, Int.reduceToNat, Int.reduceEq, Nat.reduceLT]
        generalize decide (IntKind.u32.wrap _ = 1) = dz
        cases dz
        case false =>
          simp only [↓eD0, ↓eD1, eC0, eC1, eC2, eC3, eC4, eC5, eC6, wantedE, ↓reduceIte, Nat.reduceEqDiff, Option.map_some, Option.map_none, reread, List.nil_append, List.cons_append, List.map_cons, List.map_nil, List.length_nil, List.length_cons, Value.cells, List.getElem?_cons_zero, List.getElem?_cons_succ, outE, lks, lkR, rdV, neg1, evs, opt, Nat.reduceAdd, Nat.reduceMul, and_self, reduceCtorEq, List.size_toArray, List.all_cons, List.all_nil, Value.oneCell', List.set_cons_zero, List.set_cons_succ, sets, fillL, Nat.reduceLeDiff, List.drop_succ_cons, List.drop_zero, List.take_succ_cons, List.take_zero, List.toList_toArray, argsE, Array.append_empty, Array.empty_append, List.getElem?_toArray, Int.reduceLT, Int.reduceLE, Int.reduceToNat, Int.reduceEq, Nat.reduceLT, hw, undef_eq]
          exact ⟨hlt, by omega, D, bd, cd, p3.Old' .ap⟩
        simp only [↓eD0, ↓eD1, eC0, eC1, eC2, eC3, eC4, eC5, eC6, wantedE, ↓reduceIte, Nat.reduceEqDiff, Option.map_some, Option.map_none, reread, List.nil_append, List.cons_append, List.map_cons, List.map_nil, List.length_nil, List.length_cons, Value.cells, List.getElem?_cons_zero, List.getElem?_cons_succ, outE, lks, lkR, rdV, neg1, evs, opt, Nat.reduceAdd, Nat.reduceMul, and_self, reduceCtorEq, List.size_toArray, List.all_cons, List.all_nil, Value.oneCell', List.set_cons_zero, List.set_cons_succ, sets, fillL, Nat.reduceLeDiff, List.drop_succ_cons, List.drop_zero, List.take_succ_cons, List.take_zero, List.toList_toArray, argsE, Array.append_empty, Array.empty_append, List.getElem?_toArray, Int.reduceLT, Int.reduceLE, Int.reduceToNat, Int.reduceEq, Nat.reduceLT, r4, undef_eq]
        by_cases hn : 0 < D.L.length
        case neg =>
          have dn : decide ((0:Int) < (D.L.length : Int)) = false := by rw [decide_eq_false]; omega
          simp only [↓eD0, ↓eD1, eC0, eC1, eC2, eC3, eC4, eC5, eC6, wantedE, ↓reduceIte, Nat.reduceEqDiff, Option.map_some, Option.map_none, reread, List.nil_append, List.cons_append, List.map_cons, List.map_nil, List.length_nil, List.length_cons, Value.cells, List.getElem?_cons_zero, List.getElem?_cons_succ, outE, lks, lkR, rdV, neg1, evs, opt, Nat.reduceAdd, Nat.reduceMul, and_self, reduceCtorEq, List.size_toArray, List.all_cons, List.all_nil, Value.oneCell', List.set_cons_zero, List.set_cons_succ, sets, fillL, Nat.reduceLeDiff, List.drop_succ_cons, List.drop_zero, List.take_succ_cons, List.take_zero, List.toList_toArray, argsE, Array.append_empty, Array.empty_append, List.getElem?_toArray, Int.reduceLT, Int.reduceLE, Int.reduceToNat, Int.reduceEq, Nat.reduceLT, dn, hw]
          exact ⟨hlt, by omega, D, bd, cd, p3.Old' .ap⟩
        have dn : decide ((0:Int) < (D.L.length : Int)) = true := by rw [decide_eq_true]; omega
        obtain ⟨j, hj⟩ : ∃ j, j = i % D.L.length := ⟨_, rfl⟩
        have hjl : j < D.L.length := by rw [hj]; exact Nat.mod_lt _ hn
        have hmod : (i:Int).tmod (D.L.length:Int) = (j:Int) := by rw [hj]; rfl
        have hne : ¬ (D.L.length:Int) = 0 := by omega
        have hjb : (0:Int) ≤ (j:Int) ∧ (j:Int) < (D.L.length : Int) := by omega
        have hrD := p3.isb
        obtain ⟨bd', cd', hbe, hrD, _⟩ := hrD
        have e1 : bd' = bd := by
          have := congrArg (fun l : List Value => l[2]?) hbe
          simp [budV] at this
          exact this.1.symm
        have e2 : cd' = cd := by
          have := congrArg (fun l : List Value => l[2]?) hbe
          simp [budV] at this
          exact this.2.symm
        subst e1 e2
        have hx : (D.L.map tenV)[j]? = some (tenV D.L[j]) := by simp [hjl]
        obtain ⟨b5, off5, rfl, h5⟩ := hrD.at hx
        have g5 : ∀ L, rd1 (ap τ3 L) ⟨b5, off5 + j * 7, none⟩ = some (.int .i64 D.L[j].m) := fun L => rd1_row (rdN_Old .ap h5) (j := 0) rfl
        have hlv := leave_in p3.val.srt hjl
        have few := p3.val.few
        simp only [↓eD0, ↓eD1, eC0, eC1, eC2, eC3, eC4, eC5, eC6, wantedE, ↓reduceIte, Nat.reduceEqDiff, Option.map_some, Option.map_none, reread, List.nil_append, List.cons_append, List.map_cons, List.map_nil, List.length_nil, List.length_cons, Value.cells, List.getElem?_cons_zero, List.getElem?_cons_succ, outE, lks, lkR, rdV, neg1, evs, opt, Nat.reduceAdd, Nat.reduceMul, and_self, reduceCtorEq, List.size_toArray, List.all_cons, List.all_nil, Value.oneCell', List.set_cons_zero, List.set_cons_succ, sets, fillL, Nat.reduceLeDiff, List.drop_succ_cons, List.drop_zero, List.take_succ_cons, List.take_zero, List.toList_toArray, argsE, Array.append_empty, Array.empty_append, List.getElem?_toArray, Int.reduceLT, Int.reduceLE, Int.reduceToNat, Int.reduceEq, Nat.reduceLT, dn, hmod, hne, hjb, Int.toNat_natCast, r4, g5, f4, budV]
        refine appK_of (leave_app (m := D.L[j].m) (p3.isb.Old .ap) p3.val.srt (by omega)) ?_
        rw [hlv]
        rintro _ τ5 ⟨ho5, ly, rfl, hy, fy⟩
        obtain ⟨b_y, cy, rfl, ry, ky⟩ := hy
        have hy : IsB τ5 (budV (cutT D D.L[j].m) b_y cy) (cutT D D.L[j].m) := ⟨b_y, cy, rfl, ry, ky⟩
        have hcl := cut_len (isF_get p3.val.srt hjl)
        rw [← ap_nil (σ := τ5)]
        simp only [↓eD0, ↓eD1, eC0, eC1, eC2, eC3, eC4, eC5, eC6, wantedE, ↓reduceIte, Nat.reduceEqDiff, Option.map_some, Option.map_none, reread, List.nil_append, List.cons_append, List.map_cons, List.map_nil, List.length_nil, List.length_cons, Value.cells, List.getElem?_cons_zero, List.getElem?_cons_succ, outE, lks, lkR, rdV, neg1, evs, opt, Nat.reduceAdd, Nat.reduceMul, and_self, reduceCtorEq, List.size_toArray, List.all_cons, List.all_nil, Value.oneCell', List.set_cons_zero, List.set_cons_succ, sets, fillL, Nat.reduceLeDiff, List.drop_succ_cons, List.drop_zero, List.take_succ_cons, List.take_zero, List.toList_toArray, argsE, Array.append_empty, Array.empty_append, List.getElem?_toArray, Int.reduceLT, Int.reduceLE, Int.reduceToNat, Int.reduceEq, Nat.reduceLT, budV]
        rw [ap_nil] at ho5
        obtain ⟨τ6, τ7, p6, p7, p8, p9⟩ := p3.leave (τ1 := ap τ5 [.cells 1 (budV (cutT D D.L[j].m) b_y cy) (0, 0)]) (ho5.trans .ap) hjl (hy.Old .ap) (fun c hb => by
          rcases fy with ⟨_, he⟩ | fy
          · exfalso
            have := congrArg (fun X : Bud => X.L.length) he
            simp only at this
            omega
          · have := fy c _ rfl hb
            simpa [ap_size] using this)
        have f6 : rdN τ6 ⟨τ5.size, 0, none⟩ 3 = some (budV (cutT D D.L[j].m) b_y cy) := rdN_all (p9 τ5.size _ (by have := ho5.1; have := p3.sz; omega) ap_new0) rfl
        simp only [budV] at p6 p7 f6
        simp only [↓eD0, ↓eD1, eC0, eC1, eC2, eC3, eC4, eC5, eC6, wantedE, ↓reduceIte, Nat.reduceEqDiff, Option.map_some, Option.map_none, reread, List.nil_append, List.cons_append, List.map_cons, List.map_nil, List.length_nil, List.length_cons, Value.cells, List.getElem?_cons_zero, List.getElem?_cons_succ, outE, lks, lkR, rdV, neg1, evs, opt, Nat.reduceAdd, Nat.reduceMul, and_self, reduceCtorEq, List.size_toArray, List.all_cons, List.all_nil, Value.oneCell', List.set_cons_zero, List.set_cons_succ, sets, fillL, Nat.reduceLeDiff, List.drop_succ_cons, List.drop_zero, List.take_succ_cons, List.take_zero, List.toList_toArray, argsE, Array.append_empty, Array.empty_append, List.getElem?_toArray, Int.reduceLT, Int.reduceLE, Int.reduceToNat, Int.reduceEq, Nat.reduceLT, p6, p7, f6, hw]
        exact ⟨hlt, by omega, _, _, _, p8⟩
    · have : i = l.length := by omega
      subst this
      have dl : decide ((l.length:Int) < (l.length : Int)) = false := by simp
      obtain ⟨v1, q1⟩ := hS.box
      have z1 := (Array.getElem?_eq_some_iff.1 q1).1
      have r1 : ∀ L, rd1 (ap τ L) ⟨σ.size, 2, none⟩ = some (.slice base C.L.length cap) := fun L => by rw [rd1_eq, ap_old z1, q1]; rfl
      obtain ⟨v2, es, cl, q2, hm⟩ := hS.map
      have z2 := (Array.getElem?_eq_some_iff.1 q2).1
      have hrC := hS.isb
      obtain ⟨bd', cd', hbe, hrC, _⟩ := hrC
      have e1 : bd' = base := by
        have := congrArg (fun l : List Value => l[2]?) hbe
        simp [budV] at this
        exact this.1.symm
      have e2 : cd' = cap := by
        have := congrArg (fun l : List Value => l[2]?) hbe
        simp [budV] at this
        exact this.2.symm
      subst e1 e2
      have few := hS.val.few
      have hdl : (dmds C).length = C.L.length := by simp [dmds]
      simp only [↓eD0, ↓eD1, eC0, eC1, eC2, eC3, eC4, eC5, eC6, wantedE, ↓reduceIte, Nat.reduceEqDiff, Option.map_some, Option.map_none, reread, List.nil_append, List.cons_append, List.map_cons, List.map_nil, List.length_nil, List.length_cons, Value.cells, List.getElem?_cons_zero, List.getElem?_cons_succ, outE, lks, lkR, rdV, neg1, evs, opt, Nat.reduceAdd, Nat.reduceMul, and_self, reduceCtorEq, List.size_toArray, List.all_cons, List.all_nil, Value.oneCell', List.set_cons_zero, List.set_cons_succ, sets, fillL, Nat.reduceLeDiff, List.drop_succ_cons, List.drop_zero, List.take_succ_cons, List.take_zero, List.toList_toArray, argsE, Array.append_empty, Array.empty_append, List.getElem?_toArray, Int.reduceLT, Int.reduceLE, Int.reduceToNat, Int.reduceEq, Nat.reduceLT, dl, r1]
      rw [ap_nil]
      refine loop_for (J := fun i e θ => i ≤ C.L.length ∧ ∃ v, e = [(3, .pointer (some ⟨σ.size, 0, none⟩)), (7, .map (some (σ.size + 1))), (17, v), (105, .slice bd' C.L.length cd'), (106, .int .i64 C.L.length), (107, .int .i64 i)] ∧ Old τ θ ∧ Grown τ θ 3 v (((dmds C).take i).map porV).flatten ((dmds C).take i).length) C.L.length
        ⟨by omega, _, rfl, .refl, Grown.nil⟩ ?_
      rintro i e θ hi ⟨_, v, rfl, hoθ, hg⟩
      rw [← ap_nil (σ := θ)]
      by_cases hlt : i < C.L.length
      · have dl : decide ((i:Int) < (C.L.length : Int)) = true := by simpa using hlt
        have hx : (C.L.map tenV)[i]? = some (tenV C.L[i]) := by simp [hlt]
        obtain ⟨b, off, rfl, h1⟩ := hrC.at hx
        have g3 : ∀ L, rdN (ap θ L) ⟨b, off + i * 7, none⟩ 7 = some (tenV C.L[i]) := fun L => rdN_Old (hoθ.trans .ap) h1
        have hb : (0:Int) ≤ (i:Int) ∧ (i:Int) < (C.L.length : Int) := by omega
        have hw : IntKind.wrap .i64 ((i:Int) + 1) = ((i + 1 : Nat) : Int) := by rw [wrap64 (by omega) (by omega)]; omega
        have tk : (dmds C).take (i + 1) = (dmds C).take i ++ [⟨C.L[i].m, C.L[i].st.r, 1073741824⟩] := by rw [List.take_succ_eq_append_getElem (by omega)]; simp [dmds, dmd]
        obtain ⟨v', τ', ha1, hA⟩ := append_grown (σ := ap θ [.cells 1 (tenV C.L[i]) (0, 0), .cells 0 (porV ⟨C.L[i].m, C.L[i].st.r, 1073741824⟩) (0, 0)]) (xa := .slice (some ⟨θ.size + 1, 0, none⟩) 1 1) (bytes := 24) (m := 1) (new := porV ⟨C.L[i].m, C.L[i].st.r, 1073741824⟩) (hg.old .ap) (by omega) (Nat.le_trans hoθ.1 (Old.ap (l := _)).1) (by
          show (rdN (ap θ _) ⟨θ.size + 1, 0, none⟩ 3).map (1, ·) = _
          rw [rdN_ap]; rfl) rfl rfl (by simp only [List.length_take]; omega) (by omega)
        simp only [↓eD0, ↓eD1, eC0, eC1, eC2, eC3, eC4, eC5, eC6, wantedE, ↓reduceIte, Nat.reduceEqDiff, Option.map_some, Option.map_none, reread, List.nil_append, List.cons_append, List.map_cons, List.map_nil, List.length_nil, List.length_cons, Value.cells, List.getElem?_cons_zero, List.getElem?_cons_succ, outE, lks, lkR, rdV, neg1, evs, opt, Nat.reduceAdd, Nat.reduceMul, and_self, reduceCtorEq, List.size_toArray, List.all_cons, List.all_nil, Value.oneCell', List.set_cons_zero, List.set_cons_succ, sets, fillL, Nat.reduceLeDiff, List.drop_succ_cons, List.drop_zero, List.take_succ_cons, List.take_zero, List.toList_toArray, argsE, Array.append_empty, Array.empty_append, List.getElem?_toArray, Int.reduceLT, Int.reduceLE, Int.reduceToNat, Int.reduceEq, Nat.reduceLT, dl, hb, Int.toNat_natCast, g3, tenV, rep7]
        refine onV_of ha1 ?_
        simp only [↓eD0, ↓eD1, eC0, eC1, eC2, eC3, eC4, eC5, eC6, wantedE, ↓reduceIte, Nat.reduceEqDiff, Option.map_some, Option.map_none, reread, List.nil_append, List.cons_append, List.map_cons, List.map_nil, List.length_nil, List.length_cons, Value.cells, List.getElem?_cons_zero, List.getElem?_cons_succ, outE, lks, lkR, rdV, neg1, evs, opt, Nat.reduceAdd, Nat.reduceMul, and_self, reduceCtorEq, List.size_toArray, List.all_cons, List.all_nil, Value.oneCell', List.set_cons_zero, List.set_cons_succ, sets, fillL, Nat.reduceLeDiff, List.drop_succ_cons, List.drop_zero, List.take_succ_cons, List.take_zero, List.toList_toArray, argsE, Array.append_empty, Array.empty_append, List.getElem?_toArray, Int.reduceLT, Int.reduceLE, Int.reduceToNat, Int.reduceEq, Nat.reduceLT, hw]
        refine ⟨hlt, by omega, v', rfl, hA.Old (hg.old .ap) (hoθ.trans .ap), ?_⟩
        rw [tk]
        simpa using hA.grown
      · have : i = C.L.length := by omega
        subst this
        have dl : decide ((C.L.length:Int) < (C.L.length : Int)) = false := by simp
        rw [List.take_of_length_le (by omega)] at hg
        have q1 := (hoθ.2 _ z1).trans q1
        have y1 := (Array.getElem?_eq_some_iff.1 q1).1
        have f1 : ∀ L, rdN (ap θ L) ⟨σ.size, 0, none⟩ 3 = some (budV C bd' cd') := fun L => rdN_all ((ap_old y1).trans q1) rfl
        have hrow : Row θ 3 v ((dmds C).map porV) := Grown.Row (by simpa using hg) porV_rows
        simp only [↓eD0, ↓eD1, eC0, eC1, eC2, eC3, eC4, eC5, eC6, wantedE, ↓reduceIte, Nat.reduceEqDiff, Option.map_some, Option.map_none, reread, List.nil_append, List.cons_append, List.map_cons, List.map_nil, List.length_nil, List.length_cons, Value.cells, List.getElem?_cons_zero, List.getElem?_cons_succ, outE, lks, lkR, rdV, neg1, evs, opt, Nat.reduceAdd, Nat.reduceMul, and_self, reduceCtorEq, List.size_toArray, List.all_cons, List.all_nil, Value.oneCell', List.set_cons_zero, List.set_cons_succ, sets, fillL, Nat.reduceLeDiff, List.drop_succ_cons, List.drop_zero, List.take_succ_cons, List.take_zero, List.toList_toArray, argsE, Array.append_empty, Array.empty_append, List.getElem?_toArray, Int.reduceLT, Int.reduceLE, Int.reduceToNat, Int.reduceEq, Nat.reduceLT, dl, f1, budV]
        refine appK_of (epoch_app (l := dmds C) (hS.isb.Old (hoθ.trans .ap)) hS.val (hrow.Old .ap) (by omega)) ?_
        rintro gv ρ ⟨hoρ, hG⟩
        rw [ap_nil] at hoρ
        have hel := epF_len (B := C) (l := dmds C)
        have hxl := epX_len (B := C) (l := dmds C)
        have hyl := epY_len (B := C) (l := dmds C)
        obtain ⟨gb, gc, rfl⟩ := hG.slice
        simp only [List.length_map] at hG ⊢
        have oτ : Old τ ρ := hoθ.trans hoρ
        have r1 : ∀ L, rd1 (ap ρ L) ⟨σ.size, 2, none⟩ = some (.slice bd' C.L.length cd') := fun L => rd1_Old (oτ.trans .ap) (by have := r1 []; rwa [ap_nil] at this)
        have m1 : ∀ L, mapOf (ap ρ L) (.map (some (σ.size + 1))) = some es := fun L => by
          show (match (ap ρ L)[σ.size + 1]? with | some (.map _ es _) => some es | _ => none) = some es
          rw [((oτ.trans (Old.ap (l := L))).2 _ z2).trans q2]
        have des : ((es.size:Nat):Int) = (C.L.length:Int) := by rw [hm.n]
        have de : ∀ x : Int, decide (x = x) = true := fun x => by simp
        rw [← ap_nil (σ := ρ)]
        simp only [↓eD0, ↓eD1, eC0, eC1, eC2, eC3, eC4, eC5, eC6, wantedE, ↓reduceIte, Nat.reduceEqDiff, Option.map_some, Option.map_none, reread, List.nil_append, List.cons_append, List.map_cons, List.map_nil, List.length_nil, List.length_cons, Value.cells, List.getElem?_cons_zero, List.getElem?_cons_succ, outE, lks, lkR, rdV, neg1, evs, opt, Nat.reduceAdd, Nat.reduceMul, and_self, reduceCtorEq, List.size_toArray, List.all_cons, List.all_nil, Value.oneCell', List.set_cons_zero, List.set_cons_succ, sets, fillL, Nat.reduceLeDiff, List.drop_succ_cons, List.drop_zero, List.take_succ_cons, List.take_zero, List.toList_toArray, argsE, Array.append_empty, Array.empty_append, List.getElem?_toArray, Int.reduceLT, Int.reduceLE, Int.reduceToNat, Int.reduceEq, Nat.reduceLT, r1, m1, hel, des, de, undef_eq, Option.bind_some, Option.map_some]
        refine loop_for (J := fun i e θ => i ≤ C.L.length ∧ e = [(7, .map (some (σ.size + 1))), (20, .slice gb C.L.length gc), (139, .slice bd' C.L.length cd'), (140, .int .i64 C.L.length), (141, .int .i64 i)] ∧ Old ρ θ) C.L.length
          ⟨by omega, rfl, .ap⟩ ?_
        rintro i e θ' hi ⟨_, rfl, hoθ'⟩
        rw [← ap_nil (σ := θ')]
        by_cases hlt : i < C.L.length
        · have dl : decide ((i:Int) < (C.L.length : Int)) = true := by simpa using hlt
          have hx : (C.L.map tenV)[i]? = some (tenV C.L[i]) := by simp [hlt]
          obtain ⟨b, off, rfl, h1⟩ := hrC.at hx
          have g3 : ∀ L, rdN (ap θ' L) ⟨b, off + i * 7, none⟩ 7 = some (tenV C.L[i]) := fun L => rdN_Old ((oτ.trans hoθ').trans .ap) h1
          have hgi := epF_get (B := C) (l := dmds C) hlt (by omega) (by omega) (by omega)
          have hgot := ep_stays hS.val hlt (by omega) (by omega)
          have hx2 : ((epF C (dmds C)).map porV)[i]? = some (porV ⟨C.L[i].m, (epX C (dmds C))[i], (epY C (dmds C))[i]⟩) := by simp [hel, hlt, hgi]
          obtain ⟨b2, off2, rfl, h2⟩ := hG.at hx2
          have g4 : ∀ L, rd1 (ap θ' L) ⟨b2, off2 + i * 3, none⟩ = some (.int .i64 C.L[i].m) := fun L => rd1_row (rdN_Old (hoθ'.trans .ap) h2) (j := 0) rfl
          have g5 : ∀ L, rd1 (ap θ' L) ⟨b2, off2 + i * 3 + 1, none⟩ = some (.int .i64 (epX C (dmds C))[i]) := fun L => rd1_row (rdN_Old (hoθ'.trans .ap) h2) (j := 1) rfl
          have g6 : ∀ L, rd1 (ap θ' L) ⟨b2, off2 + i * 3 + 2, none⟩ = some (.int .i64 (epY C (dmds C))[i]) := fun L => rd1_row (rdN_Old (hoθ'.trans .ap) h2) (j := 2) rfl
          rw [hgot.1] at g5
          have hb : (0:Int) ≤ (i:Int) ∧ (i:Int) < (C.L.length : Int) := by omega
          have hw : IntKind.wrap .i64 ((i:Int) + 1) = ((i + 1 : Nat) : Int) := by rw [wrap64 (by omega) (by omega)]; omega
          have dy : decide ((epY C (dmds C))[i] < C.L[i].pg.r) = false := by rw [decide_eq_false]; omega
          have hlk : ∀ L, lookupV (.int .i64) (.agg #[.int .i64 0, .int .i64 0, .int .i64 0, .int .i64 0, .int .i64 0, .int .i64 0, .int .i64 0]) false (.map (some (σ.size + 1))) (.int .i64 C.L[i].m) (ap θ' L) = some (.agg #[.int .i64 C.L[i].m, .int .i64 C.L[i].st.r, .int .i64 C.L[i].st.l, .int .i64 C.L[i].st.s, .int .i64 C.L[i].pg.r, .int .i64 C.L[i].pg.l, .int .i64 C.L[i].pg.s]) := fun L => by
            rw [map_get hm.m ((((oτ.trans hoθ').trans (Old.ap (l := L))).2 _ z2).trans q2), tenF_get hS.val.srt hlt]
            rfl
          have de7 : ∀ a b c d e f g : Int, decide (a = a ∧ b = b ∧ c = c ∧ d = d ∧ e = e ∧ f = f ∧ g = g) = true := fun _ _ _ _ _ _ _ => by simp
          simp only [↓eD0, ↓eD1, eC0, eC1, eC2, eC3, eC4, eC5, eC6, wantedE, ↓reduceIte, Nat.reduceEqDiff, Option.map_some, Option.map_none, reread, List.nil_append, List.cons_append, List.map_cons, List.map_nil, List.length_nil, List.length_cons, Value.cells, List.getElem?_cons_zero, List.getElem?_cons_succ, outE, lks, lkR, rdV, neg1, evs, opt, Nat.reduceAdd, Nat.reduceMul, and_self, reduceCtorEq, List.size_toArray, List.all_cons, List.all_nil, Value.oneCell', List.set_cons_zero, List.set_cons_succ, sets, fillL, Nat.reduceLeDiff, List.drop_succ_cons, List.drop_zero, List.take_succ_cons, List.take_zero, List.toList_toArray, argsE, Array.append_empty, Array.empty_append, List.getElem?_toArray, Int.reduceLT, Int.reduceLE, Int.reduceToNat, Int.reduceEq, Nat.reduceLT, dl, hb, Int.toNat_natCast, g3, tenV, rep7, hlk, g4, g5, g6, de, dy, ten_eq, de7, undef_eq, hw]
          exact ⟨hlt, by omega, hoθ'.trans .ap⟩
        · have : i = C.L.length := by omega
          subst this
          have dl : decide ((C.L.length:Int) < (C.L.length : Int)) = false := by simp
          simp only [↓eD0, ↓eD1, eC0, eC1, eC2, eC3, eC4, eC5, eC6, wantedE, ↓reduceIte, Nat.reduceEqDiff, Option.map_some, Option.map_none, reread, List.nil_append, List.cons_append, List.map_cons, List.map_nil, List.length_nil, List.length_cons, Value.cells, List.getElem?_cons_zero, List.getElem?_cons_succ, outE, lks, lkR, rdV, neg1, evs, opt, Nat.reduceAdd, Nat.reduceMul, and_self, reduceCtorEq, List.size_toArray, List.all_cons, List.all_nil, Value.oneCell', List.set_cons_zero, List.set_cons_succ, sets, fillL, Nat.reduceLeDiff, List.drop_succ_cons, List.drop_zero, List.take_succ_cons, List.take_zero, List.toList_toArray, argsE, Array.append_empty, Array.empty_append, List.getElem?_toArray, Int.reduceLT, Int.reduceLE, Int.reduceToNat, Int.reduceEq, Nat.reduceLT, dl]
          refine appK_of sanity_app ?_
          rintro _ _ ⟨e2, rfl⟩
          rw [e2]
          clear e2
          simp only [↓eD0, ↓eD1, eC0, eC1, eC2, eC3, eC4, eC5, eC6, wantedE, ↓reduceIte, Nat.reduceEqDiff, Option.map_some, Option.map_none, reread, List.nil_append, List.cons_append, List.map_cons, List.map_nil, List.length_nil, List.length_cons, Value.cells, List.getElem?_cons_zero, List.getElem?_cons_succ, outE, lks, lkR, rdV, neg1, evs, opt, Nat.reduceAdd, Nat.reduceMul, and_self, reduceCtorEq, List.size_toArray, List.all_cons, List.all_nil, Value.oneCell', List.set_cons_zero, List.set_cons_succ, sets, fillL, Nat.reduceLeDiff, List.drop_succ_cons, List.drop_zero, List.take_succ_cons, List.take_zero, List.toList_toArray, argsE, Array.append_empty, Array.empty_append, List.getElem?_toArray, Int.reduceLT, Int.reduceLE, Int.reduceToNat, Int.reduceEq, Nat.reduceLT]
          exact (hS.old.trans (oτ.trans hoθ')).trans .ap
end Go.Proofs.Ytimcgoghjebalaa
