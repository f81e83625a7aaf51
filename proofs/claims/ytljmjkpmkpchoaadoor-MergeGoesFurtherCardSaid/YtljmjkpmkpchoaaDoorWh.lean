/- Walks of the functions that the claim reaches. Conditions: none. -/
import Derived.Test.YtljmjkpmkpchoaaDoorWg
set_option linter.all false
set_option linter.unusedSimpArgs false
set_option maxRecDepth 10000
set_option maxHeartbeats 4000000
namespace Go.Proofs.YtljmjkpmkpchoaaDoor
open Go Go.Cn Go.RowKit

theorem rightF_size {e : Ent} {c : Int} (h : rightF e c = true) : e.data.size ≤ 512 := by
  unfold rightF at h
  grind
theorem chkE_data {L : Lg} : ∀ {f k : Nat}, k + f = L.E.length → chkE L f k = true → ∀ j, k ≤ j → ∀ hj : j < L.E.length, rightF L.E[j] L.c = true ∧ L.E[j].count = countF (L.E.take j) L.E[j].cpu
  | 0, k, hk, _, j, h1, hj => by omega
  | f + 1, k, hk, h, j, h1, hj => by
    have hlt : k < L.E.length := by omega
    rw [chkE, List.getElem?_eq_getElem hlt] at h
    simp only at h
    split at h
    · rename_i hc
      rcases Nat.eq_or_lt_of_le h1 with rfl | h2
      · exact hc
      · exact chkE_data (f := f) (k := k + 1) (by omega) h j h2 hj
    · cases h
theorem chkS_bounds {n : Nat} : ∀ {S : List Sea} {e : Int}, 0 ≤ e → chkS n S e = true → ∀ s ∈ S, 0 ≤ s.end_ ∧ s.end_ ≤ n
  | [], _, _, _, s, hs => by simp at hs
  | a :: S, e, he, h, s, hs => by
    rw [chkS] at h
    split at h
    · cases h
    · rename_i hc
      rcases List.mem_cons.1 hs with rfl | hs
      · omega
      · exact chkS_bounds (by omega) h s hs

theorem check_app {σ : H} {l : List Value} {L : Lg} (h : IsLg σ l L) (hG : Glob σ) :
    App Tryd.prog (.func 20) #[] #[.agg l.toArray] σ fun v σ' => σ' = σ ∧ v = .int .i64 (checkF L) := by
  refine App.forget (App.of_sem mixed Tryd.func20 t20 k20 r20 (Nat.le_of_ble_eq_true rfl) ?_)
  obtain ⟨a1, b1, a2, b2, rfl, hv, hw, hcap⟩ := h.recs
  have hd := h.log.d16
  unfold s20
  have e0 : ap σ [] = σ := ap_nil
  rw [← e0]
  have hfe := h.fewE
  have hfs := h.fewS
  simp only [↓eD0, ↓eD1, eC0, eC1, eC2, eC3, eC4, eC5, eC6, wantedE, ↓reduceIte, Nat.reduceEqDiff, Option.map_some, Option.map_none, reread, List.nil_append, List.cons_append, List.map_cons, List.map_nil, List.length_nil, List.length_cons, Value.cells, List.getElem?_cons_zero, List.getElem?_cons_succ, outE, lks, lkR, rdV, neg1, evs, opt, Nat.reduceAdd, Nat.reduceMul, and_self, reduceCtorEq, List.size_toArray, List.all_cons, List.all_nil, Value.oneCell', List.set_cons_zero, List.set_cons_succ, sets, fillL, Nat.reduceLeDiff, List.drop_succ_cons, List.drop_zero, List.take_succ_cons, List.take_zero, List.toList_toArray, argsE, Array.append_empty, Array.empty_append, List.getElem?_toArray, Int.reduceLT, Int.reduceLE, Int.reduceToNat, Int.reduceEq, Nat.reduceLT, rec16 hd]
  by_cases hc1 : L.c < 1
  · simp only [↓eD0, ↓eD1, eC0, eC1, eC2, eC3, eC4, eC5, eC6, wantedE, ↓reduceIte, Nat.reduceEqDiff, Option.map_some, Option.map_none, reread, List.nil_append, List.cons_append, List.map_cons, List.map_nil, List.length_nil, List.length_cons, Value.cells, List.getElem?_cons_zero, List.getElem?_cons_succ, outE, lks, lkR, rdV, neg1, evs, opt, Nat.reduceAdd, Nat.reduceMul, and_self, reduceCtorEq, List.size_toArray, List.all_cons, List.all_nil, Value.oneCell', List.set_cons_zero, List.set_cons_succ, sets, fillL, Nat.reduceLeDiff, List.drop_succ_cons, List.drop_zero, List.take_succ_cons, List.take_zero, List.toList_toArray, argsE, Array.append_empty, Array.empty_append, List.getElem?_toArray, Int.reduceLT, Int.reduceLE, Int.reduceToNat, Int.reduceEq, Nat.reduceLT, hc1, rec16 hd]
    exact ⟨.ap, by simp [flat], by simp [checkF, hc1]⟩
  by_cases hc2 : 4 < L.c
  · simp only [↓eD0, ↓eD1, eC0, eC1, eC2, eC3, eC4, eC5, eC6, wantedE, ↓reduceIte, Nat.reduceEqDiff, Option.map_some, Option.map_none, reread, List.nil_append, List.cons_append, List.map_cons, List.map_nil, List.length_nil, List.length_cons, Value.cells, List.getElem?_cons_zero, List.getElem?_cons_succ, outE, lks, lkR, rdV, neg1, evs, opt, Nat.reduceAdd, Nat.reduceMul, and_self, reduceCtorEq, List.size_toArray, List.all_cons, List.all_nil, Value.oneCell', List.set_cons_zero, List.set_cons_succ, sets, fillL, Nat.reduceLeDiff, List.drop_succ_cons, List.drop_zero, List.take_succ_cons, List.take_zero, List.toList_toArray, argsE, Array.append_empty, Array.empty_append, List.getElem?_toArray, Int.reduceLT, Int.reduceLE, Int.reduceToNat, Int.reduceEq, Nat.reduceLT, hc1, hc2, rec16 hd]
    exact ⟨.ap, by simp [flat], by simp [checkF, hc2]⟩
  simp only [↓eD0, ↓eD1, eC0, eC1, eC2, eC3, eC4, eC5, eC6, wantedE, ↓reduceIte, Nat.reduceEqDiff, Option.map_some, Option.map_none, reread, List.nil_append, List.cons_append, List.map_cons, List.map_nil, List.length_nil, List.length_cons, Value.cells, List.getElem?_cons_zero, List.getElem?_cons_succ, outE, lks, lkR, rdV, neg1, evs, opt, Nat.reduceAdd, Nat.reduceMul, and_self, reduceCtorEq, List.size_toArray, List.all_cons, List.all_nil, Value.oneCell', List.set_cons_zero, List.set_cons_succ, sets, fillL, Nat.reduceLeDiff, List.drop_succ_cons, List.drop_zero, List.take_succ_cons, List.take_zero, List.toList_toArray, argsE, Array.append_empty, Array.empty_append, List.getElem?_toArray, Int.reduceLT, Int.reduceLE, Int.reduceToNat, Int.reduceEq, Nat.reduceLT, hc1, hc2, rec16 hd, rec17 hd, rec18 hd]
  by_cases hn1 : (4096 : Int) < (L.E.length : Int)
  · simp only [↓eD0, ↓eD1, eC0, eC1, eC2, eC3, eC4, eC5, eC6, wantedE, ↓reduceIte, Nat.reduceEqDiff, Option.map_some, Option.map_none, reread, List.nil_append, List.cons_append, List.map_cons, List.map_nil, List.length_nil, List.length_cons, Value.cells, List.getElem?_cons_zero, List.getElem?_cons_succ, outE, lks, lkR, rdV, neg1, evs, opt, Nat.reduceAdd, Nat.reduceMul, and_self, reduceCtorEq, List.size_toArray, List.all_cons, List.all_nil, Value.oneCell', List.set_cons_zero, List.set_cons_succ, sets, fillL, Nat.reduceLeDiff, List.drop_succ_cons, List.drop_zero, List.take_succ_cons, List.take_zero, List.toList_toArray, argsE, Array.append_empty, Array.empty_append, List.getElem?_toArray, Int.reduceLT, Int.reduceLE, Int.reduceToNat, Int.reduceEq, Nat.reduceLT, hc1, hc2, hn1, rec16 hd, rec17 hd, rec18 hd]
    exact ⟨.ap, by simp [flat], by simp only [checkF, hc1, hc2, or_self, if_false]; rw [if_pos (by omega)]⟩
  by_cases hn2 : (256 : Int) < (L.S.length : Int)
  · simp only [↓eD0, ↓eD1, eC0, eC1, eC2, eC3, eC4, eC5, eC6, wantedE, ↓reduceIte, Nat.reduceEqDiff, Option.map_some, Option.map_none, reread, List.nil_append, List.cons_append, List.map_cons, List.map_nil, List.length_nil, List.length_cons, Value.cells, List.getElem?_cons_zero, List.getElem?_cons_succ, outE, lks, lkR, rdV, neg1, evs, opt, Nat.reduceAdd, Nat.reduceMul, and_self, reduceCtorEq, List.size_toArray, List.all_cons, List.all_nil, Value.oneCell', List.set_cons_zero, List.set_cons_succ, sets, fillL, Nat.reduceLeDiff, List.drop_succ_cons, List.drop_zero, List.take_succ_cons, List.take_zero, List.toList_toArray, argsE, Array.append_empty, Array.empty_append, List.getElem?_toArray, Int.reduceLT, Int.reduceLE, Int.reduceToNat, Int.reduceEq, Nat.reduceLT, hc1, hc2, hn1, hn2, rec16 hd, rec17 hd, rec18 hd]
    exact ⟨.ap, by simp [flat], by simp only [checkF, hc1, hc2, or_self, if_false]; rw [if_pos (by omega)]⟩
  have hck : checkF L = (if chkE L L.E.length 0 = false then 3 else if chkS L.E.length L.S 0 = false then 3 else if chkD L L.S = false then 290 else 0) := by
    simp only [checkF, hc1, hc2, or_self, if_false]; rw [if_neg (by omega)]
  simp only [↓eD0, ↓eD1, eC0, eC1, eC2, eC3, eC4, eC5, eC6, wantedE, ↓reduceIte, Nat.reduceEqDiff, Option.map_some, Option.map_none, reread, List.nil_append, List.cons_append, List.map_cons, List.map_nil, List.length_nil, List.length_cons, Value.cells, List.getElem?_cons_zero, List.getElem?_cons_succ, outE, lks, lkR, rdV, neg1, evs, opt, Nat.reduceAdd, Nat.reduceMul, and_self, reduceCtorEq, List.size_toArray, List.all_cons, List.all_nil, Value.oneCell', List.set_cons_zero, List.set_cons_succ, sets, fillL, Nat.reduceLeDiff, List.drop_succ_cons, List.drop_zero, List.take_succ_cons, List.take_zero, List.toList_toArray, argsE, Array.append_empty, Array.empty_append, List.getElem?_toArray, Int.reduceLT, Int.reduceLE, Int.reduceToNat, Int.reduceEq, Nat.reduceLT, hc1, hc2, hn1, hn2, rec16 hd, rec17 hd, rec18 hd]
  refine loop_for (J := fun i e τ => i ≤ L.E.length ∧ τ = ap σ [.cells 0 (recC L.d L.c (.slice a1 L.E.length b1) (.slice a2 L.S.length b2)) (0, 0)] ∧ e = [(1, .pointer (some ⟨σ.size, 0, none⟩)), (3, .int .i64 i)] ∧ chkE L (L.E.length - i) i = chkE L L.E.length 0) L.E.length
    ⟨by omega, rfl, rfl, rfl⟩ ?_
  rintro i e τ hi ⟨_, rfl, rfl, hE⟩
  simp only [↓eD0, ↓eD1, eC0, eC1, eC2, eC3, eC4, eC5, eC6, wantedE, ↓reduceIte, Nat.reduceEqDiff, Option.map_some, Option.map_none, reread, List.nil_append, List.cons_append, List.map_cons, List.map_nil, List.length_nil, List.length_cons, Value.cells, List.getElem?_cons_zero, List.getElem?_cons_succ, outE, lks, lkR, rdV, neg1, evs, opt, Nat.reduceAdd, Nat.reduceMul, and_self, reduceCtorEq, List.size_toArray, List.all_cons, List.all_nil, Value.oneCell', List.set_cons_zero, List.set_cons_succ, sets, fillL, Nat.reduceLeDiff, List.drop_succ_cons, List.drop_zero, List.take_succ_cons, List.take_zero, List.toList_toArray, argsE, Array.append_empty, Array.empty_append, List.getElem?_toArray, Int.reduceLT, Int.reduceLE, Int.reduceToNat, Int.reduceEq, Nat.reduceLT, rec17 hd]
  refine onI_dec (fun hlt => ?_) (fun hge => ?_)
  · have hlt : i < L.E.length := by omega
    have hx : (L.E.map entV)[i]? = some (entV L.E[i]) := by simp [hlt]
    obtain ⟨v', hsl, hpre, hpc⟩ := hv.pre hcap (i := i) (by omega)
    obtain ⟨b', off, rfl, h1⟩ := hv.at hx
    have hr : ∀ l, rdN (ap σ l) ⟨b', off + i * 5, none⟩ 5 = some (entV L.E[i]) := fun l => rdN_old h1
    have hr1 : ∀ l, rd1 (ap σ l) ⟨b', off + i * 5 + 1, none⟩ = some (.int .i64 L.E[i].cpu) := fun l => rd1_row (hr l) (j := 1) rfl
    have hr2 : ∀ l, rd1 (ap σ l) ⟨b', off + i * 5 + 2, none⟩ = some (.int .i64 L.E[i].count) := fun l => rd1_row (hr l) (j := 2) rfl
    have hb : (0:Int) ≤ (i:Int) ∧ (i:Int) < (L.E.length : Int) := by omega
    have hw' : IntKind.wrap .i64 ((i:Int) + 1) = ((i + 1 : Nat) : Int) := by rw [wrap64 (by omega) (by omega)]; omega
    simp only [↓eD0, ↓eD1, eC0, eC1, eC2, eC3, eC4, eC5, eC6, wantedE, ↓reduceIte, Nat.reduceEqDiff, Option.map_some, Option.map_none, reread, List.nil_append, List.cons_append, List.map_cons, List.map_nil, List.length_nil, List.length_cons, Value.cells, List.getElem?_cons_zero, List.getElem?_cons_succ, outE, lks, lkR, rdV, neg1, evs, opt, Nat.reduceAdd, Nat.reduceMul, and_self, reduceCtorEq, List.size_toArray, List.all_cons, List.all_nil, Value.oneCell', List.set_cons_zero, List.set_cons_succ, sets, fillL, Nat.reduceLeDiff, List.drop_succ_cons, List.drop_zero, List.take_succ_cons, List.take_zero, List.toList_toArray, argsE, Array.append_empty, Array.empty_append, List.getElem?_toArray, Int.reduceLT, Int.reduceLE, Int.reduceToNat, Int.reduceEq, Nat.reduceLT, rec16 hd, rec17 hd, hb, Int.toNat_natCast, hr, hr1, hr2]
    refine appK_of right_app ?_
    rintro _ _ ⟨e2, rfl⟩
    rw [e2]
    clear e2
    have hstep : chkE L (L.E.length - i) i = if rightF L.E[i] L.c = true ∧ L.E[i].count = countF (L.E.take i) L.E[i].cpu then chkE L (L.E.length - (i + 1)) (i + 1) else false := by
      have : L.E.length - i = (L.E.length - (i + 1)) + 1 := by omega
      rw [this, chkE, List.getElem?_eq_getElem hlt]
    by_cases hR : rightF L.E[i] L.c = true
    · simp only [↓eD0, ↓eD1, eC0, eC1, eC2, eC3, eC4, eC5, eC6, wantedE, ↓reduceIte, Nat.reduceEqDiff, Option.map_some, Option.map_none, reread, List.nil_append, List.cons_append, List.map_cons, List.map_nil, List.length_nil, List.length_cons, Value.cells, List.getElem?_cons_zero, List.getElem?_cons_succ, outE, lks, lkR, rdV, neg1, evs, opt, Nat.reduceAdd, Nat.reduceMul, and_self, reduceCtorEq, List.size_toArray, List.all_cons, List.all_nil, Value.oneCell', List.set_cons_zero, List.set_cons_succ, sets, fillL, Nat.reduceLeDiff, List.drop_succ_cons, List.drop_zero, List.take_succ_cons, List.take_zero, List.toList_toArray, argsE, Array.append_empty, Array.empty_append, List.getElem?_toArray, Int.reduceLT, Int.reduceLE, Int.reduceToNat, Int.reduceEq, Nat.reduceLT, hR, rec16 hd, rec17 hd, hb, Int.toNat_natCast, hr, hr1, hr2, hsl]
      refine appK_of (count_app (E := L.E.take i) (by rw [List.map_take]; exact hpre.Old .ap) (by simp; omega)) ?_
      rintro _ _ ⟨e2, rfl⟩
      rw [e2]
      clear e2
      by_cases hC : L.E[i].count = countF (L.E.take i) L.E[i].cpu
      · have hdec : decide (L.E[i].count = countF (L.E.take i) L.E[i].cpu) = true := by simpa using hC
        simp only [↓eD0, ↓eD1, eC0, eC1, eC2, eC3, eC4, eC5, eC6, wantedE, ↓reduceIte, Nat.reduceEqDiff, Option.map_some, Option.map_none, reread, List.nil_append, List.cons_append, List.map_cons, List.map_nil, List.length_nil, List.length_cons, Value.cells, List.getElem?_cons_zero, List.getElem?_cons_succ, outE, lks, lkR, rdV, neg1, evs, opt, Nat.reduceAdd, Nat.reduceMul, and_self, reduceCtorEq, List.size_toArray, List.all_cons, List.all_nil, Value.oneCell', List.set_cons_zero, List.set_cons_succ, sets, fillL, Nat.reduceLeDiff, List.drop_succ_cons, List.drop_zero, List.take_succ_cons, List.take_zero, List.toList_toArray, argsE, Array.append_empty, Array.empty_append, List.getElem?_toArray, Int.reduceLT, Int.reduceLE, Int.reduceToNat, Int.reduceEq, Nat.reduceLT, hR, rec16 hd, rec17 hd, hb, Int.toNat_natCast, hr, hr1, hr2, hsl, hdec, hw']
        refine ⟨hlt, by omega, ?_⟩
        rw [← hE, hstep, if_pos ⟨hR, hC⟩]
      · have hdec : decide (L.E[i].count = countF (L.E.take i) L.E[i].cpu) = false := by simpa using hC
        simp only [↓eD0, ↓eD1, eC0, eC1, eC2, eC3, eC4, eC5, eC6, wantedE, ↓reduceIte, Nat.reduceEqDiff, Option.map_some, Option.map_none, reread, List.nil_append, List.cons_append, List.map_cons, List.map_nil, List.length_nil, List.length_cons, Value.cells, List.getElem?_cons_zero, List.getElem?_cons_succ, outE, lks, lkR, rdV, neg1, evs, opt, Nat.reduceAdd, Nat.reduceMul, and_self, reduceCtorEq, List.size_toArray, List.all_cons, List.all_nil, Value.oneCell', List.set_cons_zero, List.set_cons_succ, sets, fillL, Nat.reduceLeDiff, List.drop_succ_cons, List.drop_zero, List.take_succ_cons, List.take_zero, List.toList_toArray, argsE, Array.append_empty, Array.empty_append, List.getElem?_toArray, Int.reduceLT, Int.reduceLE, Int.reduceToNat, Int.reduceEq, Nat.reduceLT, hR, rec16 hd, rec17 hd, hb, Int.toNat_natCast, hr, hr1, hr2, hsl, hdec, hw']
        refine ⟨.ap, by simp [flat], ?_⟩
        have hf : chkE L L.E.length 0 = false := by rw [← hE, hstep, if_neg (fun h => hC h.2)]
        rw [hck, hf]
        rfl
    · have hR' : rightF L.E[i] L.c = false := by simpa using hR
      simp only [↓eD0, ↓eD1, eC0, eC1, eC2, eC3, eC4, eC5, eC6, wantedE, ↓reduceIte, Nat.reduceEqDiff, Option.map_some, Option.map_none, reread, List.nil_append, List.cons_append, List.map_cons, List.map_nil, List.length_nil, List.length_cons, Value.cells, List.getElem?_cons_zero, List.getElem?_cons_succ, outE, lks, lkR, rdV, neg1, evs, opt, Nat.reduceAdd, Nat.reduceMul, and_self, reduceCtorEq, List.size_toArray, List.all_cons, List.all_nil, Value.oneCell', List.set_cons_zero, List.set_cons_succ, sets, fillL, Nat.reduceLeDiff, List.drop_succ_cons, List.drop_zero, List.take_succ_cons, List.take_zero, List.toList_toArray, argsE, Array.append_empty, Array.empty_append, List.getElem?_toArray, Int.reduceLT, Int.reduceLE, Int.reduceToNat, Int.reduceEq, Nat.reduceLT, hR', rec16 hd, rec17 hd, hb, Int.toNat_natCast, hr, hr1, hr2]
      refine ⟨.ap, by simp [flat], ?_⟩
      have hf : chkE L L.E.length 0 = false := by rw [← hE, hstep, if_neg (fun h => hR h.1)]
      rw [hck, hf]
      rfl
  · have : i = L.E.length := by omega
    subst this
    have hE' : chkE L L.E.length 0 = true := by rw [← hE, Nat.sub_self]; rfl
    have hdata := chkE_data (by omega) hE'
    rw [hE'] at hck
    simp only [↓eD0, ↓eD1, eC0, eC1, eC2, eC3, eC4, eC5, eC6, wantedE, ↓reduceIte, Nat.reduceEqDiff, Option.map_some, Option.map_none, reread, List.nil_append, List.cons_append, List.map_cons, List.map_nil, List.length_nil, List.length_cons, Value.cells, List.getElem?_cons_zero, List.getElem?_cons_succ, outE, lks, lkR, rdV, neg1, evs, opt, Nat.reduceAdd, Nat.reduceMul, and_self, reduceCtorEq, List.size_toArray, List.all_cons, List.all_nil, Value.oneCell', List.set_cons_zero, List.set_cons_succ, sets, fillL, Nat.reduceLeDiff, List.drop_succ_cons, List.drop_zero, List.take_succ_cons, List.take_zero, List.toList_toArray, argsE, Array.append_empty, Array.empty_append, List.getElem?_toArray, Int.reduceLT, Int.reduceLE, Int.reduceToNat, Int.reduceEq, Nat.reduceLT]
    refine loop_for (J := fun i e τ => i ≤ L.S.length ∧ τ = ap σ [.cells 0 (recC L.d L.c (.slice a1 L.E.length b1) (.slice a2 L.S.length b2)) (0, 0)] ∧ ∃ z, e = [(1, .pointer (some ⟨σ.size, 0, none⟩)), (5, .int .i64 z), (6, .int .i64 i)] ∧ chkS L.E.length (L.S.drop i) z = chkS L.E.length L.S 0) L.S.length
      ⟨by omega, rfl, 0, rfl, rfl⟩ ?_
    rintro i e τ hi ⟨_, rfl, z, rfl, hS⟩
    simp only [↓eD0, ↓eD1, eC0, eC1, eC2, eC3, eC4, eC5, eC6, wantedE, ↓reduceIte, Nat.reduceEqDiff, Option.map_some, Option.map_none, reread, List.nil_append, List.cons_append, List.map_cons, List.map_nil, List.length_nil, List.length_cons, Value.cells, List.getElem?_cons_zero, List.getElem?_cons_succ, outE, lks, lkR, rdV, neg1, evs, opt, Nat.reduceAdd, Nat.reduceMul, and_self, reduceCtorEq, List.size_toArray, List.all_cons, List.all_nil, Value.oneCell', List.set_cons_zero, List.set_cons_succ, sets, fillL, Nat.reduceLeDiff, List.drop_succ_cons, List.drop_zero, List.take_succ_cons, List.take_zero, List.toList_toArray, argsE, Array.append_empty, Array.empty_append, List.getElem?_toArray, Int.reduceLT, Int.reduceLE, Int.reduceToNat, Int.reduceEq, Nat.reduceLT, rec18 hd]
    refine onI_dec (fun hlt => ?_) (fun hge => ?_)
    · have hlt : i < L.S.length := by omega
      have hx : (L.S.map seaV)[i]? = some (seaV L.S[i]) := by simp [hlt]
      obtain ⟨b', off, rfl, h1⟩ := hw.at hx
      have hr : ∀ l, rdN (ap σ l) ⟨b', off + i * 33, none⟩ 33 = some (seaV L.S[i]) := fun l => rdN_old h1
      have hr1 : ∀ l, rd1 (ap σ l) ⟨b', off + i * 33, none⟩ = some (.int .i64 L.S[i].end_) := fun l => rd1_row (hr l) (j := 0) rfl
      have hb : (0:Int) ≤ (i:Int) ∧ (i:Int) < (L.S.length : Int) := by omega
      have hw' : IntKind.wrap .i64 ((i:Int) + 1) = ((i + 1 : Nat) : Int) := by rw [wrap64 (by omega) (by omega)]; omega
      have hstep : chkS L.E.length (L.S.drop i) z = if L.S[i].end_ ≤ z ∨ (L.E.length : Int) < L.S[i].end_ then false else chkS L.E.length (L.S.drop (i + 1)) L.S[i].end_ := by
        rw [List.drop_eq_getElem_cons hlt, chkS]
      have hstop : (L.S[i].end_ ≤ z ∨ (L.E.length : Int) < L.S[i].end_) → checkF L = 3 := fun h => by
        have hf : chkS L.E.length L.S 0 = false := by rw [← hS, hstep, if_pos h]
        rw [hck, hf]; rfl
      by_cases hq1 : L.S[i].end_ ≤ z
      · simp only [↓eD0, ↓eD1, eC0, eC1, eC2, eC3, eC4, eC5, eC6, wantedE, ↓reduceIte, Nat.reduceEqDiff, Option.map_some, Option.map_none, reread, List.nil_append, List.cons_append, List.map_cons, List.map_nil, List.length_nil, List.length_cons, Value.cells, List.getElem?_cons_zero, List.getElem?_cons_succ, outE, lks, lkR, rdV, neg1, evs, opt, Nat.reduceAdd, Nat.reduceMul, and_self, reduceCtorEq, List.size_toArray, List.all_cons, List.all_nil, Value.oneCell', List.set_cons_zero, List.set_cons_succ, sets, fillL, Nat.reduceLeDiff, List.drop_succ_cons, List.drop_zero, List.take_succ_cons, List.take_zero, List.toList_toArray, argsE, Array.append_empty, Array.empty_append, List.getElem?_toArray, Int.reduceLT, Int.reduceLE, Int.reduceToNat, Int.reduceEq, Nat.reduceLT, rec17 hd, rec18 hd, hb, Int.toNat_natCast, hr1, hq1]
        exact ⟨.ap, by simp [flat], by rw [hstop (.inl hq1)]⟩
      · by_cases hq2 : (L.E.length : Int) < L.S[i].end_
        · simp only [↓eD0, ↓eD1, eC0, eC1, eC2, eC3, eC4, eC5, eC6, wantedE, ↓reduceIte, Nat.reduceEqDiff, Option.map_some, Option.map_none, reread, List.nil_append, List.cons_append, List.map_cons, List.map_nil, List.length_nil, List.length_cons, Value.cells, List.getElem?_cons_zero, List.getElem?_cons_succ, outE, lks, lkR, rdV, neg1, evs, opt, Nat.reduceAdd, Nat.reduceMul, and_self, reduceCtorEq, List.size_toArray, List.all_cons, List.all_nil, Value.oneCell', List.set_cons_zero, List.set_cons_succ, sets, fillL, Nat.reduceLeDiff, List.drop_succ_cons, List.drop_zero, List.take_succ_cons, List.take_zero, List.toList_toArray, argsE, Array.append_empty, Array.empty_append, List.getElem?_toArray, Int.reduceLT, Int.reduceLE, Int.reduceToNat, Int.reduceEq, Nat.reduceLT, rec17 hd, rec18 hd, hb, Int.toNat_natCast, hr1, hq1, hq2]
          exact ⟨.ap, by simp [flat], by rw [hstop (.inr hq2)]⟩
        · simp only [↓eD0, ↓eD1, eC0, eC1, eC2, eC3, eC4, eC5, eC6, wantedE, ↓reduceIte, Nat.reduceEqDiff, Option.map_some, Option.map_none, reread, List.nil_append, List.cons_append, List.map_cons, List.map_nil, List.length_nil, List.length_cons, Value.cells, List.getElem?_cons_zero, List.getElem?_cons_succ, outE, lks, lkR, rdV, neg1, evs, opt, Nat.reduceAdd, Nat.reduceMul, and_self, reduceCtorEq, List.size_toArray, List.all_cons, List.all_nil, Value.oneCell', List.set_cons_zero, List.set_cons_succ, sets, fillL, Nat.reduceLeDiff, List.drop_succ_cons, List.drop_zero, List.take_succ_cons, List.take_zero, List.toList_toArray, argsE, Array.append_empty, Array.empty_append, List.getElem?_toArray, Int.reduceLT, Int.reduceLE, Int.reduceToNat, Int.reduceEq, Nat.reduceLT, rec17 hd, rec18 hd, hb, Int.toNat_natCast, hr1, hq1, hq2, hw']
          refine ⟨hlt, by omega, L.S[i].end_, ?_⟩
          rw [← hS, hstep, if_neg (by omega)]
          exact ⟨rfl, rfl⟩
    · have : i = L.S.length := by omega
      subst this
      have hS' : chkS L.E.length L.S 0 = true := by rw [← hS, List.drop_length]; rfl
      have hbounds := chkS_bounds (by omega) hS'
      rw [hS'] at hck
      simp only [↓eD0, ↓eD1, eC0, eC1, eC2, eC3, eC4, eC5, eC6, wantedE, ↓reduceIte, Nat.reduceEqDiff, Option.map_some, Option.map_none, reread, List.nil_append, List.cons_append, List.map_cons, List.map_nil, List.length_nil, List.length_cons, Value.cells, List.getElem?_cons_zero, List.getElem?_cons_succ, outE, lks, lkR, rdV, neg1, evs, opt, Nat.reduceAdd, Nat.reduceMul, and_self, reduceCtorEq, List.size_toArray, List.all_cons, List.all_nil, Value.oneCell', List.set_cons_zero, List.set_cons_succ, sets, fillL, Nat.reduceLeDiff, List.drop_succ_cons, List.drop_zero, List.take_succ_cons, List.take_zero, List.toList_toArray, argsE, Array.append_empty, Array.empty_append, List.getElem?_toArray, Int.reduceLT, Int.reduceLE, Int.reduceToNat, Int.reduceEq, Nat.reduceLT]
      refine loop_for (J := fun i e τ => i ≤ L.S.length ∧ τ = ap σ [.cells 0 (recC L.d L.c (.slice a1 L.E.length b1) (.slice a2 L.S.length b2)) (0, 0)] ∧ e = [(1, .pointer (some ⟨σ.size, 0, none⟩)), (7, .int .i64 i)] ∧ chkD L (L.S.drop i) = chkD L L.S) L.S.length
        ⟨by omega, rfl, rfl, rfl⟩ ?_
      rintro i e τ hi ⟨_, rfl, rfl, hD⟩
      simp only [↓eD0, ↓eD1, eC0, eC1, eC2, eC3, eC4, eC5, eC6, wantedE, ↓reduceIte, Nat.reduceEqDiff, Option.map_some, Option.map_none, reread, List.nil_append, List.cons_append, List.map_cons, List.map_nil, List.length_nil, List.length_cons, Value.cells, List.getElem?_cons_zero, List.getElem?_cons_succ, outE, lks, lkR, rdV, neg1, evs, opt, Nat.reduceAdd, Nat.reduceMul, and_self, reduceCtorEq, List.size_toArray, List.all_cons, List.all_nil, Value.oneCell', List.set_cons_zero, List.set_cons_succ, sets, fillL, Nat.reduceLeDiff, List.drop_succ_cons, List.drop_zero, List.take_succ_cons, List.take_zero, List.toList_toArray, argsE, Array.append_empty, Array.empty_append, List.getElem?_toArray, Int.reduceLT, Int.reduceLE, Int.reduceToNat, Int.reduceEq, Nat.reduceLT, rec18 hd]
      refine onI_dec (fun hlt => ?_) (fun hge => ?_)
      · have hlt : i < L.S.length := by omega
        have hx : (L.S.map seaV)[i]? = some (seaV L.S[i]) := by simp [hlt]
        obtain ⟨b', off, rfl, h1⟩ := hw.at hx
        have hr : ∀ l, rdN (ap σ l) ⟨b', off + i * 33, none⟩ 33 = some (seaV L.S[i]) := fun l => rdN_old h1
        have hr1 : ∀ l, rd1 (ap σ l) ⟨b', off + i * 33, none⟩ = some (.int .i64 L.S[i].end_) := fun l => rd1_row (hr l) (j := 0) rfl
        have hok := h.ok L.S[i] (by simp)
        have hr16 : ∀ l, rdN (ap σ l) ⟨b', off + i * 33 + 1, none⟩ 16 = some (digC L.S[i].dig) := fun l => by
          rw [rdN_sub (hr l) (a := 1) (m := 16) (by omega)]
          have : (digC L.S[i].dig).length = 16 := by rw [digC_length, hok.1]
          simp [seaV, List.take_left' this]
        have hb : (0:Int) ≤ (i:Int) ∧ (i:Int) < (L.S.length : Int) := by omega
        have hw' : IntKind.wrap .i64 ((i:Int) + 1) = ((i + 1 : Nat) : Int) := by rw [wrap64 (by omega) (by omega)]; omega
        obtain ⟨hb1, hb2⟩ := hbounds L.S[i] (by simp)
        have hn : L.S[i].end_ = ((L.S[i].end_.toNat : Nat) : Int) := by omega
        have hstep : chkD L (L.S.drop i) = if L.S[i].dig = chainF L.d L.c L.E L.S[i].end_.toNat then chkD L (L.S.drop (i + 1)) else false := by
          rw [List.drop_eq_getElem_cons hlt, chkD]
        have heq : aggEq (List.replicate 16 (.int .u8)) (digC L.S[i].dig) (digC (chainF L.d L.c L.E L.S[i].end_.toNat)) = some (decide (L.S[i].dig = chainF L.d L.c L.E L.S[i].end_.toNat)) := aggEq_dig hok.1 chainF_len
        simp only [↓eD0, ↓eD1, eC0, eC1, eC2, eC3, eC4, eC5, eC6, wantedE, ↓reduceIte, Nat.reduceEqDiff, Option.map_some, Option.map_none, reread, List.nil_append, List.cons_append, List.map_cons, List.map_nil, List.length_nil, List.length_cons, Value.cells, List.getElem?_cons_zero, List.getElem?_cons_succ, outE, lks, lkR, rdV, neg1, evs, opt, Nat.reduceAdd, Nat.reduceMul, and_self, reduceCtorEq, List.size_toArray, List.all_cons, List.all_nil, Value.oneCell', List.set_cons_zero, List.set_cons_succ, sets, fillL, Nat.reduceLeDiff, List.drop_succ_cons, List.drop_zero, List.take_succ_cons, List.take_zero, List.toList_toArray, argsE, Array.append_empty, Array.empty_append, List.getElem?_toArray, Int.reduceLT, Int.reduceLE, Int.reduceToNat, Int.reduceEq, Nat.reduceLT, rec17 hd, rec18 hd, hb, Int.toNat_natCast, hr1, hr16, rec_take hd, rec_len hd]
        rw [hn]
        refine appK_of (chain_app (h.Old .ap) (by omega) (fun e he => by
          obtain ⟨j, hj, rfl⟩ := List.getElem_of_mem he
          have := rightF_size (hdata j (by omega) hj).1
          omega) (hG.Old .ap)) ?_
        rintro _ _ ⟨e2, rfl⟩
        rw [e2, ← hn]
        clear e2
        by_cases hC : L.S[i].dig = chainF L.d L.c L.E L.S[i].end_.toNat
        · have hdec : decide (L.S[i].dig = chainF L.d L.c L.E L.S[i].end_.toNat) = true := by simpa using hC
          simp only [↓eD0, ↓eD1, eC0, eC1, eC2, eC3, eC4, eC5, eC6, wantedE, ↓reduceIte, Nat.reduceEqDiff, Option.map_some, Option.map_none, reread, List.nil_append, List.cons_append, List.map_cons, List.map_nil, List.length_nil, List.length_cons, Value.cells, List.getElem?_cons_zero, List.getElem?_cons_succ, outE, lks, lkR, rdV, neg1, evs, opt, Nat.reduceAdd, Nat.reduceMul, and_self, reduceCtorEq, List.size_toArray, List.all_cons, List.all_nil, Value.oneCell', List.set_cons_zero, List.set_cons_succ, sets, fillL, Nat.reduceLeDiff, List.drop_succ_cons, List.drop_zero, List.take_succ_cons, List.take_zero, List.toList_toArray, argsE, Array.append_empty, Array.empty_append, List.getElem?_toArray, Int.reduceLT, Int.reduceLE, Int.reduceToNat, Int.reduceEq, Nat.reduceLT, rec17 hd, rec18 hd, hb, Int.toNat_natCast, hr1, hr16, rec_take hd, rec_len hd, heq, hdec, hw']
          refine ⟨hlt, by omega, ?_⟩
          rw [← hD, hstep, if_pos hC]
        · have hdec : decide (L.S[i].dig = chainF L.d L.c L.E L.S[i].end_.toNat) = false := by simpa using hC
          simp only [↓eD0, ↓eD1, eC0, eC1, eC2, eC3, eC4, eC5, eC6, wantedE, ↓reduceIte, Nat.reduceEqDiff, Option.map_some, Option.map_none, reread, List.nil_append, List.cons_append, List.map_cons, List.map_nil, List.length_nil, List.length_cons, Value.cells, List.getElem?_cons_zero, List.getElem?_cons_succ, outE, lks, lkR, rdV, neg1, evs, opt, Nat.reduceAdd, Nat.reduceMul, and_self, reduceCtorEq, List.size_toArray, List.all_cons, List.all_nil, Value.oneCell', List.set_cons_zero, List.set_cons_succ, sets, fillL, Nat.reduceLeDiff, List.drop_succ_cons, List.drop_zero, List.take_succ_cons, List.take_zero, List.toList_toArray, argsE, Array.append_empty, Array.empty_append, List.getElem?_toArray, Int.reduceLT, Int.reduceLE, Int.reduceToNat, Int.reduceEq, Nat.reduceLT, rec17 hd, rec18 hd, hb, Int.toNat_natCast, hr1, hr16, rec_take hd, rec_len hd, heq, hdec, hw']
          refine ⟨.ap, by simp [flat], ?_⟩
          have hf : chkD L L.S = false := by rw [← hD, hstep, if_neg hC]
          rw [hck, hf]
          rfl
      · have : i = L.S.length := by omega
        subst this
        have hD' : chkD L L.S = true := by rw [← hD, List.drop_length]; rfl
        simp only [↓eD0, ↓eD1, eC0, eC1, eC2, eC3, eC4, eC5, eC6, wantedE, ↓reduceIte, Nat.reduceEqDiff, Option.map_some, Option.map_none, reread, List.nil_append, List.cons_append, List.map_cons, List.map_nil, List.length_nil, List.length_cons, Value.cells, List.getElem?_cons_zero, List.getElem?_cons_succ, outE, lks, lkR, rdV, neg1, evs, opt, Nat.reduceAdd, Nat.reduceMul, and_self, reduceCtorEq, List.size_toArray, List.all_cons, List.all_nil, Value.oneCell', List.set_cons_zero, List.set_cons_succ, sets, fillL, Nat.reduceLeDiff, List.drop_succ_cons, List.drop_zero, List.take_succ_cons, List.take_zero, List.toList_toArray, argsE, Array.append_empty, Array.empty_append, List.getElem?_toArray, Int.reduceLT, Int.reduceLE, Int.reduceToNat, Int.reduceEq, Nat.reduceLT]
        refine ⟨.ap, by simp [flat], ?_⟩
        rw [hck, hD']
        rfl
end Go.Proofs.YtljmjkpmkpchoaaDoor

set_option linter.unusedSimpArgs false
set_option maxRecDepth 10000
set_option maxHeartbeats 4000000
namespace Go.Proofs.YtljmjkpmkpchoaaDoor
open Go Go.Cn Go.RowKit

/-- A log of any size. -/
def RawLg (σ : H) (l : List Value) (L : Lg) : Prop :=
  L.d.length = 16 ∧ (∀ s ∈ L.S, s.ok) ∧ ∃ a b a' b', l = recC L.d L.c (.slice a L.E.length b) (.slice a' L.S.length b') ∧ Row σ 5 (.slice a L.E.length b) (L.E.map entV) ∧ Row σ 33 (.slice a' L.S.length b') (L.S.map seaV) ∧ CapOk 5 (.slice a L.E.length b)

theorem RawLg.lg {σ : H} {l : List Value} {L : Lg} (h : RawLg σ l L) (h1 : L.E.length < 2000000000000) (h2 : L.S.length < 2000000000000) : IsLg σ l L := by
  obtain ⟨hd, hok, a, b, a', b', rfl, hv, hw, hc⟩ := h
  exact IsLg.mk' hd hv hw hok h1 h2 hc

def fewF (L : Lg) : Bool := decide (L.E.length ≤ 60) && (decide (L.S.length ≤ 60) && decide (checkF L = 0))

theorem few_app {σ : H} {l : List Value} {L : Lg} (h : RawLg σ l L) (hG : Glob σ) :
    App Tryd.prog (.func 8) #[] #[.agg l.toArray] σ fun v σ' => σ' = σ ∧ v = .bool (fewF L) := by
  refine App.forget (App.of_sem mixed Tryd.func8 t8 k8 r8 (Nat.le_of_ble_eq_true rfl) ?_)
  have hlg := h.lg
  obtain ⟨hd, hok, a1, b1, a2, b2, rfl, hv, hw, hcap⟩ := h
  unfold s8
  have e0 : ap σ [] = σ := ap_nil
  rw [← e0]
  simp only [↓eD0, ↓eD1, eC0, eC1, eC2, eC3, eC4, eC5, eC6, wantedE, ↓reduceIte, Nat.reduceEqDiff, Option.map_some, Option.map_none, reread, List.nil_append, List.cons_append, List.map_cons, List.map_nil, List.length_nil, List.length_cons, Value.cells, List.getElem?_cons_zero, List.getElem?_cons_succ, outE, lks, lkR, rdV, neg1, evs, opt, Nat.reduceAdd, Nat.reduceMul, and_self, reduceCtorEq, List.size_toArray, List.all_cons, List.all_nil, Value.oneCell', List.set_cons_zero, List.set_cons_succ, sets, fillL, Nat.reduceLeDiff, List.drop_succ_cons, List.drop_zero, List.take_succ_cons, List.take_zero, List.toList_toArray, argsE, Array.append_empty, Array.empty_append, List.getElem?_toArray, Int.reduceLT, Int.reduceLE, Int.reduceToNat, Int.reduceEq, Nat.reduceLT, rec17 hd]
  by_cases hn1 : (60 : Int) < (L.E.length : Int)
  · simp only [↓eD0, ↓eD1, eC0, eC1, eC2, eC3, eC4, eC5, eC6, wantedE, ↓reduceIte, Nat.reduceEqDiff, Option.map_some, Option.map_none, reread, List.nil_append, List.cons_append, List.map_cons, List.map_nil, List.length_nil, List.length_cons, Value.cells, List.getElem?_cons_zero, List.getElem?_cons_succ, outE, lks, lkR, rdV, neg1, evs, opt, Nat.reduceAdd, Nat.reduceMul, and_self, reduceCtorEq, List.size_toArray, List.all_cons, List.all_nil, Value.oneCell', List.set_cons_zero, List.set_cons_succ, sets, fillL, Nat.reduceLeDiff, List.drop_succ_cons, List.drop_zero, List.take_succ_cons, List.take_zero, List.toList_toArray, argsE, Array.append_empty, Array.empty_append, List.getElem?_toArray, Int.reduceLT, Int.reduceLE, Int.reduceToNat, Int.reduceEq, Nat.reduceLT, hn1, rec17 hd]
    exact ⟨.ap, by simp [flat], by rw [fewF, decide_eq_false (by omega)]; rfl⟩
  by_cases hn2 : (60 : Int) < (L.S.length : Int)
  · simp only [↓eD0, ↓eD1, eC0, eC1, eC2, eC3, eC4, eC5, eC6, wantedE, ↓reduceIte, Nat.reduceEqDiff, Option.map_some, Option.map_none, reread, List.nil_append, List.cons_append, List.map_cons, List.map_nil, List.length_nil, List.length_cons, Value.cells, List.getElem?_cons_zero, List.getElem?_cons_succ, outE, lks, lkR, rdV, neg1, evs, opt, Nat.reduceAdd, Nat.reduceMul, and_self, reduceCtorEq, List.size_toArray, List.all_cons, List.all_nil, Value.oneCell', List.set_cons_zero, List.set_cons_succ, sets, fillL, Nat.reduceLeDiff, List.drop_succ_cons, List.drop_zero, List.take_succ_cons, List.take_zero, List.toList_toArray, argsE, Array.append_empty, Array.empty_append, List.getElem?_toArray, Int.reduceLT, Int.reduceLE, Int.reduceToNat, Int.reduceEq, Nat.reduceLT, hn1, hn2, rec17 hd, rec18 hd]
    exact ⟨.ap, by simp [flat], by rw [fewF, decide_eq_false (p := L.S.length ≤ 60) (by omega)]; simp⟩
  simp only [↓eD0, ↓eD1, eC0, eC1, eC2, eC3, eC4, eC5, eC6, wantedE, ↓reduceIte, Nat.reduceEqDiff, Option.map_some, Option.map_none, reread, List.nil_append, List.cons_append, List.map_cons, List.map_nil, List.length_nil, List.length_cons, Value.cells, List.getElem?_cons_zero, List.getElem?_cons_succ, outE, lks, lkR, rdV, neg1, evs, opt, Nat.reduceAdd, Nat.reduceMul, and_self, reduceCtorEq, List.size_toArray, List.all_cons, List.all_nil, Value.oneCell', List.set_cons_zero, List.set_cons_succ, sets, fillL, Nat.reduceLeDiff, List.drop_succ_cons, List.drop_zero, List.take_succ_cons, List.take_zero, List.toList_toArray, argsE, Array.append_empty, Array.empty_append, List.getElem?_toArray, Int.reduceLT, Int.reduceLE, Int.reduceToNat, Int.reduceEq, Nat.reduceLT, hn1, hn2, rec17 hd, rec18 hd, rec_len hd, rec_take hd]
  refine appK_of (check_app ((hlg (by omega) (by omega)).Old .ap) (hG.Old .ap)) ?_
  rintro _ _ ⟨e2, rfl⟩
  rw [e2]
  clear e2
  simp only [↓eD0, ↓eD1, eC0, eC1, eC2, eC3, eC4, eC5, eC6, wantedE, ↓reduceIte, Nat.reduceEqDiff, Option.map_some, Option.map_none, reread, List.nil_append, List.cons_append, List.map_cons, List.map_nil, List.length_nil, List.length_cons, Value.cells, List.getElem?_cons_zero, List.getElem?_cons_succ, outE, lks, lkR, rdV, neg1, evs, opt, Nat.reduceAdd, Nat.reduceMul, and_self, reduceCtorEq, List.size_toArray, List.all_cons, List.all_nil, Value.oneCell', List.set_cons_zero, List.set_cons_succ, sets, fillL, Nat.reduceLeDiff, List.drop_succ_cons, List.drop_zero, List.take_succ_cons, List.take_zero, List.toList_toArray, argsE, Array.append_empty, Array.empty_append, List.getElem?_toArray, Int.reduceLT, Int.reduceLE, Int.reduceToNat, Int.reduceEq, Nat.reduceLT]
  exact ⟨.ap, by simp [flat], by rw [fewF, decide_eq_true (p := L.E.length ≤ 60) (by omega), decide_eq_true (p := L.S.length ≤ 60) (by omega)]; simp⟩

/-- What few means. -/
theorem few_of {L : Lg} (h : fewF L = true) : L.E.length ≤ 60 ∧ L.S.length ≤ 60 ∧ (∀ j, ∀ hj : j < L.E.length, rightF L.E[j] L.c = true ∧ L.E[j].count = countF (L.E.take j) L.E[j].cpu) ∧ checkF L = 0 := by
  simp only [fewF, Bool.and_eq_true, decide_eq_true_eq] at h
  obtain ⟨h1, h2, h3⟩ := h
  refine ⟨h1, h2, ?_, h3⟩
  unfold checkF at h3
  split at h3
  · cases h3
  split at h3
  · cases h3
  split at h3
  · cases h3
  rename_i hE
  exact fun j hj => chkE_data (f := L.E.length) (k := 0) (by omega) (by simpa using hE) j (by omega) hj

theorem right_sized {e : Ent} {c : Int} (h : rightF e c = true) : e.kind = 1 → 1 ≤ e.n ∧ e.n ≤ 1099511627776 := by
  unfold rightF at h
  intro hk
  grind

theorem few_sized {L : Lg} (h : fewF L = true) : Sized L.E := by
  obtain ⟨_, _, h3, _⟩ := few_of h
  intro e he
  obtain ⟨j, hj, rfl⟩ := List.getElem_of_mem he
  exact right_sized (h3 j hj).1
end Go.Proofs.YtljmjkpmkpchoaaDoor

set_option linter.unusedSimpArgs false
set_option maxRecDepth 10000
set_option maxHeartbeats 4000000
namespace Go.Proofs.YtljmjkpmkpchoaaDoor
open Go Go.Cn Go.RowKit

theorem sea_eq {s : Sea} (h : s.ok) : aggEq [(.int .i64), (.int .u8), (.int .u8), (.int .u8), (.int .u8), (.int .u8), (.int .u8), (.int .u8), (.int .u8), (.int .u8), (.int .u8), (.int .u8), (.int .u8), (.int .u8), (.int .u8), (.int .u8), (.int .u8), (.int .u8), (.int .u8), (.int .u8), (.int .u8), (.int .u8), (.int .u8), (.int .u8), (.int .u8), (.int .u8), (.int .u8), (.int .u8), (.int .u8), (.int .u8), (.int .u8), (.int .u8), (.int .u8)] (seaV s) (seaV s) = some true := by
  have h1 : (s.dig ++ s.seal_).length = 32 := by rw [List.length_append, h.1, h.2]
  have h2 := aggEq_dig h1 h1
  have h3 : aggEq (.int .i64 :: List.replicate 32 (.int .u8)) (seaV s) (seaV s) = some true := by
    rw [seaV, ← digC_app]
    simp only [aggEq, Leaf.fits, leafEq, h2, decide_true, and_self, ↓reduceIte, Bool.and_self]
  exact h3

theorem equal_app {σ : H} {la lb : List Value} {L : Lg} (ha : IsLg σ la L) (hb : IsLg σ lb L) :
    App Tryd.prog (.func 16) #[] #[.agg la.toArray, .agg lb.toArray] σ fun v σ' => σ' = σ ∧ v = .bool true := by
  refine App.forget (App.of_sem mixed Tryd.func16 t16 k16 r16 (Nat.le_of_ble_eq_true rfl) ?_)
  obtain ⟨a1, b1, a2, b2, rfl, hv, hw, _⟩ := ha.recs
  obtain ⟨c1, d1, c2, d2, rfl, hv', hw', _⟩ := hb.recs
  have hd := ha.log.d16
  have hok := ha.ok
  have hfe := ha.fewE
  have hfs := ha.fewS
  have heq : aggEq (List.replicate 16 (.int .u8)) (digC L.d) (digC L.d) = some true := by rw [aggEq_dig hd hd]; simp
  unfold s16
  have e0 : ap σ [] = σ := ap_nil
  rw [← e0]
  simp only [↓eD0, ↓eD1, eC0, eC1, eC2, eC3, eC4, eC5, eC6, wantedE, ↓reduceIte, Nat.reduceEqDiff, Option.map_some, Option.map_none, reread, List.nil_append, List.cons_append, List.map_cons, List.map_nil, List.length_nil, List.length_cons, Value.cells, List.getElem?_cons_zero, List.getElem?_cons_succ, outE, lks, lkR, rdV, neg1, evs, opt, Nat.reduceAdd, Nat.reduceMul, and_self, reduceCtorEq, List.size_toArray, List.all_cons, List.all_nil, Value.oneCell', List.set_cons_zero, List.set_cons_succ, sets, fillL, Nat.reduceLeDiff, List.drop_succ_cons, List.drop_zero, List.take_succ_cons, List.take_zero, List.toList_toArray, argsE, Array.append_empty, Array.empty_append, List.getElem?_toArray, Int.reduceLT, Int.reduceLE, Int.reduceToNat, Int.reduceEq, Nat.reduceLT, rec16 hd, rec17 hd, rec18 hd, rec_take16 hd, rec_len hd, heq]
  refine loop_for (J := fun i e τ => i ≤ L.E.length ∧ τ = ap σ [.cells 0 (recC L.d L.c (.slice a1 L.E.length b1) (.slice a2 L.S.length b2)) (0, 0), .cells 0 (recC L.d L.c (.slice c1 L.E.length d1) (.slice c2 L.S.length d2)) (0, 0)] ∧ e = [(2, .pointer (some ⟨σ.size, 0, none⟩)), (3, .pointer (some ⟨σ.size + 1, 0, none⟩)), (5, .int .i64 i)]) L.E.length
    ⟨by omega, rfl, rfl⟩ ?_
  rintro i e τ hi ⟨_, rfl, rfl⟩
  simp only [↓eD0, ↓eD1, eC0, eC1, eC2, eC3, eC4, eC5, eC6, wantedE, ↓reduceIte, Nat.reduceEqDiff, Option.map_some, Option.map_none, reread, List.nil_append, List.cons_append, List.map_cons, List.map_nil, List.length_nil, List.length_cons, Value.cells, List.getElem?_cons_zero, List.getElem?_cons_succ, outE, lks, lkR, rdV, neg1, evs, opt, Nat.reduceAdd, Nat.reduceMul, and_self, reduceCtorEq, List.size_toArray, List.all_cons, List.all_nil, Value.oneCell', List.set_cons_zero, List.set_cons_succ, sets, fillL, Nat.reduceLeDiff, List.drop_succ_cons, List.drop_zero, List.take_succ_cons, List.take_zero, List.toList_toArray, argsE, Array.append_empty, Array.empty_append, List.getElem?_toArray, Int.reduceLT, Int.reduceLE, Int.reduceToNat, Int.reduceEq, Nat.reduceLT, rec17 hd]
  refine onI_dec (fun hlt => ?_) (fun hge => ?_)
  · have hlt : i < L.E.length := by omega
    have hx : (L.E.map entV)[i]? = some (entV L.E[i]) := by simp [hlt]
    obtain ⟨b', off, rfl, h1⟩ := hv.at hx
    obtain ⟨c', off', rfl, h2⟩ := hv'.at hx
    have hr : ∀ l, rdN (ap σ l) ⟨b', off + i * 5, none⟩ 5 = some (entV L.E[i]) := fun l => rdN_old h1
    have hr' : ∀ l, rdN (ap σ l) ⟨c', off' + i * 5, none⟩ 5 = some (entV L.E[i]) := fun l => rdN_old h2
    have hb : (0:Int) ≤ (i:Int) ∧ (i:Int) < (L.E.length : Int) := by omega
    have hw' : IntKind.wrap .i64 ((i:Int) + 1) = ((i + 1 : Nat) : Int) := by rw [wrap64 (by omega) (by omega)]; omega
    simp only [↓eD0, ↓eD1, eC0, eC1, eC2, eC3, eC4, eC5, eC6, wantedE, ↓reduceIte, Nat.reduceEqDiff, Option.map_some, Option.map_none, reread, List.nil_append, List.cons_append, List.map_cons, List.map_nil, List.length_nil, List.length_cons, Value.cells, List.getElem?_cons_zero, List.getElem?_cons_succ, outE, lks, lkR, rdV, neg1, evs, opt, Nat.reduceAdd, Nat.reduceMul, and_self, reduceCtorEq, List.size_toArray, List.all_cons, List.all_nil, Value.oneCell', List.set_cons_zero, List.set_cons_succ, sets, fillL, Nat.reduceLeDiff, List.drop_succ_cons, List.drop_zero, List.take_succ_cons, List.take_zero, List.toList_toArray, argsE, Array.append_empty, Array.empty_append, List.getElem?_toArray, Int.reduceLT, Int.reduceLE, Int.reduceToNat, Int.reduceEq, Nat.reduceLT, rec17 hd, hb, Int.toNat_natCast, hr, hr', entV, ent_eq, hw']
    exact ⟨hlt, by omega⟩
  · have : i = L.E.length := by omega
    subst this
    simp only [↓eD0, ↓eD1, eC0, eC1, eC2, eC3, eC4, eC5, eC6, wantedE, ↓reduceIte, Nat.reduceEqDiff, Option.map_some, Option.map_none, reread, List.nil_append, List.cons_append, List.map_cons, List.map_nil, List.length_nil, List.length_cons, Value.cells, List.getElem?_cons_zero, List.getElem?_cons_succ, outE, lks, lkR, rdV, neg1, evs, opt, Nat.reduceAdd, Nat.reduceMul, and_self, reduceCtorEq, List.size_toArray, List.all_cons, List.all_nil, Value.oneCell', List.set_cons_zero, List.set_cons_succ, sets, fillL, Nat.reduceLeDiff, List.drop_succ_cons, List.drop_zero, List.take_succ_cons, List.take_zero, List.toList_toArray, argsE, Array.append_empty, Array.empty_append, List.getElem?_toArray, Int.reduceLT, Int.reduceLE, Int.reduceToNat, Int.reduceEq, Nat.reduceLT]
    refine loop_for (J := fun i e τ => i ≤ L.S.length ∧ τ = ap σ [.cells 0 (recC L.d L.c (.slice a1 L.E.length b1) (.slice a2 L.S.length b2)) (0, 0), .cells 0 (recC L.d L.c (.slice c1 L.E.length d1) (.slice c2 L.S.length d2)) (0, 0)] ∧ e = [(2, .pointer (some ⟨σ.size, 0, none⟩)), (3, .pointer (some ⟨σ.size + 1, 0, none⟩)), (6, .int .i64 i)]) L.S.length
      ⟨by omega, rfl, rfl⟩ ?_
    rintro i e τ hi ⟨_, rfl, rfl⟩
    simp only [↓eD0, ↓eD1, eC0, eC1, eC2, eC3, eC4, eC5, eC6, wantedE, ↓reduceIte, Nat.reduceEqDiff, Option.map_some, Option.map_none, reread, List.nil_append, List.cons_append, List.map_cons, List.map_nil, List.length_nil, List.length_cons, Value.cells, List.getElem?_cons_zero, List.getElem?_cons_succ, outE, lks, lkR, rdV, neg1, evs, opt, Nat.reduceAdd, Nat.reduceMul, and_self, reduceCtorEq, List.size_toArray, List.all_cons, List.all_nil, Value.oneCell', List.set_cons_zero, List.set_cons_succ, sets, fillL, Nat.reduceLeDiff, List.drop_succ_cons, List.drop_zero, List.take_succ_cons, List.take_zero, List.toList_toArray, argsE, Array.append_empty, Array.empty_append, List.getElem?_toArray, Int.reduceLT, Int.reduceLE, Int.reduceToNat, Int.reduceEq, Nat.reduceLT, rec18 hd]
    refine onI_dec (fun hlt => ?_) (fun hge => ?_)
    · have hlt : i < L.S.length := by omega
      have hx : (L.S.map seaV)[i]? = some (seaV L.S[i]) := by simp [hlt]
      obtain ⟨b', off, rfl, h1⟩ := hw.at hx
      obtain ⟨c', off', rfl, h2⟩ := hw'.at hx
      have hr : ∀ l, rdN (ap σ l) ⟨b', off + i * 33, none⟩ 33 = some (seaV L.S[i]) := fun l => rdN_old h1
      have hr' : ∀ l, rdN (ap σ l) ⟨c', off' + i * 33, none⟩ 33 = some (seaV L.S[i]) := fun l => rdN_old h2
      have hb : (0:Int) ≤ (i:Int) ∧ (i:Int) < (L.S.length : Int) := by omega
      have hwr : IntKind.wrap .i64 ((i:Int) + 1) = ((i + 1 : Nat) : Int) := by rw [wrap64 (by omega) (by omega)]; omega
      have hse := sea_eq (hok L.S[i] (by simp))
      simp only [↓eD0, ↓eD1, eC0, eC1, eC2, eC3, eC4, eC5, eC6, wantedE, ↓reduceIte, Nat.reduceEqDiff, Option.map_some, Option.map_none, reread, List.nil_append, List.cons_append, List.map_cons, List.map_nil, List.length_nil, List.length_cons, Value.cells, List.getElem?_cons_zero, List.getElem?_cons_succ, outE, lks, lkR, rdV, neg1, evs, opt, Nat.reduceAdd, Nat.reduceMul, and_self, reduceCtorEq, List.size_toArray, List.all_cons, List.all_nil, Value.oneCell', List.set_cons_zero, List.set_cons_succ, sets, fillL, Nat.reduceLeDiff, List.drop_succ_cons, List.drop_zero, List.take_succ_cons, List.take_zero, List.toList_toArray, argsE, Array.append_empty, Array.empty_append, List.getElem?_toArray, Int.reduceLT, Int.reduceLE, Int.reduceToNat, Int.reduceEq, Nat.reduceLT, rec18 hd, hb, Int.toNat_natCast, hr, hr', hse, hwr]
      exact ⟨hlt, by omega⟩
    · have : i = L.S.length := by omega
      subst this
      simp only [↓eD0, ↓eD1, eC0, eC1, eC2, eC3, eC4, eC5, eC6, wantedE, ↓reduceIte, Nat.reduceEqDiff, Option.map_some, Option.map_none, reread, List.nil_append, List.cons_append, List.map_cons, List.map_nil, List.length_nil, List.length_cons, Value.cells, List.getElem?_cons_zero, List.getElem?_cons_succ, outE, lks, lkR, rdV, neg1, evs, opt, Nat.reduceAdd, Nat.reduceMul, and_self, reduceCtorEq, List.size_toArray, List.all_cons, List.all_nil, Value.oneCell', List.set_cons_zero, List.set_cons_succ, sets, fillL, Nat.reduceLeDiff, List.drop_succ_cons, List.drop_zero, List.take_succ_cons, List.take_zero, List.toList_toArray, argsE, Array.append_empty, Array.empty_append, List.getElem?_toArray, Int.reduceLT, Int.reduceLE, Int.reduceToNat, Int.reduceEq, Nat.reduceLT]
      exact ⟨.ap, by simp [flat]⟩
end Go.Proofs.YtljmjkpmkpchoaaDoor

set_option linter.unusedSimpArgs false
set_option maxRecDepth 10000
set_option maxHeartbeats 4000000
namespace Go.Proofs.YtljmjkpmkpchoaaDoor
open Go Go.Cn Go.RowKit

def ofS (st : Int × List Ent) (x : Int) : Int × List Ent :=
  if 0 < x then (IntKind.wrap .i64 (st.1 + x), st.2 ++ [⟨1, 0, st.1, x, ⟨#[]⟩⟩])
  else (st.1, st.2 ++ [⟨3, 0, st.1, 0, ⟨#[UInt8.ofNat (IntKind.wrap .u8 (IntKind.wrap .i64 (0 - x))).toNat]⟩⟩])
def ofL (l : List Int) : Int × List Ent := l.foldl ofS (0, [])
theorem ofL_succ {l : List Int} {i : Nat} (h : i < l.length) : ofL (l.take (i + 1)) = ofS (ofL (l.take i)) l[i] := by
  unfold ofL
  rw [List.take_succ_eq_append_getElem h, List.foldl_append]; rfl
theorem ofS_len {st : Int × List Ent} {x : Int} : (ofS st x).2.length = st.2.length + 1 := by unfold ofS; split <;> simp
theorem ofL_len {l : List Int} {i : Nat} (hi : i ≤ l.length) : (ofL (l.take i)).2.length = i := by
  induction i with
  | zero => rfl
  | succ i ih => rw [ofL_succ (by omega), ofS_len, ih (by omega)]
def logOf (l : List Int) : Lg := ⟨List.replicate 16 0, 1, (ofL l).2, []⟩

theorem of_ints_app {σ : H} {sl : Value} {l : List Int} (hr : Whl σ 1 sl l.length (i64C l)) (hl : l.length < 100000) :
    App Tryd.prog (.func 22) #[] #[sl] σ fun v σ' => Old σ σ' ∧ ∃ lc, v = .agg lc.toArray ∧ IsLg σ' lc (logOf l) ∧ ∀ sl c, lc[17]? = some sl → baseOf sl = some c → σ.size ≤ c := by
  refine App.of_sem mixed Tryd.func22 t22 k22 r22 (Nat.le_of_ble_eq_true rfl) ?_
  obtain ⟨base, cp, rfl⟩ := hr.slice
  have hd : (List.replicate 16 (0:Int)).length = 16 := rfl
  unfold s22
  have e0 : ap σ [] = σ := ap_nil
  rw [← e0]
  simp only [↓eD0, ↓eD1, eC0, eC1, eC2, eC3, eC4, eC5, eC6, wantedE, ↓reduceIte, Nat.reduceEqDiff, Option.map_some, Option.map_none, reread, List.nil_append, List.cons_append, List.map_cons, List.map_nil, List.length_nil, List.length_cons, Value.cells, List.getElem?_cons_zero, List.getElem?_cons_succ, outE, lks, lkR, rdV, neg1, evs, opt, Nat.reduceAdd, Nat.reduceMul, and_self, reduceCtorEq, List.size_toArray, List.all_cons, List.all_nil, Value.oneCell', List.set_cons_zero, List.set_cons_succ, sets, fillL, Nat.reduceLeDiff, List.drop_succ_cons, List.drop_zero, List.take_succ_cons, List.take_zero, List.toList_toArray, argsE, Array.append_empty, Array.empty_append, List.getElem?_toArray, Int.reduceLT, Int.reduceLE, Int.reduceToNat, Int.reduceEq, Nat.reduceLT]
  refine loop_for (J := fun i e τ => i ≤ l.length ∧ ∃ v ver, e = [(0, .slice base l.length cp), (2, .pointer (some ⟨σ.size, 0, none⟩)), (3, .pointer (some ⟨σ.size + 1, 0, none⟩)), (4, .int .i64 (ofL (l.take i)).1), (5, .int .i64 i)] ∧ Old σ τ ∧ σ.size + 2 ≤ τ.size ∧
      τ[σ.size]? = some (.cells 0 zeroL (0, 0)) ∧ τ[σ.size + 1]? = some (.cells ver (recC (List.replicate 16 0) 1 v (.slice none 0 0)) (0, 0)) ∧
      Grown (sized (σ.size + 2)) τ 5 v ((ofL (l.take i)).2.map entV).flatten (ofL (l.take i)).2.length) l.length
    ⟨by omega, _, 1, rfl, .ap, by simp [ap_size], ap_new0, ap_new, .nil⟩ ?_
  rintro i e τ hi ⟨_, v, ver, rfl, ho, hsz, hb2, hb3, hg⟩
  have e1 : ap τ [] = τ := ap_nil
  have hb2' : ∀ L, (ap τ L)[σ.size]? = some _ := fun L => (ap_old (b := σ.size) (by omega)).trans hb2
  have hb3' : ∀ L, (ap τ L)[σ.size + 1]? = some _ := fun L => (ap_old (b := σ.size + 1) (by omega)).trans hb3
  have t17 : ∀ L, rd1 (ap τ L) ⟨σ.size + 1, 17, none⟩ = some v := fun L => by rw [rd1_eq, hb3', rdc1_cells, rec17 hd]
  rw [← e1]
  simp only [↓eD0, ↓eD1, eC0, eC1, eC2, eC3, eC4, eC5, eC6, wantedE, ↓reduceIte, Nat.reduceEqDiff, Option.map_some, Option.map_none, reread, List.nil_append, List.cons_append, List.map_cons, List.map_nil, List.length_nil, List.length_cons, Value.cells, List.getElem?_cons_zero, List.getElem?_cons_succ, outE, lks, lkR, rdV, neg1, evs, opt, Nat.reduceAdd, Nat.reduceMul, and_self, reduceCtorEq, List.size_toArray, List.all_cons, List.all_nil, Value.oneCell', List.set_cons_zero, List.set_cons_succ, sets, fillL, Nat.reduceLeDiff, List.drop_succ_cons, List.drop_zero, List.take_succ_cons, List.take_zero, List.toList_toArray, argsE, Array.append_empty, Array.empty_append, List.getElem?_toArray, Int.reduceLT, Int.reduceLE, Int.reduceToNat, Int.reduceEq, Nat.reduceLT]
  refine onI_dec (fun hlt => ?_) (fun hge => ?_)
  · have hlt : i < l.length := by omega
    obtain ⟨b, off, rfl, h1⟩ := hr.at (by omega)
    have hrd : ∀ L, rd1 (ap τ L) ⟨b, off + i, none⟩ = some (.int .i64 l[i]) := fun L => rd1_Old (ho.trans .ap) (rd1_row h1 (by simp [i64C, hlt]))
    have hb : (0:Int) ≤ (i:Int) ∧ (i:Int) < (l.length : Int) := by omega
    have hw : IntKind.wrap .i64 ((i:Int) + 1) = ((i + 1 : Nat) : Int) := by rw [wrap64 (by omega) (by omega)]; omega
    have hlen := ofL_len (l := l) (i := i) (by omega)
    have hs := ofL_succ hlt
    by_cases hx : 0 < l[i]
    · have hs1 : (ofL (l.take (i + 1))).1 = IntKind.wrap .i64 ((ofL (l.take i)).1 + l[i]) := by rw [hs, ofS, if_pos hx]
      have hs2 : (ofL (l.take (i + 1))).2 = (ofL (l.take i)).2 ++ [⟨1, 0, (ofL (l.take i)).1, l[i], ⟨#[]⟩⟩] := by rw [hs, ofS, if_pos hx]
      simp only [↓eD0, ↓eD1, eC0, eC1, eC2, eC3, eC4, eC5, eC6, wantedE, ↓reduceIte, Nat.reduceEqDiff, Option.map_some, Option.map_none, reread, List.nil_append, List.cons_append, List.map_cons, List.map_nil, List.length_nil, List.length_cons, Value.cells, List.getElem?_cons_zero, List.getElem?_cons_succ, outE, lks, lkR, rdV, neg1, evs, opt, Nat.reduceAdd, Nat.reduceMul, and_self, reduceCtorEq, List.size_toArray, List.all_cons, List.all_nil, Value.oneCell', List.set_cons_zero, List.set_cons_succ, sets, fillL, Nat.reduceLeDiff, List.drop_succ_cons, List.drop_zero, List.take_succ_cons, List.take_zero, List.toList_toArray, argsE, Array.append_empty, Array.empty_append, List.getElem?_toArray, Int.reduceLT, Int.reduceLE, Int.reduceToNat, Int.reduceEq, Nat.reduceLT, hb, Int.toNat_natCast, hrd, hx, t17]
      obtain ⟨v', τ', ha, hA⟩ := append_grown (σ := ap τ [.cells 0 (entV ⟨1, 0, (ofL (l.take i)).1, l[i], ⟨#[]⟩⟩) (0, 0)]) (xa := .slice (some ⟨τ.size, 0, none⟩) 1 1) (bytes := 48) (m := 1) (new := entV ⟨1, 0, (ofL (l.take i)).1, l[i], ⟨#[]⟩⟩) (hg.old .ap) (by omega) (by rw [sized_size, ap_size]; omega) (by
        show (rdN (ap τ _) ⟨τ.size, 0, none⟩ (1 * 5)).map (1, ·) = _
        simp only [rdN_ap0, List.getElem?_cons_zero, List.getElem?_cons_succ, rdcN_cells]
        rfl) rfl rfl (by omega) (by omega)
      refine onV_of ha ?_
      have hb2t := hA.low (hg.old .ap) (by rw [sized_size]; omega) (hb2' _)
      have hb3t := hA.low (hg.old .ap) (by rw [sized_size]; omega) (hb3' _)
      have hot := hA.Old' (hg.old .ap) (by rw [sized_size]; omega) (ho.trans .ap)
      have hst := hA.size
      obtain ⟨a', c', rfl⟩ := hA.grown.slice
      have hrd' : rd1 (τ'.setIfInBounds (σ.size + 1) (.cells (ver + 1) (recC (List.replicate 16 0) 1 (.slice a' ((ofL (l.take i)).2.length + 1) c') (.slice none 0 0)) (0, 0))) ⟨b, off + i, none⟩ = some (.int .i64 l[i]) :=
        rd1_Old (hot.set (by omega)) (rd1_row h1 (by simp [i64C, hlt]))
      have hw3 : wrN τ' ⟨σ.size + 1, 17, none⟩ [.slice a' ((ofL (l.take i)).2.length + 1) c'] = some (τ'.setIfInBounds (σ.size + 1) (.cells (ver + 1) (recC (List.replicate 16 0) 1 (.slice a' ((ofL (l.take i)).2.length + 1) c') (.slice none 0 0)) (0, 0))) := by
        rw [wrN_eq, if_neg (by simp), hb3t, wrc_cells, if_pos ⟨by rw [rec_len hd]; simp, rfl⟩, sets, rec_s17 hd]; rfl
      simp only [↓eD0, ↓eD1, eC0, eC1, eC2, eC3, eC4, eC5, eC6, wantedE, ↓reduceIte, Nat.reduceEqDiff, Option.map_some, Option.map_none, reread, List.nil_append, List.cons_append, List.map_cons, List.map_nil, List.length_nil, List.length_cons, Value.cells, List.getElem?_cons_zero, List.getElem?_cons_succ, outE, lks, lkR, rdV, neg1, evs, opt, Nat.reduceAdd, Nat.reduceMul, and_self, reduceCtorEq, List.size_toArray, List.all_cons, List.all_nil, Value.oneCell', List.set_cons_zero, List.set_cons_succ, sets, fillL, Nat.reduceLeDiff, List.drop_succ_cons, List.drop_zero, List.take_succ_cons, List.take_zero, List.toList_toArray, argsE, Array.append_empty, Array.empty_append, List.getElem?_toArray, Int.reduceLT, Int.reduceLE, Int.reduceToNat, Int.reduceEq, Nat.reduceLT, hw3, hb, Int.toNat_natCast, hrd', hw, ← hs1]
      have g := hA.grown.set (b := σ.size + 1) (k := .cells (ver + 1) (recC (List.replicate 16 0) 1 (.slice a' ((ofL (l.take i)).2.length + 1) c') (.slice none 0 0)) (0, 0)) (by rw [sized_size]; omega)
      have g1 : (τ'.setIfInBounds (σ.size + 1) (.cells (ver + 1) (recC (List.replicate 16 0) 1 (.slice a' ((ofL (l.take i)).2.length + 1) c') (.slice none 0 0)) (0, 0))).size = τ'.size := by simp
      rw [ap_size] at hst
      refine ⟨hlt, by omega, .slice a' ((ofL (l.take i)).2.length + 1) c', ver + 1, hot.set (by omega), by rw [g1]; omega, (get_set_ne (by omega)).trans hb2t, get_set hb3t, ?_⟩
      rw [hs2, List.map_append, List.flatten_append, List.length_append]
      simpa using g
    · have hs1 : (ofL (l.take (i + 1))).1 = (ofL (l.take i)).1 := by rw [hs, ofS, if_neg hx]
      have hs2 : (ofL (l.take (i + 1))).2 = (ofL (l.take i)).2 ++ [⟨3, 0, (ofL (l.take i)).1, 0, ⟨#[UInt8.ofNat (IntKind.wrap .u8 (IntKind.wrap .i64 (0 - l[i]))).toNat]⟩⟩] := by rw [hs, ofS, if_neg hx]
      have hbo : ∀ x : Int, bytesOf [.int .u8 x] = some [UInt8.ofNat x.toNat] := fun x => rfl
      have hng : ∀ x : Int, unop .neg (.int .i64 x) = some (.int .i64 (IntKind.wrap .i64 (0 - x))) := fun _ => rfl
      simp only [↓eD0, ↓eD1, eC0, eC1, eC2, eC3, eC4, eC5, eC6, wantedE, ↓reduceIte, Nat.reduceEqDiff, Option.map_some, Option.map_none, reread, List.nil_append, List.cons_append, List.map_cons, List.map_nil, List.length_nil, List.length_cons, Value.cells, List.getElem?_cons_zero, List.getElem?_cons_succ, outE, lks, lkR, rdV, neg1, evs, opt, Nat.reduceAdd, Nat.reduceMul, and_self, reduceCtorEq, List.size_toArray, List.all_cons, List.all_nil, Value.oneCell', List.set_cons_zero, List.set_cons_succ, sets, fillL, Nat.reduceLeDiff, List.drop_succ_cons, List.drop_zero, List.take_succ_cons, List.take_zero, List.toList_toArray, argsE, Array.append_empty, Array.empty_append, List.getElem?_toArray, Int.reduceLT, Int.reduceLE, Int.reduceToNat, Int.reduceEq, Nat.reduceLT, hb, Int.toNat_natCast, hrd, hx, t17, Option.bind_some, hbo, hng]
      obtain ⟨v', τ', ha, hA⟩ := append_grown (σ := ap τ [.cells 0 [.int .u8 (IntKind.wrap .u8 (IntKind.wrap .i64 (0 - l[i])))] (0, 0), .cells 0 (entV ⟨3, 0, (ofL (l.take i)).1, 0, ⟨#[UInt8.ofNat (IntKind.wrap .u8 (IntKind.wrap .i64 (0 - l[i]))).toNat]⟩⟩) (0, 0)]) (xa := .slice (some ⟨τ.size + 1, 0, none⟩) 1 1) (bytes := 48) (m := 1) (new := entV ⟨3, 0, (ofL (l.take i)).1, 0, ⟨#[UInt8.ofNat (IntKind.wrap .u8 (IntKind.wrap .i64 (0 - l[i]))).toNat]⟩⟩) (hg.old .ap) (by omega) (by rw [sized_size, ap_size]; omega) (by
        show (rdN (ap τ _) ⟨τ.size + 1, 0, none⟩ (1 * 5)).map (1, ·) = _
        simp only [rdN_ap, List.getElem?_cons_zero, List.getElem?_cons_succ, rdcN_cells]
        rfl) rfl rfl (by omega) (by omega)
      refine onV_of ha ?_
      have hb2t := hA.low (hg.old .ap) (by rw [sized_size]; omega) (hb2' _)
      have hb3t := hA.low (hg.old .ap) (by rw [sized_size]; omega) (hb3' _)
      have hot := hA.Old' (hg.old .ap) (by rw [sized_size]; omega) (ho.trans .ap)
      have hst := hA.size
      obtain ⟨a', c', rfl⟩ := hA.grown.slice
      have hrd' : rd1 (τ'.setIfInBounds (σ.size + 1) (.cells (ver + 1) (recC (List.replicate 16 0) 1 (.slice a' ((ofL (l.take i)).2.length + 1) c') (.slice none 0 0)) (0, 0))) ⟨b, off + i, none⟩ = some (.int .i64 l[i]) :=
        rd1_Old (hot.set (by omega)) (rd1_row h1 (by simp [i64C, hlt]))
      have hw3 : wrN τ' ⟨σ.size + 1, 17, none⟩ [.slice a' ((ofL (l.take i)).2.length + 1) c'] = some (τ'.setIfInBounds (σ.size + 1) (.cells (ver + 1) (recC (List.replicate 16 0) 1 (.slice a' ((ofL (l.take i)).2.length + 1) c') (.slice none 0 0)) (0, 0))) := by
        rw [wrN_eq, if_neg (by simp), hb3t, wrc_cells, if_pos ⟨by rw [rec_len hd]; simp, rfl⟩, sets, rec_s17 hd]; rfl
      simp only [↓eD0, ↓eD1, eC0, eC1, eC2, eC3, eC4, eC5, eC6, wantedE, ↓reduceIte, Nat.reduceEqDiff, Option.map_some, Option.map_none, reread, List.nil_append, List.cons_append, List.map_cons, List.map_nil, List.length_nil, List.length_cons, Value.cells, List.getElem?_cons_zero, List.getElem?_cons_succ, outE, lks, lkR, rdV, neg1, evs, opt, Nat.reduceAdd, Nat.reduceMul, and_self, reduceCtorEq, List.size_toArray, List.all_cons, List.all_nil, Value.oneCell', List.set_cons_zero, List.set_cons_succ, sets, fillL, Nat.reduceLeDiff, List.drop_succ_cons, List.drop_zero, List.take_succ_cons, List.take_zero, List.toList_toArray, argsE, Array.append_empty, Array.empty_append, List.getElem?_toArray, Int.reduceLT, Int.reduceLE, Int.reduceToNat, Int.reduceEq, Nat.reduceLT, hw3, hb, Int.toNat_natCast, hrd', hw, hs1]
      have g := hA.grown.set (b := σ.size + 1) (k := .cells (ver + 1) (recC (List.replicate 16 0) 1 (.slice a' ((ofL (l.take i)).2.length + 1) c') (.slice none 0 0)) (0, 0)) (by rw [sized_size]; omega)
      have g1 : (τ'.setIfInBounds (σ.size + 1) (.cells (ver + 1) (recC (List.replicate 16 0) 1 (.slice a' ((ofL (l.take i)).2.length + 1) c') (.slice none 0 0)) (0, 0))).size = τ'.size := by simp
      rw [ap_size] at hst
      refine ⟨hlt, by omega, .slice a' ((ofL (l.take i)).2.length + 1) c', ver + 1, hot.set (by omega), by rw [g1]; omega, (get_set_ne (by omega)).trans hb2t, get_set hb3t, ?_⟩
      rw [hs2, List.map_append, List.flatten_append, List.length_append]
      simpa using g
  · have : i = l.length := by omega
    subst this
    simp only [↓eD0, ↓eD1, eC0, eC1, eC2, eC3, eC4, eC5, eC6, wantedE, ↓reduceIte, Nat.reduceEqDiff, Option.map_some, Option.map_none, reread, List.nil_append, List.cons_append, List.map_cons, List.map_nil, List.length_nil, List.length_cons, Value.cells, List.getElem?_cons_zero, List.getElem?_cons_succ, outE, lks, lkR, rdV, neg1, evs, opt, Nat.reduceAdd, Nat.reduceMul, and_self, reduceCtorEq, List.size_toArray, List.all_cons, List.all_nil, Value.oneCell', List.set_cons_zero, List.set_cons_succ, sets, fillL, Nat.reduceLeDiff, List.drop_succ_cons, List.drop_zero, List.take_succ_cons, List.take_zero, List.toList_toArray, argsE, Array.append_empty, Array.empty_append, List.getElem?_toArray, Int.reduceLT, Int.reduceLE, Int.reduceToNat, Int.reduceEq, Nat.reduceLT]
    rw [List.take_length] at hg
    have hlen := ofL_len (l := l) (i := l.length) (by omega)
    rw [List.take_length] at hlen
    have ov := hg.one
    have r19 : rdN (ap τ []) ⟨σ.size + 1, 0, none⟩ 19 = some (recC (List.replicate 16 0) 1 v (.slice none 0 0)) := rdN_all (hb3' []) (rec_len hd)
    have w19 : wrN (ap τ []) ⟨σ.size, 0, none⟩ (recC (List.replicate 16 0) 1 v (.slice none 0 0)) = some ((ap τ []).setIfInBounds σ.size (.cells 1 (recC (List.replicate 16 0) 1 v (.slice none 0 0)) (0, 0))) := by
      rw [wrN_eq, if_neg (by rw [rec_ne]; exact id), hb2', wrc_cells, rec_sets hd rfl, if_pos ⟨by rw [rec_len hd]; exact Nat.le_refl _, rec_oneV ov rfl⟩]; rfl
    have q19 : rdN ((ap τ []).setIfInBounds σ.size (.cells 1 (recC (List.replicate 16 0) 1 v (.slice none 0 0)) (0, 0))) ⟨σ.size, 0, none⟩ 19 = some (recC (List.replicate 16 0) 1 v (.slice none 0 0)) := rdN_all (get_set (hb2' [])) (rec_len hd)
    simp only [↓eD0, ↓eD1, eC0, eC1, eC2, eC3, eC4, eC5, eC6, wantedE, ↓reduceIte, Nat.reduceEqDiff, Option.map_some, Option.map_none, reread, List.nil_append, List.cons_append, List.map_cons, List.map_nil, List.length_nil, List.length_cons, Value.cells, List.getElem?_cons_zero, List.getElem?_cons_succ, outE, lks, lkR, rdV, neg1, evs, opt, Nat.reduceAdd, Nat.reduceMul, and_self, reduceCtorEq, List.size_toArray, List.all_cons, List.all_nil, Value.oneCell', List.set_cons_zero, List.set_cons_succ, sets, fillL, Nat.reduceLeDiff, List.drop_succ_cons, List.drop_zero, List.take_succ_cons, List.take_zero, List.toList_toArray, argsE, Array.append_empty, Array.empty_append, List.getElem?_toArray, Int.reduceLT, Int.reduceLE, Int.reduceToNat, Int.reduceEq, Nat.reduceLT, r19, rec_len hd, w19, q19]
    refine ⟨(ho.trans .ap).set (Nat.le_refl _), _, rfl, ?_, fun sl c h1 h2 => by
      rw [rec17 hd] at h1; injection h1 with h1; subst h1
      have := hg.base h2
      rw [sized_size] at this; omega⟩
    have g := (hg.old (Old.ap (l := []))).set (b := σ.size) (k := .cells 1 (recC (List.replicate 16 0) 1 v (.slice none 0 0)) (0, 0)) (by rw [sized_size]; omega)
    refine IsLg.mk' hd (Grown.Row (by simpa using g) ?_) ⟨none, 0, rfl, fun i x h => by simp at h⟩ (fun s h => by simp at h) (by simp only [hlen]; omega) (by simp) hg.cap
    intro r hr
    obtain ⟨e, _, rfl⟩ := List.mem_map.1 hr
    rfl
end Go.Proofs.YtljmjkpmkpchoaaDoor

set_option linter.unusedSimpArgs false
set_option maxRecDepth 10000
set_option maxHeartbeats 4000000
namespace Go.Proofs.YtljmjkpmkpchoaaDoor
open Go Go.Cn Go.RowKit

/-- The cells of a side. -/
def sideC (d : List Int) (c : Int) (v w : Value) (x p : Int) : List Value := recC d c v w ++ [Value.int .i64 x, Value.int .i64 p]
section
variable {d : List Int} (hd : d.length = 16) {c : Int} {v w : Value} {x p : Int}
include hd
theorem side_len : (sideC d c v w x p).length = 21 := by simp [sideC, rec_len hd]
theorem side19 : (sideC d c v w x p)[19]? = some (.int .i64 x) := by rw [sideC, List.getElem?_append_right (by rw [rec_len hd]; omega), rec_len hd]; rfl
theorem side20 : (sideC d c v w x p)[20]? = some (.int .i64 p) := by rw [sideC, List.getElem?_append_right (by rw [rec_len hd]; omega), rec_len hd]; rfl
theorem side17 : (sideC d c v w x p)[17]? = some v := by rw [sideC, List.getElem?_append_left (by rw [rec_len hd]; omega), rec17 hd]
theorem side_take19 : (sideC d c v w x p).take 19 = recC d c v w := by rw [sideC, List.take_left' (rec_len hd)]
theorem side_take : (sideC d c v w x p).take 21 = sideC d c v w x p := List.take_of_length_le (by rw [side_len hd]; omega)
theorem side_sets {z : List Value} (hz : z.length = 21) : sets z 0 (sideC d c v w x p) = sideC d c v w x p := by
  rw [sets_all (by rw [side_len hd]; omega), side_len hd]; simp [hz]
theorem side_rec {d' : List Int} (hd' : d'.length = 16) {c' : Int} {v' w' : Value} : sets (sideC d' c' v' w' x p) 0 (recC d c v w) = sideC d c v w x p := by
  rw [sets_all (by simp [side_len hd', rec_len hd]), rec_len hd, sideC, sideC, List.drop_left' (rec_len hd')]; simp
end
theorem side_ne {d : List Int} {c : Int} {v w : Value} {x p : Int} : (sideC d c v w x p = []) = False := by simp [sideC]
theorem side_one {d : List Int} {c : Int} {v w : Value} {x p : Int} (hv : v.oneCell' = true) (hw : w.oneCell' = true) : (sideC d c v w x p).all Value.oneCell' = true := by
  rw [sideC, List.all_append, rec_oneV hv hw]; rfl
def zeroO : List Value := [.int .i64 0, .int .i64 0, .int .i64 0, .int .i64 0, .int .i64 0, .int .i64 0, .int .i64 0, .string ⟨#[]⟩, .bool false]
def zeroSd : List Value := zeroL ++ [Value.int .i64 0, Value.int .i64 0]

theorem merge2_ok {σ : H} {d d' : List Int} {c c' x p : Int} {v w v' w' : Value} {A B : Lg} (ha : IsLg σ (recC d c v w) A) (hb : IsLg σ (recC d' c' v' w') B) (hd : d.length = 16) (hd' : d'.length = 16) (hv : v'.oneCell' = true) (hw : w'.oneCell' = true) (hv0 : v.oneCell' = true) (hw0 : w.oneCell' = true) (sa : Sized A.E) (sb : Sized B.E)
    (hc : contR A.d A.c A.E B.d B.c B.E = .goesOn) :
    App Tryd.prog (.func 23) #[] #[.agg (sideC d c v w x p).toArray, .agg (sideC d' c' v' w' x x).toArray] σ fun r σ' => Old σ σ' ∧ r = .tuple #[.agg (sideC d' c' v' w' x p).toArray, .agg zeroO.toArray, .int .i64 0] := by
  refine App.of_sem mixed Tryd.func23 t23 k23 r23 (Nat.le_of_ble_eq_true rfl) ?_
  unfold s23
  have e0 : ap σ [] = σ := ap_nil
  rw [← e0]
  simp only [↓eD0, ↓eD1, eC0, eC1, eC2, eC3, eC4, eC5, eC6, wantedE, ↓reduceIte, Nat.reduceEqDiff, Option.map_some, Option.map_none, reread, List.nil_append, List.cons_append, List.map_cons, List.map_nil, List.length_nil, List.length_cons, Value.cells, List.getElem?_cons_zero, List.getElem?_cons_succ, outE, lks, lkR, rdV, neg1, evs, opt, Nat.reduceAdd, Nat.reduceMul, and_self, reduceCtorEq, List.size_toArray, List.all_cons, List.all_nil, Value.oneCell', List.set_cons_zero, List.set_cons_succ, sets, fillL, Nat.reduceLeDiff, List.drop_succ_cons, List.drop_zero, List.take_succ_cons, List.take_zero, List.toList_toArray, argsE, Array.append_empty, Array.empty_append, List.getElem?_toArray, Int.reduceLT, Int.reduceLE, Int.reduceToNat, Int.reduceEq, Nat.reduceLT, side19 hd, side19 hd', side20 hd', side_len hd, side_len hd', side_take19 hd, side_take19 hd']
  refine appK_of (merge_app (ha.log.Old .ap) (hb.log.Old .ap) sa sb) ?_
  rintro _ _ ⟨e2, rfl⟩
  rw [e2, hc]
  clear e2
  have o1 := side_one (d := d') (c := c') (x := x) (p := p) hv hw
  have o2 := rec_oneV (d := d') (c := c') hv hw
  simp only [↓eD0, ↓eD1, eC0, eC1, eC2, eC3, eC4, eC5, eC6, wantedE, ↓reduceIte, Nat.reduceEqDiff, Option.map_some, Option.map_none, reread, List.nil_append, List.cons_append, List.map_cons, List.map_nil, List.length_nil, List.length_cons, Value.cells, List.getElem?_cons_zero, List.getElem?_cons_succ, outE, lks, lkR, rdV, neg1, evs, opt, Nat.reduceAdd, Nat.reduceMul, and_self, reduceCtorEq, List.size_toArray, List.all_cons, List.all_nil, Value.oneCell', List.set_cons_zero, List.set_cons_succ, sets, fillL, Nat.reduceLeDiff, List.drop_succ_cons, List.drop_zero, List.take_succ_cons, List.take_zero, List.toList_toArray, argsE, Array.append_empty, Array.empty_append, List.getElem?_toArray, Int.reduceLT, Int.reduceLE, Int.reduceToNat, Int.reduceEq, Nat.reduceLT, contV, obsV, entV, zeroE, side19 hd, side19 hd', side20 hd', side_len hd, side_len hd', side_take19 hd, side_take19 hd', rec_len hd', rec_take hd', side_rec hd' hd, o1, o2, rec_ne, side_ne, side_take hd', side_sets hd']
  exact ⟨.ap, by simp [zeroO]⟩

theorem merge2_state {σ : H} {d d' : List Int} {c c' x p q : Int} {v w v' w' : Value} (hd : d.length = 16) (hd' : d'.length = 16) (hq : q ≠ x) :
    App Tryd.prog (.func 23) #[] #[.agg (sideC d c v w x p).toArray, .agg (sideC d' c' v' w' x q).toArray] σ fun r σ' => Old σ σ' ∧ r = .tuple #[.agg zeroSd.toArray, .agg zeroO.toArray, .int .i64 4] := by
  refine App.of_sem mixed Tryd.func23 t23 k23 r23 (Nat.le_of_ble_eq_true rfl) ?_
  unfold s23
  have e0 : ap σ [] = σ := ap_nil
  rw [← e0]
  simp only [↓eD0, ↓eD1, eC0, eC1, eC2, eC3, eC4, eC5, eC6, wantedE, ↓reduceIte, Nat.reduceEqDiff, Option.map_some, Option.map_none, reread, List.nil_append, List.cons_append, List.map_cons, List.map_nil, List.length_nil, List.length_cons, Value.cells, List.getElem?_cons_zero, List.getElem?_cons_succ, outE, lks, lkR, rdV, neg1, evs, opt, Nat.reduceAdd, Nat.reduceMul, and_self, reduceCtorEq, List.size_toArray, List.all_cons, List.all_nil, Value.oneCell', List.set_cons_zero, List.set_cons_succ, sets, fillL, Nat.reduceLeDiff, List.drop_succ_cons, List.drop_zero, List.take_succ_cons, List.take_zero, List.toList_toArray, argsE, Array.append_empty, Array.empty_append, List.getElem?_toArray, Int.reduceLT, Int.reduceLE, Int.reduceToNat, Int.reduceEq, Nat.reduceLT, side19 hd, side19 hd', side20 hd', side_len hd, side_len hd', side_take19 hd, side_take19 hd', hq]
  exact ⟨.ap, by simp [zeroO, zeroSd, zeroL]⟩
end Go.Proofs.YtljmjkpmkpchoaaDoor
