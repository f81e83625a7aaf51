/- Walks and plain laws. Conditions: none. -/
import Derived.Test.YtimcgoghjebalaaVs
set_option linter.all false
set_option linter.unusedSimpArgs false
set_option linter.unusedVariables false
set_option maxRecDepth 10000
set_option maxHeartbeats 1000000
namespace Go.Proofs.Ytimcgoghjebalaa
open Go Go.Cn Go.RowKit

theorem turns_len {q : Int} (hq : 1 ≤ q) : ∀ (f : Nat) (L : List Por) (O : List Trn), (∀ p ∈ L, 0 ≤ p.st) → (turnsG q f L O).length ≤ O.length + cnt q L
  | 0, L, O, _ => by simp [turnsG]
  | f + 1, L, O, hs => by
    have hcr := cnt_round hq hs
    rw [turnsG]
    split
    · omega
    · have := turns_len hq f (roundL q L) (O ++ roundO q L) fun p hp => by
        obtain ⟨p0, hp0, rfl⟩ := List.mem_map.1 hp
        exact (step_st hq (hs p0 hp0)).1
      rw [List.length_append] at this
      omega
theorem stF_snoc {A : List Por} {p : Por} (h : ∀ a ∈ A, a.m ≠ p.m) : stF (A ++ [p]) = fun k => if k = p.m then some p.st else stF A k := by
  funext k
  unfold stF
  by_cases hk : k = p.m
  · rw [if_pos hk, List.find?_append, List.find?_eq_none.2 fun a ha => by simpa [hk] using h a ha]
    simp [hk]
  · rw [if_neg hk]
    have : ¬ p.m = k := fun h => hk h.symm
    simp [List.find?_append, this]
def iv (n : Int) : Value := .int .i64 n
def mv (F : Int → Option Int) (k : Int) : Option Value := (F k).map iv
theorem mv_upd {F : Int → Option Int} {k0 v : Int} : mv (fun k => if k = k0 then some v else F k) = fun k => if k = k0 then some (iv v) else mv F k := by
  funext k
  unfold mv
  by_cases h : k = k0 <;> simp [h]

set_option maxHeartbeats 4000000 in
theorem law3 {σ : H} {L : List Por} {lv : Value} {q : Int} (hr : Row σ 3 lv (L.map porV)) (hcap : CapOk 3 lv) :
    App Try.prog (.func 3) #[] #[lv, .int .i64 q] σ fun v σ' => Old σ σ' ∧ v = .bool true := by
  refine App.of_sem mixed Try.func3 t3 k3 r3 (Nat.le_of_ble_eq_true rfl) ?_
  obtain ⟨base, cp, rfl⟩ := hr.slice
  simp only [List.length_map] at hr hcap ⊢
  rw [← ap_nil (σ := σ)]
  unfold s3
  by_cases h32 : L.length ≤ 32
  case neg =>
    have d0 : decide ((32:Int) < (L.length:Int)) = true := by rw [decide_eq_true]; omega
    simp only [↓eD0, ↓eD1, eC0, eC1, eC2, eC3, eC4, eC5, eC6, wantedE, ↓reduceIte, Nat.reduceEqDiff, Option.map_some, Option.map_none, reread, List.nil_append, List.cons_append, List.map_cons, List.map_nil, List.length_nil, List.length_cons, Value.cells, List.getElem?_cons_zero, List.getElem?_cons_succ, outE, lks, lkR, rdV, neg1, evs, opt, Nat.reduceAdd, Nat.reduceMul, and_self, reduceCtorEq, List.size_toArray, List.all_cons, List.all_nil, Value.oneCell', List.set_cons_zero, List.set_cons_succ, sets, fillL, Nat.reduceLeDiff, List.drop_succ_cons, List.drop_zero, List.take_succ_cons, List.take_zero, List.toList_toArray, argsE, Array.append_empty, Array.empty_append, List.getElem?_toArray, Int.reduceLT, Int.reduceLE, Int.reduceToNat, Int.reduceEq, Nat.reduceLT, d0, undef_eq]
    refine appK_of sanity_app ?_
    rintro _ _ ⟨e2, rfl⟩
    rw [e2]
    clear e2
    simp only [↓eD0, ↓eD1, eC0, eC1, eC2, eC3, eC4, eC5, eC6, wantedE, ↓reduceIte, Nat.reduceEqDiff, Option.map_some, Option.map_none, reread, List.nil_append, List.cons_append, List.map_cons, List.map_nil, List.length_nil, List.length_cons, Value.cells, List.getElem?_cons_zero, List.getElem?_cons_succ, outE, lks, lkR, rdV, neg1, evs, opt, Nat.reduceAdd, Nat.reduceMul, and_self, reduceCtorEq, List.size_toArray, List.all_cons, List.all_nil, Value.oneCell', List.set_cons_zero, List.set_cons_succ, sets, fillL, Nat.reduceLeDiff, List.drop_succ_cons, List.drop_zero, List.take_succ_cons, List.take_zero, List.toList_toArray, argsE, Array.append_empty, Array.empty_append, List.getElem?_toArray, Int.reduceLT, Int.reduceLE, Int.reduceToNat, Int.reduceEq, Nat.reduceLT]
    exact .ap
  have d0 : decide ((32:Int) < (L.length:Int)) = false := by rw [decide_eq_false]; omega
  have hrow := by simpa using hr.Old (Old.ap (l := []))
  simp only [↓eD0, ↓eD1, eC0, eC1, eC2, eC3, eC4, eC5, eC6, wantedE, ↓reduceIte, Nat.reduceEqDiff, Option.map_some, Option.map_none, reread, List.nil_append, List.cons_append, List.map_cons, List.map_nil, List.length_nil, List.length_cons, Value.cells, List.getElem?_cons_zero, List.getElem?_cons_succ, outE, lks, lkR, rdV, neg1, evs, opt, Nat.reduceAdd, Nat.reduceMul, and_self, reduceCtorEq, List.size_toArray, List.all_cons, List.all_nil, Value.oneCell', List.set_cons_zero, List.set_cons_succ, sets, fillL, Nat.reduceLeDiff, List.drop_succ_cons, List.drop_zero, List.take_succ_cons, List.take_zero, List.toList_toArray, argsE, Array.append_empty, Array.empty_append, List.getElem?_toArray, Int.reduceLT, Int.reduceLE, Int.reduceToNat, Int.reduceEq, Nat.reduceLT, d0, undef_eq]
  refine appK_of (rounds_app (q := q) (hr.Old .ap)) ?_
  rintro _ _ ⟨e2, rfl⟩
  rw [e2]
  clear e2
  by_cases hneg : roundsF q L < 0
  · have d1 : decide (roundsF q L < 0) = true := by simpa using hneg
    simp only [↓eD0, ↓eD1, eC0, eC1, eC2, eC3, eC4, eC5, eC6, wantedE, ↓reduceIte, Nat.reduceEqDiff, Option.map_some, Option.map_none, reread, List.nil_append, List.cons_append, List.map_cons, List.map_nil, List.length_nil, List.length_cons, Value.cells, List.getElem?_cons_zero, List.getElem?_cons_succ, outE, lks, lkR, rdV, neg1, evs, opt, Nat.reduceAdd, Nat.reduceMul, and_self, reduceCtorEq, List.size_toArray, List.all_cons, List.all_nil, Value.oneCell', List.set_cons_zero, List.set_cons_succ, sets, fillL, Nat.reduceLeDiff, List.drop_succ_cons, List.drop_zero, List.take_succ_cons, List.take_zero, List.toList_toArray, argsE, Array.append_empty, Array.empty_append, List.getElem?_toArray, Int.reduceLT, Int.reduceLE, Int.reduceToNat, Int.reduceEq, Nat.reduceLT, d1, undef_eq]
    refine appK_of sanity_app ?_
    rintro _ _ ⟨e2, rfl⟩
    rw [e2]
    clear e2
    simp only [↓eD0, ↓eD1, eC0, eC1, eC2, eC3, eC4, eC5, eC6, wantedE, ↓reduceIte, Nat.reduceEqDiff, Option.map_some, Option.map_none, reread, List.nil_append, List.cons_append, List.map_cons, List.map_nil, List.length_nil, List.length_cons, Value.cells, List.getElem?_cons_zero, List.getElem?_cons_succ, outE, lks, lkR, rdV, neg1, evs, opt, Nat.reduceAdd, Nat.reduceMul, and_self, reduceCtorEq, List.size_toArray, List.all_cons, List.all_nil, Value.oneCell', List.set_cons_zero, List.set_cons_succ, sets, fillL, Nat.reduceLeDiff, List.drop_succ_cons, List.drop_zero, List.take_succ_cons, List.take_zero, List.toList_toArray, argsE, Array.append_empty, Array.empty_append, List.getElem?_toArray, Int.reduceLT, Int.reduceLE, Int.reduceToNat, Int.reduceEq, Nat.reduceLT]
    exact .ap
  have d1 : decide (roundsF q L < 0) = false := by simpa using hneg
  obtain ⟨hq, hamt, hcnt, hrf⟩ : 1 ≤ q ∧ (∀ p ∈ L, 0 ≤ p.st ∧ p.st ≤ 1073741824) ∧ cnt q L ≤ 10000 ∧ roundsF q L = cnt q L := by
    unfold roundsF at hneg ⊢
    split at hneg
    · omega
    · rename_i h1
      rw [if_neg h1]
      split at hneg
      · rename_i h2
        rw [if_pos h2]
        split at hneg
        · omega
        · rename_i h3
          rw [if_neg h3]
          exact ⟨by omega, fun p hp => of_decide_eq_true (p := Amt p.st) (List.all_eq_true.1 h2 p hp), by omega, rfl⟩
      · omega
  simp only [↓eD0, ↓eD1, eC0, eC1, eC2, eC3, eC4, eC5, eC6, wantedE, ↓reduceIte, Nat.reduceEqDiff, Option.map_some, Option.map_none, reread, List.nil_append, List.cons_append, List.map_cons, List.map_nil, List.length_nil, List.length_cons, Value.cells, List.getElem?_cons_zero, List.getElem?_cons_succ, outE, lks, lkR, rdV, neg1, evs, opt, Nat.reduceAdd, Nat.reduceMul, and_self, reduceCtorEq, List.size_toArray, List.all_cons, List.all_nil, Value.oneCell', List.set_cons_zero, List.set_cons_succ, sets, fillL, Nat.reduceLeDiff, List.drop_succ_cons, List.drop_zero, List.take_succ_cons, List.take_zero, List.toList_toArray, argsE, Array.append_empty, Array.empty_append, List.getElem?_toArray, Int.reduceLT, Int.reduceLE, Int.reduceToNat, Int.reduceEq, Nat.reduceLT, d1, undef_eq]
  refine appK_of (turns_app (hr.Old .ap) hq hamt (by omega) (by omega)) ?_
  rintro tv τ0 ⟨ho0, hT0⟩
  rw [ap_nil] at ho0
  simp only [↓eD0, ↓eD1, eC0, eC1, eC2, eC3, eC4, eC5, eC6, wantedE, ↓reduceIte, Nat.reduceEqDiff, Option.map_some, Option.map_none, reread, List.nil_append, List.cons_append, List.map_cons, List.map_nil, List.length_nil, List.length_cons, Value.cells, List.getElem?_cons_zero, List.getElem?_cons_succ, outE, lks, lkR, rdV, neg1, evs, opt, Nat.reduceAdd, Nat.reduceMul, and_self, reduceCtorEq, List.size_toArray, List.all_cons, List.all_nil, Value.oneCell', List.set_cons_zero, List.set_cons_succ, sets, fillL, Nat.reduceLeDiff, List.drop_succ_cons, List.drop_zero, List.take_succ_cons, List.take_zero, List.toList_toArray, argsE, Array.append_empty, Array.empty_append, List.getElem?_toArray, Int.reduceLT, Int.reduceLE, Int.reduceToNat, Int.reduceEq, Nat.reduceLT]
  refine appK_of (rturns_app (hr.Old ho0) hq hamt (by omega) (by omega) hrf) ?_
  rintro tv2 τ ⟨ho1, hT2⟩
  have hT := hT0.Old ho1
  have ho := ho0.trans ho1
  have htl := turns_len hq (cnt q L + 1) L [] fun p hp => (hamt p hp).1
  have htl2 : (turnsF q L).length ≤ cnt q L := by simpa [turnsF] using htl
  simp only [↓eD0, ↓eD1, eC0, eC1, eC2, eC3, eC4, eC5, eC6, wantedE, ↓reduceIte, Nat.reduceEqDiff, Option.map_some, Option.map_none, reread, List.nil_append, List.cons_append, List.map_cons, List.map_nil, List.length_nil, List.length_cons, Value.cells, List.getElem?_cons_zero, List.getElem?_cons_succ, outE, lks, lkR, rdV, neg1, evs, opt, Nat.reduceAdd, Nat.reduceMul, and_self, reduceCtorEq, List.size_toArray, List.all_cons, List.all_nil, Value.oneCell', List.set_cons_zero, List.set_cons_succ, sets, fillL, Nat.reduceLeDiff, List.drop_succ_cons, List.drop_zero, List.take_succ_cons, List.take_zero, List.toList_toArray, argsE, Array.append_empty, Array.empty_append, List.getElem?_toArray, Int.reduceLT, Int.reduceLE, Int.reduceToNat, Int.reduceEq, Nat.reduceLT]
  refine appK_of (sameTurns_app hT hT2 (by omega)) ?_
  rintro _ _ ⟨e2, rfl⟩
  rw [e2]
  clear e2
  have de : decide (turnsF q L = turnsF q L) = true := by simp
  have hgood : Dis L → Good (stF L) none (turnsF q L) := fun hd => good_all hq hd hamt
  generalize turnsF q L = T at hT hT2 htl2 de hgood
  clear hT0 hT2
  obtain ⟨tb, tc, rfl⟩ := hT.slice
  simp only [List.length_map] at hT ⊢
  rw [← ap_nil (σ := τ)]
  simp only [↓eD0, ↓eD1, eC0, eC1, eC2, eC3, eC4, eC5, eC6, wantedE, ↓reduceIte, Nat.reduceEqDiff, Option.map_some, Option.map_none, reread, List.nil_append, List.cons_append, List.map_cons, List.map_nil, List.length_nil, List.length_cons, Value.cells, List.getElem?_cons_zero, List.getElem?_cons_succ, outE, lks, lkR, rdV, neg1, evs, opt, Nat.reduceAdd, Nat.reduceMul, and_self, reduceCtorEq, List.size_toArray, List.all_cons, List.all_nil, Value.oneCell', List.set_cons_zero, List.set_cons_succ, sets, fillL, Nat.reduceLeDiff, List.drop_succ_cons, List.drop_zero, List.take_succ_cons, List.take_zero, List.toList_toArray, argsE, Array.append_empty, Array.empty_append, List.getElem?_toArray, Int.reduceLT, Int.reduceLE, Int.reduceToNat, Int.reduceEq, Nat.reduceLT, de]
  refine loop_for (J := fun i e ρ => i ≤ L.length ∧ e = [(5, .slice tb T.length tc), (6, .map (some τ.size)), (37, .slice base L.length cp), (38, .int .i64 L.length), (39, .int .i64 i)] ∧ Old τ ρ ∧ Dis (L.take i) ∧
      ∃ ver es clock, ρ[τ.size]? = some (.map ver es clock) ∧ MapB es clock (mv (stF (L.take i)))) L.length
    ⟨by omega, rfl, .ap, List.Pairwise.nil, 0, _, 0, ap_new0, mapB_empty⟩ ?_
  rintro i e ρ hi ⟨_, rfl, hoρ, hdi, ver, es, clock, q1, hm⟩
  have z1 := (Array.getElem?_eq_some_iff.1 q1).1
  rw [← ap_nil (σ := ρ)]
  by_cases hlt : i < L.length
  · have dl : decide ((i:Int) < (L.length : Int)) = true := by simpa using hlt
    have hx : (L.map porV)[i]? = some (porV L[i]) := by simp [hlt]
    obtain ⟨b, off, rfl, h1⟩ := hr.at hx
    have g3 : ∀ l, rdN (ap ρ l) ⟨b, off + i * 3, none⟩ 3 = some (porV L[i]) := fun l => rdN_Old ((ho.trans hoρ).trans .ap) h1
    have hb : (0:Int) ≤ (i:Int) ∧ (i:Int) < (L.length : Int) := by omega
    have hw : IntKind.wrap .i64 ((i:Int) + 1) = ((i + 1 : Nat) : Int) := by rw [wrap64 (by omega) (by omega)]; omega
    have hlk : ∀ l, lookupV (.int .i64) (.int .i64 0) true (.map (some τ.size)) (.int .i64 L[i].m) (ap ρ l) = some (.tuple #[(mv (stF (L.take i)) L[i].m).getD (.int .i64 0), .bool (mv (stF (L.take i)) L[i].m).isSome]) := fun l => map_get2 hm.m ((ap_old z1).trans q1)
    have tk : L.take (i + 1) = L.take i ++ [L[i]] := List.take_succ_eq_append_getElem hlt
    cases hfi : stF (L.take i) L[i].m with
    | some v0 =>
      have hmv : mv (stF (L.take i)) L[i].m = some (iv v0) := by unfold mv; rw [hfi]; rfl
      simp only [↓eD0, ↓eD1, eC0, eC1, eC2, eC3, eC4, eC5, eC6, wantedE, ↓reduceIte, Nat.reduceEqDiff, Option.map_some, Option.map_none, reread, List.nil_append, List.cons_append, List.map_cons, List.map_nil, List.length_nil, List.length_cons, Value.cells, List.getElem?_cons_zero, List.getElem?_cons_succ, outE, lks, lkR, rdV, neg1, evs, opt, Nat.reduceAdd, Nat.reduceMul, and_self, reduceCtorEq, List.size_toArray, List.all_cons, List.all_nil, Value.oneCell', List.set_cons_zero, List.set_cons_succ, sets, fillL, Nat.reduceLeDiff, List.drop_succ_cons, List.drop_zero, List.take_succ_cons, List.take_zero, List.toList_toArray, argsE, Array.append_empty, Array.empty_append, List.getElem?_toArray, Int.reduceLT, Int.reduceLE, Int.reduceToNat, Int.reduceEq, Nat.reduceLT, dl, hb, Int.toNat_natCast, g3, porV, hlk, hmv, Option.getD_some, Option.isSome_some, iv]
      refine appK_of sanity_app ?_
      rintro _ _ ⟨e2, rfl⟩
      rw [e2]
      clear e2
      simp only [↓eD0, ↓eD1, eC0, eC1, eC2, eC3, eC4, eC5, eC6, wantedE, ↓reduceIte, Nat.reduceEqDiff, Option.map_some, Option.map_none, reread, List.nil_append, List.cons_append, List.map_cons, List.map_nil, List.length_nil, List.length_cons, Value.cells, List.getElem?_cons_zero, List.getElem?_cons_succ, outE, lks, lkR, rdV, neg1, evs, opt, Nat.reduceAdd, Nat.reduceMul, and_self, reduceCtorEq, List.size_toArray, List.all_cons, List.all_nil, Value.oneCell', List.set_cons_zero, List.set_cons_succ, sets, fillL, Nat.reduceLeDiff, List.drop_succ_cons, List.drop_zero, List.take_succ_cons, List.take_zero, List.toList_toArray, argsE, Array.append_empty, Array.empty_append, List.getElem?_toArray, Int.reduceLT, Int.reduceLE, Int.reduceToNat, Int.reduceEq, Nat.reduceLT]
      exact (ho.trans hoρ).trans .ap
    | none =>
      have hmv : mv (stF (L.take i)) L[i].m = none := by unfold mv; rw [hfi]; rfl
      have hnot : ∀ a ∈ L.take i, a.m ≠ L[i].m := by
        intro a ha he
        have := stF_mem hdi ha
        rw [he, hfi] at this
        cases this
      obtain ⟨es', clock', p1, p2⟩ := mapB_put (σ := ap ρ [.cells 1 (porV L[i]) (0, 0)]) (k := L[i].m) (v := iv L[i].st) hm ((ap_old z1).trans q1)
      rw [← mv_upd, ← stF_snoc hnot, ← tk] at p2
      have p1' : mapPut (.int .i64) (.map (some τ.size)) (.int .i64 L[i].m) (.int .i64 L[i].st) (ap ρ [.cells 1 [.int .i64 L[i].m, .int .i64 L[i].st, .int .i64 L[i].pg] (0, 0)]) = some ((ap ρ [.cells 1 (porV L[i]) (0, 0)]).setIfInBounds τ.size (.map (ver + 1) es' clock')) := p1
      simp only [↓eD0, ↓eD1, eC0, eC1, eC2, eC3, eC4, eC5, eC6, wantedE, ↓reduceIte, Nat.reduceEqDiff, Option.map_some, Option.map_none, reread, List.nil_append, List.cons_append, List.map_cons, List.map_nil, List.length_nil, List.length_cons, Value.cells, List.getElem?_cons_zero, List.getElem?_cons_succ, outE, lks, lkR, rdV, neg1, evs, opt, Nat.reduceAdd, Nat.reduceMul, and_self, reduceCtorEq, List.size_toArray, List.all_cons, List.all_nil, Value.oneCell', List.set_cons_zero, List.set_cons_succ, sets, fillL, Nat.reduceLeDiff, List.drop_succ_cons, List.drop_zero, List.take_succ_cons, List.take_zero, List.toList_toArray, argsE, Array.append_empty, Array.empty_append, List.getElem?_toArray, Int.reduceLT, Int.reduceLE, Int.reduceToNat, Int.reduceEq, Nat.reduceLT, dl, hb, Int.toNat_natCast, g3, porV, hlk, hmv, Option.getD_none, Option.isSome_none, p1', hw]
      refine ⟨hlt, by omega, (hoρ.trans .ap).set (Nat.le_refl _), ?_, ver + 1, es', clock', get_set ((ap_old z1).trans q1), p2⟩
      rw [tk]
      exact List.pairwise_append.2 ⟨hdi, by simp, fun a ha c hc => by rw [List.mem_singleton] at hc; rw [hc]; exact hnot a ha⟩
  · have : i = L.length := by omega
    subst this
    have dl : decide ((L.length:Int) < (L.length : Int)) = false := by simp
    rw [List.take_length] at hm hdi
    have hG := hgood hdi
    clear hgood
    simp only [↓eD0, ↓eD1, eC0, eC1, eC2, eC3, eC4, eC5, eC6, wantedE, ↓reduceIte, Nat.reduceEqDiff, Option.map_some, Option.map_none, reread, List.nil_append, List.cons_append, List.map_cons, List.map_nil, List.length_nil, List.length_cons, Value.cells, List.getElem?_cons_zero, List.getElem?_cons_succ, outE, lks, lkR, rdV, neg1, evs, opt, Nat.reduceAdd, Nat.reduceMul, and_self, reduceCtorEq, List.size_toArray, List.all_cons, List.all_nil, Value.oneCell', List.set_cons_zero, List.set_cons_succ, sets, fillL, Nat.reduceLeDiff, List.drop_succ_cons, List.drop_zero, List.take_succ_cons, List.take_zero, List.toList_toArray, argsE, Array.append_empty, Array.empty_append, List.getElem?_toArray, Int.reduceLT, Int.reduceLE, Int.reduceToNat, Int.reduceEq, Nat.reduceLT, dl]
    rw [ap_nil]
    generalize hbk : τ.size = b at q1 z1
    refine loop_for (J := fun i e θ => i ≤ T.length ∧ e = [(5, .slice tb T.length tc), (6, .map (some b)), (58, .slice tb T.length tc), (59, .int .i64 T.length), (60, .int .i64 i)] ∧ Old τ θ ∧
        ∃ F pre, Good F pre (T.drop i) ∧ (∀ (h : 0 < i) (h' : i - 1 < T.length), pre = some T[i - 1].m) ∧ ∃ ver es clock, θ[b]? = some (.map ver es clock) ∧ MapB es clock (mv F)) T.length
      ⟨by omega, by rw [← hbk]; rfl, hoρ, _, none, by simpa using hG, fun h => by omega, ver, es, clock, q1, hm⟩ ?_
    clear q1 z1 hm hG ver es clock
    rintro i e θ hi ⟨_, rfl, hoθ, F, pre, hG, hpre, ver, es, clock, q1, hm⟩
    have z1 := (Array.getElem?_eq_some_iff.1 q1).1
    rw [← ap_nil (σ := θ)]
    by_cases hlt : i < T.length
    · have dl : decide ((i:Int) < (T.length : Int)) = true := by simpa using hlt
      have hx : (T.map trnV)[i]? = some (trnV T[i]) := by simp [hlt]
      obtain ⟨b2, off, rfl, h1⟩ := hT.at hx
      have g3 : ∀ l, rdN (ap θ l) ⟨b2, off + i * 2, none⟩ 2 = some (trnV T[i]) := fun l => rdN_Old (hoθ.trans .ap) h1
      have hb : (0:Int) ≤ (i:Int) ∧ (i:Int) < (T.length : Int) := by omega
      have hw : IntKind.wrap .i64 ((i:Int) + 1) = ((i + 1 : Nat) : Int) := by rw [wrap64 (by omega) (by omega)]; omega
      rw [List.drop_eq_getElem_cons hlt] at hG
      obtain ⟨hG1, ⟨v, hG2, hG3, hG4, hG5⟩, hG6⟩ := hG
      have hFx : mv F T[i].m = some (iv v) := by unfold mv; rw [hG2]; rfl
      -- the last operations of a round
      have last : ∀ θ' : H, Old τ θ' → θ'[b]? = some (.map ver es clock) → ∃ θ'', lookupV (.int .i64) (.int .i64 0) false (.map (some b)) (.int .i64 T[i].m) θ' = some (.int .i64 v) ∧ mapPut (.int .i64) (.map (some b)) (.int .i64 T[i].m) (.int .i64 (v - T[i].n)) θ' = some θ'' ∧ Old τ θ'' ∧
          ∃ F pre, Good F pre (T.drop (i + 1)) ∧ (∀ (h : 0 < i + 1) (h' : i + 1 - 1 < T.length), pre = some T[i + 1 - 1].m) ∧ ∃ ver es clock, θ''[b]? = some (.map ver es clock) ∧ MapB es clock (mv F) := by
        intro θ' ho' hb'
        obtain ⟨es', clock', p1, p2⟩ := mapB_put (k := T[i].m) (v := iv (v - T[i].n)) hm hb'
        refine ⟨_, ?_, p1, ho'.set (by omega), updF F T[i], some T[i].m, hG6, fun _ _ => rfl, ver + 1, es', clock', get_set hb', ?_⟩
        · rw [map_get hm.m hb', hFx]; rfl
        · rw [← mv_upd] at p2
          have : updF F T[i] = fun k' => if k' = T[i].m then some (v - T[i].n) else F k' := by
            funext k; unfold updF; rw [hG2]; rfl
          rw [this]; exact p2
      have ws : IntKind.wrap .i64 (v - T[i].n) = v - T[i].n := wrap64 (by omega) (by omega)
      by_cases hi0 : 0 < i
      case neg =>
        have di : decide ((0:Int) < (i:Int)) = false := by rw [decide_eq_false]; omega
        obtain ⟨θ'', m1, m2, m3, m4⟩ := last (ap θ [.cells 1 (trnV T[i]) (0, 0)]) (hoθ.trans .ap) ((ap_old z1).trans q1)
        simp only [trnV] at m1 m2
        simp only [↓eD0, ↓eD1, eC0, eC1, eC2, eC3, eC4, eC5, eC6, wantedE, ↓reduceIte, Nat.reduceEqDiff, Option.map_some, Option.map_none, reread, List.nil_append, List.cons_append, List.map_cons, List.map_nil, List.length_nil, List.length_cons, Value.cells, List.getElem?_cons_zero, List.getElem?_cons_succ, outE, lks, lkR, rdV, neg1, evs, opt, Nat.reduceAdd, Nat.reduceMul, and_self, reduceCtorEq, List.size_toArray, List.all_cons, List.all_nil, Value.oneCell', List.set_cons_zero, List.set_cons_succ, sets, fillL, Nat.reduceLeDiff, List.drop_succ_cons, List.drop_zero, List.take_succ_cons, List.take_zero, List.toList_toArray, argsE, Array.append_empty, Array.empty_append, List.getElem?_toArray, Int.reduceLT, Int.reduceLE, Int.reduceToNat, Int.reduceEq, Nat.reduceLT, dl, hb, Int.toNat_natCast, g3, trnV, di, undef_eq, m1, ws, m2, hw]
        exact ⟨hlt, by omega, m3, m4⟩
      have di : decide ((0:Int) < (i:Int)) = true := by rw [decide_eq_true]; omega
      have wi : IntKind.wrap .i64 ((i:Int) - 1) = ((i - 1 : Nat) : Int) := by rw [wrap64 (by omega) (by omega)]; omega
      have hbi : (0:Int) ≤ ((i - 1 : Nat):Int) ∧ ((i - 1 : Nat):Int) < (T.length : Int) := by omega
      have hx' : (T.map trnV)[i - 1]? = some (trnV T[i - 1]) := by rw [List.getElem?_map, List.getElem?_eq_getElem (by omega)]; rfl
      have g4 : ∀ l, rd1 (ap θ l) ⟨b2, off + (i - 1) * 2, none⟩ = some (.int .i64 T[i - 1].m) := fun l => by
        obtain ⟨b3, off3, hb3, h3⟩ := hT.at hx'
        injection hb3 with hb3
        injection hb3 with hb3 hb4
        subst hb3 hb4
        exact rd1_row (rdN_Old (hoθ.trans .ap) h3) (j := 0) rfl
      by_cases hsame : T[i - 1].m = T[i].m
      case neg =>
        have ds : decide (T[i - 1].m = T[i].m) = false := by simpa using hsame
        obtain ⟨θ'', m1, m2, m3, m4⟩ := last (ap θ [.cells 1 (trnV T[i]) (0, 0)]) (hoθ.trans .ap) ((ap_old z1).trans q1)
        simp only [trnV] at m1 m2
        simp only [↓eD0, ↓eD1, eC0, eC1, eC2, eC3, eC4, eC5, eC6, wantedE, ↓reduceIte, Nat.reduceEqDiff, Option.map_some, Option.map_none, reread, List.nil_append, List.cons_append, List.map_cons, List.map_nil, List.length_nil, List.length_cons, Value.cells, List.getElem?_cons_zero, List.getElem?_cons_succ, outE, lks, lkR, rdV, neg1, evs, opt, Nat.reduceAdd, Nat.reduceMul, and_self, reduceCtorEq, List.size_toArray, List.all_cons, List.all_nil, Value.oneCell', List.set_cons_zero, List.set_cons_succ, sets, fillL, Nat.reduceLeDiff, List.drop_succ_cons, List.drop_zero, List.take_succ_cons, List.take_zero, List.toList_toArray, argsE, Array.append_empty, Array.empty_append, List.getElem?_toArray, Int.reduceLT, Int.reduceLE, Int.reduceToNat, Int.reduceEq, Nat.reduceLT, dl, hb, Int.toNat_natCast, g3, trnV, di, wi, hbi, g4, ds, undef_eq, m1, ws, m2, hw]
        exact ⟨hlt, by omega, m3, m4⟩
      have ds : decide (T[i - 1].m = T[i].m) = true := by simpa using hsame
      have hall := hG1 (by rw [hpre hi0 (by omega), hsame])
      have rg : rangeV (.map (some b)) (ap θ [.cells 1 (trnV T[i]) (0, 0)]) = some (.pointer (some ⟨θ.size + 1, 0, none⟩), ap θ [.cells 1 (trnV T[i]) (0, 0), .miter 0 (some b) clock #[] clock]) := by
        rw [range_step ((ap_old z1).trans q1), ap_size, show ∀ (σ : H) k, σ.push k = ap σ [k] from fun σ k => by simp [ap], ap_ap]
        rfl
      simp only [trnV] at rg
      simp only [↓eD0, ↓eD1, eC0, eC1, eC2, eC3, eC4, eC5, eC6, wantedE, ↓reduceIte, Nat.reduceEqDiff, Option.map_some, Option.map_none, reread, List.nil_append, List.cons_append, List.map_cons, List.map_nil, List.length_nil, List.length_cons, Value.cells, List.getElem?_cons_zero, List.getElem?_cons_succ, outE, lks, lkR, rdV, neg1, evs, opt, Nat.reduceAdd, Nat.reduceMul, and_self, reduceCtorEq, List.size_toArray, List.all_cons, List.all_nil, Value.oneCell', List.set_cons_zero, List.set_cons_succ, sets, fillL, Nat.reduceLeDiff, List.drop_succ_cons, List.drop_zero, List.take_succ_cons, List.take_zero, List.toList_toArray, argsE, Array.append_empty, Array.empty_append, List.getElem?_toArray, Int.reduceLT, Int.reduceLE, Int.reduceToNat, Int.reduceEq, Nat.reduceLT, dl, hb, Int.toNat_natCast, g3, trnV, di, wi, hbi, g4, ds, undef_eq, rg, Option.bind_some]
      generalize hθ1 : ap θ [.cells 1 [.int .i64 T[i].m, .int .i64 T[i].n] (0, 0), .miter 0 (some b) clock #[] clock] = θ1
      have o1 : Old τ θ1 := hθ1 ▸ hoθ.trans .ap
      have x1 : θ1[b]? = some (.map ver es clock) := by rw [← hθ1]; exact (ap_old z1).trans q1
      have x2 : θ1[θ.size]? = some (.cells 1 [.int .i64 T[i].m, .int .i64 T[i].n] (0, 0)) := by rw [← hθ1]; exact ap_new0
      have x3 : θ1[θ.size + 1]? = some (.miter 0 (some b) clock #[] clock) := by rw [← hθ1]; exact ap_new
      clear hθ1
      refine loop_of (fun m e θ' => ∃ ver' seen, m = (leftV es seen).size ∧ e = [(5, .slice (some ⟨b2, off, none⟩) T.length tc), (6, .map (some b)), (12, .pointer (some ⟨θ.size, 0, none⟩)), (58, .slice (some ⟨b2, off, none⟩) T.length tc), (59, .int .i64 T.length), (60, .int .i64 i), (79, .pointer (some ⟨θ.size + 1, 0, none⟩))] ∧
          Old τ θ' ∧ θ'[b]? = some (.map ver es clock) ∧ θ'[θ.size]? = some (.cells 1 [.int .i64 T[i].m, .int .i64 T[i].n] (0, 0)) ∧ θ'[θ.size + 1]? = some (.miter ver' (some b) clock seen clock)) (leftV es #[]).size
        ⟨0, #[], rfl, rfl, o1, x1, x2, x3⟩ ?_
      clear x1 x2 x3 o1
      rintro m e θ' ⟨ver', seen, rfl, rfl, o1, x1, x2, x3⟩
      obtain ⟨l, n1, n2⟩ := next_step (σ := θ') x3 x1 hm.born (Nat.le_refl _)
      have y2 := (Array.getElem?_eq_some_iff.1 x2).1
      have rb : ∀ l, rd1 (ap θ' l) ⟨θ.size, 0, none⟩ = some (.int .i64 T[i].m) := fun l => by rw [rd1_eq, ap_old y2, x2]; rfl
      have rb2 : ∀ l, rd1 (ap θ' l) ⟨θ.size, 1, none⟩ = some (.int .i64 T[i].n) := fun l => by rw [rd1_eq, ap_old y2, x2]; rfl
      obtain ⟨θ'', m1, m2, m3, m4⟩ := last θ' o1 x1
      simp only [↓eD0, ↓eD1, eC0, eC1, eC2, eC3, eC4, eC5, eC6, wantedE, ↓reduceIte, Nat.reduceEqDiff, Option.map_some, Option.map_none, reread, List.nil_append, List.cons_append, List.map_cons, List.map_nil, List.length_nil, List.length_cons, Value.cells, List.getElem?_cons_zero, List.getElem?_cons_succ, outE, lks, lkR, rdV, neg1, evs, opt, Nat.reduceAdd, Nat.reduceMul, and_self, reduceCtorEq, List.size_toArray, List.all_cons, List.all_nil, Value.oneCell', List.set_cons_zero, List.set_cons_succ, sets, fillL, Nat.reduceLeDiff, List.drop_succ_cons, List.drop_zero, List.take_succ_cons, List.take_zero, List.toList_toArray, argsE, Array.append_empty, Array.empty_append, List.getElem?_toArray, Int.reduceLT, Int.reduceLE, Int.reduceToNat, Int.reduceEq, Nat.reduceLT, n1, Option.bind_some]
      refine anyK_of fun x hx => ?_
      rcases n2 x hx with rfl | ⟨e0, he0, hlt0, rfl⟩
      · rw [← ap_nil (σ := θ')] at m1 m2 ⊢
        simp only [↓eD0, ↓eD1, eC0, eC1, eC2, eC3, eC4, eC5, eC6, wantedE, ↓reduceIte, Nat.reduceEqDiff, Option.map_some, Option.map_none, reread, List.nil_append, List.cons_append, List.map_cons, List.map_nil, List.length_nil, List.length_cons, Value.cells, List.getElem?_cons_zero, List.getElem?_cons_succ, outE, lks, lkR, rdV, neg1, evs, opt, Nat.reduceAdd, Nat.reduceMul, and_self, reduceCtorEq, List.size_toArray, List.all_cons, List.all_nil, Value.oneCell', List.set_cons_zero, List.set_cons_succ, sets, fillL, Nat.reduceLeDiff, List.drop_succ_cons, List.drop_zero, List.take_succ_cons, List.take_zero, List.toList_toArray, argsE, Array.append_empty, Array.empty_append, List.getElem?_toArray, Int.reduceLT, Int.reduceLE, Int.reduceToNat, Int.reduceEq, Nat.reduceLT, rb, rb2, m1, ws, m2, hw]
        exact ⟨hlt, by omega, m3, m4⟩
      · have hbm : b ≠ θ.size + 1 := by have := z1; omega
        have w1 : (θ'.setIfInBounds (θ.size + 1) (.miter (ver' + 1) (some b) clock (seen.push e0.born) clock))[b]? = some (.map ver es clock) := (get_set_ne (Ne.symm hbm)).trans x1
        have w3 : (θ'.setIfInBounds (θ.size + 1) (.miter (ver' + 1) (some b) clock (seen.push e0.born) clock))[θ.size + 1]? = some (.miter (ver' + 1) (some b) clock (seen.push e0.born) clock) := get_set x3
        have w2 : (θ'.setIfInBounds (θ.size + 1) (.miter (ver' + 1) (some b) clock (seen.push e0.born) clock))[θ.size]? = some (.cells 1 [.int .i64 T[i].m, .int .i64 T[i].n] (0, 0)) := (get_set_ne (by omega)).trans x2
        have w0 : Old τ (θ'.setIfInBounds (θ.size + 1) (.miter (ver' + 1) (some b) clock (seen.push e0.born) clock)) := o1.set (by have := hoθ.1; omega)
        generalize θ'.setIfInBounds (θ.size + 1) (.miter (ver' + 1) (some b) clock (seen.push e0.born) clock) = θ2 at w0 w1 w2 w3
        obtain ⟨e1, he1, hen⟩ := entry_step w3 w1 he0 rfl
        obtain ⟨k, hk1, hk2⟩ := hm.at he1
        have hkv : ∃ u, F k = some u ∧ e1.val = .int .i64 u := by
          unfold mv at hk2
          cases hfk : F k with
          | none => rw [hfk] at hk2; cases hk2
          | some u => rw [hfk] at hk2; injection hk2 with hk2; exact ⟨u, rfl, hk2.symm⟩
        obtain ⟨u, hu1, hu2⟩ := hkv
        rw [hk1, hu2] at hen
        have rb : rd1 θ2 ⟨θ.size, 0, none⟩ = some (.int .i64 T[i].m) := by rw [rd1_eq, w2]; rfl
        by_cases hkm : k = T[i].m
        · have dk : decide (k = T[i].m) = true := by simpa using hkm
          simp only [↓eD0, ↓eD1, eC0, eC1, eC2, eC3, eC4, eC5, eC6, wantedE, ↓reduceIte, Nat.reduceEqDiff, Option.map_some, Option.map_none, reread, List.nil_append, List.cons_append, List.map_cons, List.map_nil, List.length_nil, List.length_cons, Value.cells, List.getElem?_cons_zero, List.getElem?_cons_succ, outE, lks, lkR, rdV, neg1, evs, opt, Nat.reduceAdd, Nat.reduceMul, and_self, reduceCtorEq, List.size_toArray, List.all_cons, List.all_nil, Value.oneCell', List.set_cons_zero, List.set_cons_succ, sets, fillL, Nat.reduceLeDiff, List.drop_succ_cons, List.drop_zero, List.take_succ_cons, List.take_zero, List.toList_toArray, argsE, Array.append_empty, Array.empty_append, List.getElem?_toArray, Int.reduceLT, Int.reduceLE, Int.reduceToNat, Int.reduceEq, Nat.reduceLT, hen, Option.bind_some, rb, dk, undef_eq]
          exact ⟨_, hlt0, ver' + 1, seen.push e0.born, rfl, w0, w1, w2, w3⟩
        · have dk : decide (k = T[i].m) = false := by simpa using hkm
          have hu0 := hall k u hkm hu1
          have du : decide (0 < u) = false := by rw [decide_eq_false]; omega
          simp only [↓eD0, ↓eD1, eC0, eC1, eC2, eC3, eC4, eC5, eC6, wantedE, ↓reduceIte, Nat.reduceEqDiff, Option.map_some, Option.map_none, reread, List.nil_append, List.cons_append, List.map_cons, List.map_nil, List.length_nil, List.length_cons, Value.cells, List.getElem?_cons_zero, List.getElem?_cons_succ, outE, lks, lkR, rdV, neg1, evs, opt, Nat.reduceAdd, Nat.reduceMul, and_self, reduceCtorEq, List.size_toArray, List.all_cons, List.all_nil, Value.oneCell', List.set_cons_zero, List.set_cons_succ, sets, fillL, Nat.reduceLeDiff, List.drop_succ_cons, List.drop_zero, List.take_succ_cons, List.take_zero, List.toList_toArray, argsE, Array.append_empty, Array.empty_append, List.getElem?_toArray, Int.reduceLT, Int.reduceLE, Int.reduceToNat, Int.reduceEq, Nat.reduceLT, hen, Option.bind_some, rb, dk, du, undef_eq]
          exact ⟨_, hlt0, ver' + 1, seen.push e0.born, rfl, w0, w1, w2, w3⟩
    · have : i = T.length := by omega
      subst this
      have dl : decide ((T.length:Int) < (T.length : Int)) = false := by simp
      rw [List.drop_length] at hG
      have rg : rangeV (.map (some b)) (ap θ []) = some (.pointer (some ⟨θ.size, 0, none⟩), ap θ [.miter 0 (some b) clock #[] clock]) := by
        rw [range_step ((ap_old z1).trans q1), ap_size, show ∀ (σ : H) k, σ.push k = ap σ [k] from fun σ k => by simp [ap], ap_ap]
        rfl
      simp only [↓eD0, ↓eD1, eC0, eC1, eC2, eC3, eC4, eC5, eC6, wantedE, ↓reduceIte, Nat.reduceEqDiff, Option.map_some, Option.map_none, reread, List.nil_append, List.cons_append, List.map_cons, List.map_nil, List.length_nil, List.length_cons, Value.cells, List.getElem?_cons_zero, List.getElem?_cons_succ, outE, lks, lkR, rdV, neg1, evs, opt, Nat.reduceAdd, Nat.reduceMul, and_self, reduceCtorEq, List.size_toArray, List.all_cons, List.all_nil, Value.oneCell', List.set_cons_zero, List.set_cons_succ, sets, fillL, Nat.reduceLeDiff, List.drop_succ_cons, List.drop_zero, List.take_succ_cons, List.take_zero, List.toList_toArray, argsE, Array.append_empty, Array.empty_append, List.getElem?_toArray, Int.reduceLT, Int.reduceLE, Int.reduceToNat, Int.reduceEq, Nat.reduceLT, dl, rg, Option.bind_some]
      generalize hθ1 : ap θ [.miter 0 (some b) clock #[] clock] = θ1
      have o1 : Old τ θ1 := hθ1 ▸ hoθ.trans .ap
      have x1 : θ1[b]? = some (.map ver es clock) := by rw [← hθ1]; exact (ap_old z1).trans q1
      have x3 : θ1[θ.size]? = some (.miter 0 (some b) clock #[] clock) := by rw [← hθ1]; exact ap_new0
      clear hθ1
      refine loop_of (fun m e θ' => ∃ ver' seen, m = (leftV es seen).size ∧ e = [(102, .pointer (some ⟨θ.size, 0, none⟩))] ∧
          Old τ θ' ∧ θ'[b]? = some (.map ver es clock) ∧ θ'[θ.size]? = some (.miter ver' (some b) clock seen clock)) (leftV es #[]).size
        ⟨0, #[], rfl, rfl, o1, x1, x3⟩ ?_
      clear x1 x3 o1
      rintro m e θ' ⟨ver', seen, rfl, rfl, o1, x1, x3⟩
      obtain ⟨l, n1, n2⟩ := next_step (σ := θ') x3 x1 hm.born (Nat.le_refl _)
      simp only [↓eD0, ↓eD1, eC0, eC1, eC2, eC3, eC4, eC5, eC6, wantedE, ↓reduceIte, Nat.reduceEqDiff, Option.map_some, Option.map_none, reread, List.nil_append, List.cons_append, List.map_cons, List.map_nil, List.length_nil, List.length_cons, Value.cells, List.getElem?_cons_zero, List.getElem?_cons_succ, outE, lks, lkR, rdV, neg1, evs, opt, Nat.reduceAdd, Nat.reduceMul, and_self, reduceCtorEq, List.size_toArray, List.all_cons, List.all_nil, Value.oneCell', List.set_cons_zero, List.set_cons_succ, sets, fillL, Nat.reduceLeDiff, List.drop_succ_cons, List.drop_zero, List.take_succ_cons, List.take_zero, List.toList_toArray, argsE, Array.append_empty, Array.empty_append, List.getElem?_toArray, Int.reduceLT, Int.reduceLE, Int.reduceToNat, Int.reduceEq, Nat.reduceLT, n1, Option.bind_some]
      refine anyK_of fun x hx => ?_
      rcases n2 x hx with rfl | ⟨e0, he0, hlt0, rfl⟩
      · simp only [↓eD0, ↓eD1, eC0, eC1, eC2, eC3, eC4, eC5, eC6, wantedE, ↓reduceIte, Nat.reduceEqDiff, Option.map_some, Option.map_none, reread, List.nil_append, List.cons_append, List.map_cons, List.map_nil, List.length_nil, List.length_cons, Value.cells, List.getElem?_cons_zero, List.getElem?_cons_succ, outE, lks, lkR, rdV, neg1, evs, opt, Nat.reduceAdd, Nat.reduceMul, and_self, reduceCtorEq, List.size_toArray, List.all_cons, List.all_nil, Value.oneCell', List.set_cons_zero, List.set_cons_succ, sets, fillL, Nat.reduceLeDiff, List.drop_succ_cons, List.drop_zero, List.take_succ_cons, List.take_zero, List.toList_toArray, argsE, Array.append_empty, Array.empty_append, List.getElem?_toArray, Int.reduceLT, Int.reduceLE, Int.reduceToNat, Int.reduceEq, Nat.reduceLT]
        refine appK_of sanity_app ?_
        rintro _ _ ⟨e2, rfl⟩
        rw [e2]
        clear e2
        simp only [↓eD0, ↓eD1, eC0, eC1, eC2, eC3, eC4, eC5, eC6, wantedE, ↓reduceIte, Nat.reduceEqDiff, Option.map_some, Option.map_none, reread, List.nil_append, List.cons_append, List.map_cons, List.map_nil, List.length_nil, List.length_cons, Value.cells, List.getElem?_cons_zero, List.getElem?_cons_succ, outE, lks, lkR, rdV, neg1, evs, opt, Nat.reduceAdd, Nat.reduceMul, and_self, reduceCtorEq, List.size_toArray, List.all_cons, List.all_nil, Value.oneCell', List.set_cons_zero, List.set_cons_succ, sets, fillL, Nat.reduceLeDiff, List.drop_succ_cons, List.drop_zero, List.take_succ_cons, List.take_zero, List.toList_toArray, argsE, Array.append_empty, Array.empty_append, List.getElem?_toArray, Int.reduceLT, Int.reduceLE, Int.reduceToNat, Int.reduceEq, Nat.reduceLT]
        exact ho.trans o1
      · have hbm : b ≠ θ.size := by have := z1; omega
        have w1 : (θ'.setIfInBounds θ.size (.miter (ver' + 1) (some b) clock (seen.push e0.born) clock))[b]? = some (.map ver es clock) := (get_set_ne (Ne.symm hbm)).trans x1
        have w3 : (θ'.setIfInBounds θ.size (.miter (ver' + 1) (some b) clock (seen.push e0.born) clock))[θ.size]? = some (.miter (ver' + 1) (some b) clock (seen.push e0.born) clock) := get_set x3
        have w0 : Old τ (θ'.setIfInBounds θ.size (.miter (ver' + 1) (some b) clock (seen.push e0.born) clock)) := o1.set hoθ.1
        generalize θ'.setIfInBounds θ.size (.miter (ver' + 1) (some b) clock (seen.push e0.born) clock) = θ2 at w0 w1 w3
        obtain ⟨e1, he1, hen⟩ := entry_step w3 w1 he0 rfl
        obtain ⟨k, hk1, hk2⟩ := hm.at he1
        have hkv : e1.val = .int .i64 0 := by
          unfold mv at hk2
          cases hfk : F k with
          | none => rw [hfk] at hk2; cases hk2
          | some u => rw [hfk] at hk2; injection hk2 with hk2; rw [← hk2, hG k u hfk]; rfl
        rw [hk1, hkv] at hen
        have d0 : decide ((0:Int) = 0) = true := by simp
        simp only [↓eD0, ↓eD1, eC0, eC1, eC2, eC3, eC4, eC5, eC6, wantedE, ↓reduceIte, Nat.reduceEqDiff, Option.map_some, Option.map_none, reread, List.nil_append, List.cons_append, List.map_cons, List.map_nil, List.length_nil, List.length_cons, Value.cells, List.getElem?_cons_zero, List.getElem?_cons_succ, outE, lks, lkR, rdV, neg1, evs, opt, Nat.reduceAdd, Nat.reduceMul, and_self, reduceCtorEq, List.size_toArray, List.all_cons, List.all_nil, Value.oneCell', List.set_cons_zero, List.set_cons_succ, sets, fillL, Nat.reduceLeDiff, List.drop_succ_cons, List.drop_zero, List.take_succ_cons, List.take_zero, List.toList_toArray, argsE, Array.append_empty, Array.empty_append, List.getElem?_toArray, Int.reduceLT, Int.reduceLE, Int.reduceToNat, Int.reduceEq, Nat.reduceLT, hen, Option.bind_some, d0]
        exact ⟨_, hlt0, ver' + 1, seen.push e0.born, rfl, w0, w1, w3⟩
end Go.Proofs.Ytimcgoghjebalaa
