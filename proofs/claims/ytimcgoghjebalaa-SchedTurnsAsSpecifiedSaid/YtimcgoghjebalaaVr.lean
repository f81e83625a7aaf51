/- Walks and plain laws. Conditions: none. -/
import Derived.Test.YtimcgoghjebalaaVp
set_option linter.all false
set_option linter.unusedSimpArgs false
set_option linter.unusedVariables false
set_option maxRecDepth 10000
set_option maxHeartbeats 1000000
namespace Go.Proofs.Ytimcgoghjebalaa
open Go Go.Cn Go.RowKit

theorem cnt_app {q : Int} {a b : List Por} : cnt q (a ++ b) = cnt q a + cnt q b := by
  induction a with
  | nil => simp [cnt]
  | cons p a ih => simp only [List.cons_append, cnt, ih]; omega
theorem cntP_le {q : Int} {p : Por} (hq : 1 ≤ q) (h : Amt p.st) : (cntP q p : Int) = (if 0 < p.st then (p.st - 1) / q + 1 else 0) ∧ cntP q p ≤ 1073741824 := by
  have h0 := h.1
  have h1 := h.2
  have e3 : (p.st + q - 1) / q = (p.st - 1) / q + 1 := by
    rw [show p.st + q - 1 = (p.st - 1) + 1 * q by omega, Int.add_mul_ediv_right _ _ (by omega)]
  have key : (cntP q p : Int) = (if 0 < p.st then (p.st - 1) / q + 1 else 0) := by
    unfold cntP
    split
    · rename_i hp
      have : 0 ≤ (p.st - 1) / q := Int.ediv_nonneg (by omega) (by omega)
      rw [e3]; omega
    · have : p.st = 0 := by omega
      rw [this, Int.ediv_eq_zero_of_lt (by omega) (by omega)]; rfl
  refine ⟨key, ?_⟩
  have : (cntP q p : Int) ≤ 1073741824 := by
    rw [key]
    split
    · have h2 : (p.st - 1) / q ≤ p.st - 1 := Int.ediv_le_self _ (by omega)
      omega
    · omega
  omega
theorem cnt_le {q : Int} (hq : 1 ≤ q) : ∀ {L : List Por}, (∀ p ∈ L, Amt p.st) → cnt q L ≤ L.length * 1073741824
  | [], _ => by simp [cnt]
  | p :: r, h => by
    have h1 := (cntP_le hq (h p (by simp))).2
    have h2 := cnt_le (L := r) hq fun x hx => h x (by simp [hx])
    simp only [cnt, List.length_cons, Nat.add_mul]
    omega
def allAmt (L : List Por) : Bool := L.all fun p => decide (Amt p.st)
def roundsF (q : Int) (L : List Por) : Int := if q < 1 ∨ 32 < L.length then -1 else if allAmt L = true then (if 10000 < cnt q L then -1 else cnt q L) else -1

theorem rounds_app {σ : H} {L : List Por} {lv : Value} {q : Int} (hr : Row σ 3 lv (L.map porV)) :
    App Try.prog (.func 10) #[] #[lv, .int .i64 q] σ fun v σ' => σ' = σ ∧ v = .int .i64 (roundsF q L) := by
  refine App.forget (App.of_sem mixed Try.func10 t10 k10 r10 (Nat.le_of_ble_eq_true rfl) ?_)
  obtain ⟨base, cp, rfl⟩ := hr.slice
  simp only [List.length_map] at hr ⊢
  rw [← ap_nil (σ := σ)]
  unfold s10
  by_cases hq : q < 1
  · have d0 : decide (q < 1) = true := by simpa using hq
    simp only [↓eD0, ↓eD1, eC0, eC1, eC2, eC3, eC4, eC5, eC6, wantedE, ↓reduceIte, Nat.reduceEqDiff, Option.map_some, Option.map_none, reread, List.nil_append, List.cons_append, List.map_cons, List.map_nil, List.length_nil, List.length_cons, Value.cells, List.getElem?_cons_zero, List.getElem?_cons_succ, outE, lks, lkR, rdV, neg1, evs, opt, Nat.reduceAdd, Nat.reduceMul, and_self, reduceCtorEq, List.size_toArray, List.all_cons, List.all_nil, Value.oneCell', List.set_cons_zero, List.set_cons_succ, sets, fillL, Nat.reduceLeDiff, List.drop_succ_cons, List.drop_zero, List.take_succ_cons, List.take_zero, List.toList_toArray, argsE, Array.append_empty, Array.empty_append, List.getElem?_toArray, Int.reduceLT, Int.reduceLE, Int.reduceToNat, Int.reduceEq, Nat.reduceLT, d0, undef_eq]
    exact ⟨.ap, by rw [roundsF, if_pos (.inl hq)]; exact ⟨rfl, rfl⟩⟩
  have d0 : decide (q < 1) = false := by simpa using hq
  by_cases hlen : 32 < L.length
  · have d1 : decide ((32:Int) < (L.length:Int)) = true := by rw [decide_eq_true]; omega
    simp only [↓eD0, ↓eD1, eC0, eC1, eC2, eC3, eC4, eC5, eC6, wantedE, ↓reduceIte, Nat.reduceEqDiff, Option.map_some, Option.map_none, reread, List.nil_append, List.cons_append, List.map_cons, List.map_nil, List.length_nil, List.length_cons, Value.cells, List.getElem?_cons_zero, List.getElem?_cons_succ, outE, lks, lkR, rdV, neg1, evs, opt, Nat.reduceAdd, Nat.reduceMul, and_self, reduceCtorEq, List.size_toArray, List.all_cons, List.all_nil, Value.oneCell', List.set_cons_zero, List.set_cons_succ, sets, fillL, Nat.reduceLeDiff, List.drop_succ_cons, List.drop_zero, List.take_succ_cons, List.take_zero, List.toList_toArray, argsE, Array.append_empty, Array.empty_append, List.getElem?_toArray, Int.reduceLT, Int.reduceLE, Int.reduceToNat, Int.reduceEq, Nat.reduceLT, d0, d1, undef_eq]
    exact ⟨.ap, by rw [roundsF, if_pos (.inr hlen)]; exact ⟨rfl, rfl⟩⟩
  have d1 : decide ((32:Int) < (L.length:Int)) = false := by rw [decide_eq_false]; omega
  have hrf : roundsF q L = if allAmt L = true then (if 10000 < cnt q L then (-1 : Int) else (cnt q L : Int)) else (-1 : Int) := by rw [roundsF, if_neg (by omega)]
  have hq0 : ¬ q = 0 := by omega
  simp only [↓eD0, ↓eD1, eC0, eC1, eC2, eC3, eC4, eC5, eC6, wantedE, ↓reduceIte, Nat.reduceEqDiff, Option.map_some, Option.map_none, reread, List.nil_append, List.cons_append, List.map_cons, List.map_nil, List.length_nil, List.length_cons, Value.cells, List.getElem?_cons_zero, List.getElem?_cons_succ, outE, lks, lkR, rdV, neg1, evs, opt, Nat.reduceAdd, Nat.reduceMul, and_self, reduceCtorEq, List.size_toArray, List.all_cons, List.all_nil, Value.oneCell', List.set_cons_zero, List.set_cons_succ, sets, fillL, Nat.reduceLeDiff, List.drop_succ_cons, List.drop_zero, List.take_succ_cons, List.take_zero, List.toList_toArray, argsE, Array.append_empty, Array.empty_append, List.getElem?_toArray, Int.reduceLT, Int.reduceLE, Int.reduceToNat, Int.reduceEq, Nat.reduceLT, d0, d1, undef_eq]
  refine loop_for (J := fun i e τ => i ≤ L.length ∧ Old σ τ ∧ (∀ p ∈ L.take i, Amt p.st) ∧ e = [(0, .slice base L.length cp), (1, .int .i64 q), (5, .int .i64 (cnt q (L.take i))), (6, .int .i64 i)]) L.length
    ⟨by omega, .ap, by simp, rfl⟩ ?_
  rintro i e τ hi ⟨_, ho, hA, rfl⟩
  rw [← ap_nil (σ := τ)]
  by_cases hlt : i < L.length
  · have dl : decide ((i:Int) < (L.length : Int)) = true := by simpa using hlt
    have hx : (L.map porV)[i]? = some (porV L[i]) := by simp [hlt]
    obtain ⟨b, off, rfl, h1⟩ := hr.at hx
    have g3 : ∀ l, rd1 (ap τ l) ⟨b, off + i * 3 + 1, none⟩ = some (.int .i64 L[i].st) := fun l => rd1_row (rdN_Old (ho.trans .ap) h1) (j := 1) rfl
    have hb : (0:Int) ≤ (i:Int) ∧ (i:Int) < (L.length : Int) := by omega
    have hw : IntKind.wrap .i64 ((i:Int) + 1) = ((i + 1 : Nat) : Int) := by rw [wrap64 (by omega) (by omega)]; omega
    have tk : L.take (i + 1) = L.take i ++ [L[i]] := List.take_succ_eq_append_getElem hlt
    simp only [↓eD0, ↓eD1, eC0, eC1, eC2, eC3, eC4, eC5, eC6, wantedE, ↓reduceIte, Nat.reduceEqDiff, Option.map_some, Option.map_none, reread, List.nil_append, List.cons_append, List.map_cons, List.map_nil, List.length_nil, List.length_cons, Value.cells, List.getElem?_cons_zero, List.getElem?_cons_succ, outE, lks, lkR, rdV, neg1, evs, opt, Nat.reduceAdd, Nat.reduceMul, and_self, reduceCtorEq, List.size_toArray, List.all_cons, List.all_nil, Value.oneCell', List.set_cons_zero, List.set_cons_succ, sets, fillL, Nat.reduceLeDiff, List.drop_succ_cons, List.drop_zero, List.take_succ_cons, List.take_zero, List.toList_toArray, argsE, Array.append_empty, Array.empty_append, List.getElem?_toArray, Int.reduceLT, Int.reduceLE, Int.reduceToNat, Int.reduceEq, Nat.reduceLT, dl, hb, Int.toNat_natCast, g3]
    refine appK_of amount_app ?_
    rintro _ _ ⟨e2, rfl⟩
    rw [e2]
    clear e2
    by_cases ha : Amt L[i].st
    case neg =>
      have da : decide (Amt L[i].st) = false := by simpa using ha
      simp only [↓eD0, ↓eD1, eC0, eC1, eC2, eC3, eC4, eC5, eC6, wantedE, ↓reduceIte, Nat.reduceEqDiff, Option.map_some, Option.map_none, reread, List.nil_append, List.cons_append, List.map_cons, List.map_nil, List.length_nil, List.length_cons, Value.cells, List.getElem?_cons_zero, List.getElem?_cons_succ, outE, lks, lkR, rdV, neg1, evs, opt, Nat.reduceAdd, Nat.reduceMul, and_self, reduceCtorEq, List.size_toArray, List.all_cons, List.all_nil, Value.oneCell', List.set_cons_zero, List.set_cons_succ, sets, fillL, Nat.reduceLeDiff, List.drop_succ_cons, List.drop_zero, List.take_succ_cons, List.take_zero, List.toList_toArray, argsE, Array.append_empty, Array.empty_append, List.getElem?_toArray, Int.reduceLT, Int.reduceLE, Int.reduceToNat, Int.reduceEq, Nat.reduceLT, da]
      refine ⟨ho.trans .ap, ?_⟩
      rw [hrf, if_neg (fun h => ha (by simpa using List.all_eq_true.1 h L[i] (by simp)))]
      exact ⟨rfl, rfl⟩
    have da : decide (Amt L[i].st) = true := by simpa using ha
    have hA' : ∀ p ∈ L.take (i + 1), Amt p.st := by
      rw [tk]
      intro p hp
      rcases List.mem_append.1 hp with hp | hp
      · exact hA p hp
      · rw [List.mem_singleton] at hp; rw [hp]; exact ha
    obtain ⟨k1, k2⟩ := cntP_le (q := q) (p := L[i]) (by omega) ha
    have hcl := cnt_le (q := q) (by omega) hA
    have hlt2 : (L.take i).length ≤ 32 := by simp; omega
    have hcl2 : cnt q (L.take i) ≤ 32 * 1073741824 := Nat.le_trans hcl (Nat.mul_le_mul_right _ hlt2)
    have hcs : cnt q (L.take (i + 1)) = cnt q (L.take i) + cntP q L[i] := by rw [tk, cnt_app]; simp [cnt]
    have ha1 := ha.1
    have ha2 := ha.2
    by_cases hp : 0 < L[i].st
    · have dp : decide (0 < L[i].st) = true := by simpa using hp
      rw [if_pos hp] at k1
      have w1 : IntKind.wrap .i64 (L[i].st - 1) = L[i].st - 1 := wrap64 (by omega) (by omega)
      have w2 : (L[i].st - 1).tdiv q = (L[i].st - 1) / q := Int.tdiv_eq_ediv_of_nonneg (by omega)
      have w3 : IntKind.wrap .i64 ((L[i].st - 1) / q) = (L[i].st - 1) / q := wrap64 (by omega) (by omega)
      have w4 : IntKind.wrap .i64 ((cnt q (L.take i) : Int) + (L[i].st - 1) / q) = (cnt q (L.take i) : Int) + (L[i].st - 1) / q := wrap64 (by omega) (by omega)
      have w5 : IntKind.wrap .i64 ((cnt q (L.take i) : Int) + (L[i].st - 1) / q + 1) = (cnt q (L.take (i + 1)) : Int) := by rw [wrap64 (by omega) (by omega)]; omega
      simp only [↓eD0, ↓eD1, eC0, eC1, eC2, eC3, eC4, eC5, eC6, wantedE, ↓reduceIte, Nat.reduceEqDiff, Option.map_some, Option.map_none, reread, List.nil_append, List.cons_append, List.map_cons, List.map_nil, List.length_nil, List.length_cons, Value.cells, List.getElem?_cons_zero, List.getElem?_cons_succ, outE, lks, lkR, rdV, neg1, evs, opt, Nat.reduceAdd, Nat.reduceMul, and_self, reduceCtorEq, List.size_toArray, List.all_cons, List.all_nil, Value.oneCell', List.set_cons_zero, List.set_cons_succ, sets, fillL, Nat.reduceLeDiff, List.drop_succ_cons, List.drop_zero, List.take_succ_cons, List.take_zero, List.toList_toArray, argsE, Array.append_empty, Array.empty_append, List.getElem?_toArray, Int.reduceLT, Int.reduceLE, Int.reduceToNat, Int.reduceEq, Nat.reduceLT, da, dp, hb, Int.toNat_natCast, g3, w1, hq0, w2, w3, w4, w5, hw]
      exact ⟨hlt, by omega, ho.trans .ap, hA'⟩
    · have dp : decide (0 < L[i].st) = false := by simpa using hp
      rw [if_neg hp] at k1
      simp only [↓eD0, ↓eD1, eC0, eC1, eC2, eC3, eC4, eC5, eC6, wantedE, ↓reduceIte, Nat.reduceEqDiff, Option.map_some, Option.map_none, reread, List.nil_append, List.cons_append, List.map_cons, List.map_nil, List.length_nil, List.length_cons, Value.cells, List.getElem?_cons_zero, List.getElem?_cons_succ, outE, lks, lkR, rdV, neg1, evs, opt, Nat.reduceAdd, Nat.reduceMul, and_self, reduceCtorEq, List.size_toArray, List.all_cons, List.all_nil, Value.oneCell', List.set_cons_zero, List.set_cons_succ, sets, fillL, Nat.reduceLeDiff, List.drop_succ_cons, List.drop_zero, List.take_succ_cons, List.take_zero, List.toList_toArray, argsE, Array.append_empty, Array.empty_append, List.getElem?_toArray, Int.reduceLT, Int.reduceLE, Int.reduceToNat, Int.reduceEq, Nat.reduceLT, da, dp, hb, Int.toNat_natCast, g3, hw]
      refine ⟨hlt, by omega, ho.trans .ap, hA', ?_⟩
      rw [hcs]
      have : cntP q L[i] = 0 := by omega
      rw [this]; rfl
  · have : i = L.length := by omega
    subst this
    have dl : decide ((L.length:Int) < (L.length : Int)) = false := by simp
    rw [List.take_length] at hA ⊢
    have hall : allAmt L = true := List.all_eq_true.2 fun p hp => by simpa using hA p hp
    rw [if_pos hall] at hrf
    by_cases hc : 10000 < cnt q L
    · have dc : decide ((10000:Int) < (cnt q L : Int)) = true := by rw [decide_eq_true]; omega
      simp only [↓eD0, ↓eD1, eC0, eC1, eC2, eC3, eC4, eC5, eC6, wantedE, ↓reduceIte, Nat.reduceEqDiff, Option.map_some, Option.map_none, reread, List.nil_append, List.cons_append, List.map_cons, List.map_nil, List.length_nil, List.length_cons, Value.cells, List.getElem?_cons_zero, List.getElem?_cons_succ, outE, lks, lkR, rdV, neg1, evs, opt, Nat.reduceAdd, Nat.reduceMul, and_self, reduceCtorEq, List.size_toArray, List.all_cons, List.all_nil, Value.oneCell', List.set_cons_zero, List.set_cons_succ, sets, fillL, Nat.reduceLeDiff, List.drop_succ_cons, List.drop_zero, List.take_succ_cons, List.take_zero, List.toList_toArray, argsE, Array.append_empty, Array.empty_append, List.getElem?_toArray, Int.reduceLT, Int.reduceLE, Int.reduceToNat, Int.reduceEq, Nat.reduceLT, dl, dc]
      exact ⟨ho.trans .ap, by rw [hrf, if_pos hc]; exact ⟨rfl, rfl⟩⟩
    · have dc : decide ((10000:Int) < (cnt q L : Int)) = false := by rw [decide_eq_false]; omega
      simp only [↓eD0, ↓eD1, eC0, eC1, eC2, eC3, eC4, eC5, eC6, wantedE, ↓reduceIte, Nat.reduceEqDiff, Option.map_some, Option.map_none, reread, List.nil_append, List.cons_append, List.map_cons, List.map_nil, List.length_nil, List.length_cons, Value.cells, List.getElem?_cons_zero, List.getElem?_cons_succ, outE, lks, lkR, rdV, neg1, evs, opt, Nat.reduceAdd, Nat.reduceMul, and_self, reduceCtorEq, List.size_toArray, List.all_cons, List.all_nil, Value.oneCell', List.set_cons_zero, List.set_cons_succ, sets, fillL, Nat.reduceLeDiff, List.drop_succ_cons, List.drop_zero, List.take_succ_cons, List.take_zero, List.toList_toArray, argsE, Array.append_empty, Array.empty_append, List.getElem?_toArray, Int.reduceLT, Int.reduceLE, Int.reduceToNat, Int.reduceEq, Nat.reduceLT, dl, dc]
      exact ⟨ho.trans .ap, by rw [hrf, if_neg hc]; exact ⟨rfl, rfl⟩⟩
end Go.Proofs.Ytimcgoghjebalaa

set_option linter.unusedSimpArgs false
set_option linter.unusedVariables false
set_option maxRecDepth 10000
set_option maxHeartbeats 1000000
namespace Go.Proofs.Ytimcgoghjebalaa
open Go Go.Cn Go.RowKit

theorem cnt_pos {q : Int} (hq : 1 ≤ q) : ∀ {L : List Por}, (∀ p ∈ L, 0 ≤ p.st) → 0 < cnt q L → roundO q L ≠ []
  | [], _, h => by simp [cnt] at h
  | p :: r, hs, h => by
    intro h0
    simp only [roundO, List.flatMap_cons, List.append_eq_nil_iff] at h0
    have hp := hs p (by simp)
    have hm := mn_le p.st q
    have hst : p.st = 0 := by
      have := h0.1
      unfold emitP at this
      split at this
      · omega
      · cases this
    have hc : cntP q p = 0 := by
      unfold cntP
      rw [hst, Int.ediv_eq_zero_of_lt (by omega) (by omega)]; rfl
    simp only [cnt, hc, Nat.zero_add] at h
    exact cnt_pos hq (fun x hx => hs x (by simp [hx])) h h0.2

theorem rturns_app {σ : H} {L0 : List Por} {lv : Value} {q : Int} (hr : Row σ 3 lv (L0.map porV)) (hq : 1 ≤ q) (hst : ∀ p ∈ L0, 0 ≤ p.st ∧ p.st ≤ 1073741824) (hn : L0.length ≤ 1000) (hc : cnt q L0 ≤ 1000000) (hrf : roundsF q L0 = cnt q L0) :
    App Try.prog (.func 14) #[] #[lv, .int .i64 q] σ fun v σ' => Old σ σ' ∧ Row σ' 2 v ((turnsF q L0).map trnV) := by
  refine App.of_sem mixed Try.func14 t14 k14 r14 (Nat.le_of_ble_eq_true rfl) ?_
  have hx0 := row_xcells hr
  obtain ⟨base, cp, rfl⟩ := hr.slice
  simp only [List.length_map] at hr hx0 ⊢
  rw [← ap_nil (σ := σ)]
  unfold s14
  simp only [↓eD0, ↓eD1, eC0, eC1, eC2, eC3, eC4, eC5, eC6, wantedE, ↓reduceIte, Nat.reduceEqDiff, Option.map_some, Option.map_none, reread, List.nil_append, List.cons_append, List.map_cons, List.map_nil, List.length_nil, List.length_cons, Value.cells, List.getElem?_cons_zero, List.getElem?_cons_succ, outE, lks, lkR, rdV, neg1, evs, opt, Nat.reduceAdd, Nat.reduceMul, and_self, reduceCtorEq, List.size_toArray, List.all_cons, List.all_nil, Value.oneCell', List.set_cons_zero, List.set_cons_succ, sets, fillL, Nat.reduceLeDiff, List.drop_succ_cons, List.drop_zero, List.take_succ_cons, List.take_zero, List.toList_toArray, argsE, Array.append_empty, Array.empty_append, List.getElem?_toArray, Int.reduceLT, Int.reduceLE, Int.reduceToNat, Int.reduceEq, Nat.reduceLT]
  have hs : (sized σ.size).size = σ.size := sized_size
  have g0 : Grown (sized σ.size) (ap σ [.cells 0 [] (0, 0)]) 3 (.slice (some ⟨σ.size, 0, none⟩) 0 0) [] 0 := Grown.lit rfl (by decide) (by rw [hs]; omega) ap_new0
  have one3 : ∀ xs : List Por, ((xs.map porV).flatten).all Value.oneCell' = true := fun xs => by
    rw [List.all_eq_true]
    intro v hv
    obtain ⟨r, hr, hv⟩ := List.mem_flatten.1 hv
    obtain ⟨c, _, rfl⟩ := List.mem_map.1 hr
    simp only [porV, List.mem_cons, List.not_mem_nil, or_false] at hv
    rcases hv with rfl | rfl | rfl <;> rfl
  have hx1 : xcells (ap σ [.cells 0 [] (0, 0)]) 3 (.slice base L0.length cp) = some (L0.length, (L0.map porV).flatten) := by
    have := row_xcells (hr.Old (Old.ap (l := [.cells 0 [] (0, 0)])))
    simpa using this
  obtain ⟨v6, τ0, ha, A0⟩ := append_grown (bytes := 24) g0 (by omega) (by rw [hs, ap_size]; omega) hx1 (by rw [flatten_length porV_rows]; simp) (one3 _) (by omega) (by omega)
  refine onV_of ha ?_
  have hH0 : Hand σ τ0 (.slice none 0 0) v6 L0 [] := ⟨A0.Old' g0 (by rw [hs]; omega) .ap, Grown.nil, by simpa using A0.grown, fun c _ h => by cases h⟩
  simp only [↓eD0, ↓eD1, eC0, eC1, eC2, eC3, eC4, eC5, eC6, wantedE, ↓reduceIte, Nat.reduceEqDiff, Option.map_some, Option.map_none, reread, List.nil_append, List.cons_append, List.map_cons, List.map_nil, List.length_nil, List.length_cons, Value.cells, List.getElem?_cons_zero, List.getElem?_cons_succ, outE, lks, lkR, rdV, neg1, evs, opt, Nat.reduceAdd, Nat.reduceMul, and_self, reduceCtorEq, List.size_toArray, List.all_cons, List.all_nil, Value.oneCell', List.set_cons_zero, List.set_cons_succ, sets, fillL, Nat.reduceLeDiff, List.drop_succ_cons, List.drop_zero, List.take_succ_cons, List.take_zero, List.toList_toArray, argsE, Array.append_empty, Array.empty_append, List.getElem?_toArray, Int.reduceLT, Int.reduceLE, Int.reduceToNat, Int.reduceEq, Nat.reduceLT]
  refine appK_of (rounds_app (hr.Old hH0.old)) ?_
  rintro _ _ ⟨e2, rfl⟩
  rw [e2, hrf]
  clear e2
  simp only [↓eD0, ↓eD1, eC0, eC1, eC2, eC3, eC4, eC5, eC6, wantedE, ↓reduceIte, Nat.reduceEqDiff, Option.map_some, Option.map_none, reread, List.nil_append, List.cons_append, List.map_cons, List.map_nil, List.length_nil, List.length_cons, Value.cells, List.getElem?_cons_zero, List.getElem?_cons_succ, outE, lks, lkR, rdV, neg1, evs, opt, Nat.reduceAdd, Nat.reduceMul, and_self, reduceCtorEq, List.size_toArray, List.all_cons, List.all_nil, Value.oneCell', List.set_cons_zero, List.set_cons_succ, sets, fillL, Nat.reduceLeDiff, List.drop_succ_cons, List.drop_zero, List.take_succ_cons, List.take_zero, List.toList_toArray, argsE, Array.append_empty, Array.empty_append, List.getElem?_toArray, Int.reduceLT, Int.reduceLE, Int.reduceToNat, Int.reduceEq, Nat.reduceLT]
  refine loop_of (fun m e τ => ∃ L O v5 f, e = [(1, .int .i64 q), (5, v5), (6, v6), (7, .int .i64 (cnt q L0))] ∧ Hand σ τ v5 v6 L O ∧ m = cnt q L ∧ (∀ p ∈ L, 0 ≤ p.st ∧ p.st ≤ 1073741824) ∧ L.length = L0.length ∧ O.length + cnt q L = cnt q L0 ∧ cnt q L < f ∧ turnsG q f L O = turnsF q L0) (cnt q L0)
    ⟨L0, [], _, cnt q L0 + 1, rfl, hH0, rfl, hst, rfl, by simp, by omega, rfl⟩ ?_
  rintro m e τ ⟨L, O, v5, f, rfl, hH, rfl, hLs, hLl, hOc, hf, hR⟩
  have hLs0 : ∀ p ∈ L, 0 ≤ p.st := fun p hp => (hLs p hp).1
  obtain ⟨bs5, cp5, rfl⟩ := hH.out.slice
  obtain ⟨bs6, cp6, rfl⟩ := hH.left.slice
  rw [← ap_nil (σ := τ)]
  obtain ⟨f, rfl⟩ : ∃ g, f = g + 1 := ⟨f - 1, by omega⟩
  rw [turnsG] at hR
  by_cases hdone : O.length < cnt q L0
  case neg =>
    have dd : decide ((O.length:Int) < (cnt q L0:Int)) = false := by rw [decide_eq_false]; omega
    have hrl := round_part (q := q) hq (L := L) L.length hLs0
    rw [List.take_length] at hrl
    have hemp : roundO q L = [] := List.length_eq_zero_iff.1 (by omega)
    rw [hemp] at hR
    have hR : O = turnsF q L0 := hR
    simp only [↓eD0, ↓eD1, eC0, eC1, eC2, eC3, eC4, eC5, eC6, wantedE, ↓reduceIte, Nat.reduceEqDiff, Option.map_some, Option.map_none, reread, List.nil_append, List.cons_append, List.map_cons, List.map_nil, List.length_nil, List.length_cons, Value.cells, List.getElem?_cons_zero, List.getElem?_cons_succ, outE, lks, lkR, rdV, neg1, evs, opt, Nat.reduceAdd, Nat.reduceMul, and_self, reduceCtorEq, List.size_toArray, List.all_cons, List.all_nil, Value.oneCell', List.set_cons_zero, List.set_cons_succ, sets, fillL, Nat.reduceLeDiff, List.drop_succ_cons, List.drop_zero, List.take_succ_cons, List.take_zero, List.toList_toArray, argsE, Array.append_empty, Array.empty_append, List.getElem?_toArray, Int.reduceLT, Int.reduceLE, Int.reduceToNat, Int.reduceEq, Nat.reduceLT, dd]
    refine ⟨hH.old.trans .ap, ?_⟩
    rw [← hR]
    have := Grown.Row (σ0 := sized σ.size) (σ := ap τ []) (rows := O.map trnV) (s := 2) (by simpa using hH.ap.out) trnV_rows
    simpa using this
  have dd : decide ((O.length:Int) < (cnt q L0:Int)) = true := by rw [decide_eq_true]; omega
  have hcr := cnt_round hq hLs0
  have hne : roundO q L ≠ [] := fun h0 => cnt_pos hq hLs0 (by omega) h0
  rw [if_neg (by simpa using hne)] at hR
  simp only [↓eD0, ↓eD1, eC0, eC1, eC2, eC3, eC4, eC5, eC6, wantedE, ↓reduceIte, Nat.reduceEqDiff, Option.map_some, Option.map_none, reread, List.nil_append, List.cons_append, List.map_cons, List.map_nil, List.length_nil, List.length_cons, Value.cells, List.getElem?_cons_zero, List.getElem?_cons_succ, outE, lks, lkR, rdV, neg1, evs, opt, Nat.reduceAdd, Nat.reduceMul, and_self, reduceCtorEq, List.size_toArray, List.all_cons, List.all_nil, Value.oneCell', List.set_cons_zero, List.set_cons_succ, sets, fillL, Nat.reduceLeDiff, List.drop_succ_cons, List.drop_zero, List.take_succ_cons, List.take_zero, List.toList_toArray, argsE, Array.append_empty, Array.empty_append, List.getElem?_toArray, Int.reduceLT, Int.reduceLE, Int.reduceToNat, Int.reduceEq, Nat.reduceLT, dd]
  refine loop_for (J := fun i e ρ => i ≤ L.length ∧ ∃ v5', e = [(1, .int .i64 q), (5, v5'), (6, .slice bs6 L.length cp6), (7, .int .i64 (cnt q L0)), (8, .int .i64 i)] ∧ Hand σ ρ v5' (.slice bs6 L.length cp6) (midL q L i) (O ++ roundO q (L.take i))) L.length
    ⟨by omega, _, rfl, by simpa [midL, roundO] using hH.ap⟩ ?_
  rintro i e ρ hi ⟨_, v5', rfl, hh⟩
  have e1 : ap ρ [] = ρ := ap_nil
  have hlm := midL_len (q := q) hi
  rw [← e1]
  by_cases hlt : i < L.length
  · have dl : decide ((i:Int) < (L.length : Int)) = true := by simpa using hlt
    have hb : (0:Int) ≤ (i:Int) ∧ (i:Int) < (L.length : Int) := by omega
    have hw : IntKind.wrap .i64 ((i:Int) + 1) = ((i + 1 : Nat) : Int) := by rw [wrap64 (by omega) (by omega)]; omega
    have hmg := midL_get (q := q) hlt
    have hrow : Row ρ 3 (.slice bs6 L.length cp6) ((midL q L i).map porV) := by
      have := Grown.Row (rows := (midL q L i).map porV) (by simpa using hh.left) porV_rows
      exact this
    obtain ⟨b, off, hbo, h1⟩ := hrow.at (i := i) (x := porV L[i]) (by simp [hmg])
    obtain ⟨_, _, hleft⟩ := hh.left
    rcases hleft with ⟨hz, _⟩ | ⟨b', ver, cap', hsb, _, hv6, hblk⟩
    · omega
    injection hv6 with hv6a hv6b hv6c
    rw [hv6a] at hbo
    injection hbo with hbo
    injection hbo with hb1 hb2
    subst hb1 hb2 hv6a
    rw [hs] at hsb
    have hzb := (Array.getElem?_eq_some_iff.1 hblk).1
    simp only [Nat.zero_add] at h1
    have rst : ∀ l, rd1 (ap ρ l) ⟨b', i * 3 + 1, none⟩ = some (.int .i64 L[i].st) := fun l => rd1_old (rd1_row h1 (j := 1) rfl)
    have hli := hLs L[i] (by simp)
    have hmn := mn_le L[i].st q
    have ht : L.take (i + 1) = L.take i ++ [L[i]] := List.take_succ_eq_append_getElem hlt
    have hro : roundO q (L.take (i + 1)) = roundO q (L.take i) ++ emitP q L[i] := by rw [ht, roundO, List.flatMap_append]; simp [roundO]
    by_cases hz : mn L[i].st q = 0
    · have dz : decide (0 < mn L[i].st q) = false := by rw [decide_eq_false]; omega
      simp only [↓eD0, ↓eD1, eC0, eC1, eC2, eC3, eC4, eC5, eC6, wantedE, ↓reduceIte, Nat.reduceEqDiff, Option.map_some, Option.map_none, reread, List.nil_append, List.cons_append, List.map_cons, List.map_nil, List.length_nil, List.length_cons, Value.cells, List.getElem?_cons_zero, List.getElem?_cons_succ, outE, lks, lkR, rdV, neg1, evs, opt, Nat.reduceAdd, Nat.reduceMul, and_self, reduceCtorEq, List.size_toArray, List.all_cons, List.all_nil, Value.oneCell', List.set_cons_zero, List.set_cons_succ, sets, fillL, Nat.reduceLeDiff, List.drop_succ_cons, List.drop_zero, List.take_succ_cons, List.take_zero, List.toList_toArray, argsE, Array.append_empty, Array.empty_append, List.getElem?_toArray, Int.reduceLT, Int.reduceLE, Int.reduceToNat, Int.reduceEq, Nat.reduceLT, dl, hb, Int.toNat_natCast, rst, mn_eq, dz, hw]
      refine ⟨hlt, by omega, v5', rfl, ?_⟩
      have : stepP q L[i] = L[i] := by unfold stepP; rw [hz, Int.sub_zero]
      have hm : midL q L (i + 1) = midL q L i := by
        rw [midL_succ hlt, this]
        have hl2 := (List.getElem?_eq_some_iff.1 hmg)
        obtain ⟨hl3, hl4⟩ := hl2
        conv => lhs; rw [← hl4]
        exact List.set_getElem_self hl3
      rw [hm, hro, emitP, if_pos hz, List.append_nil]
      exact hh.ap
    · have dz : decide (0 < mn L[i].st q) = true := by rw [decide_eq_true]; omega
      have ws : IntKind.wrap .i64 (L[i].st - mn L[i].st q) = L[i].st - mn L[i].st q := wrap64 (by omega) (by omega)
      have rm : ∀ l, rd1 (ap ρ l) ⟨b', i * 3, none⟩ = some (.int .i64 L[i].m) := fun l => rd1_old (rd1_row h1 (j := 0) rfl)
      have hset := row_set (s := 3) (i := i) (j := 1) (x := porV L[i]) (v := .int .i64 (L[i].st - mn L[i].st q)) (porV_rows (L := midL q L i)) (by simp [hmg]) (by omega)
      have hfl := flatten_length (s := 3) (porV_rows (L := midL q L i))
      rw [List.length_map, hlm] at hfl
      have hset2 : ((midL q L i).map porV).set i ((porV L[i]).set 1 (.int .i64 (L[i].st - mn L[i].st q))) = (midL q L (i + 1)).map porV := by
        rw [midL_succ hlt, List.map_set]; rfl
      rw [hset2] at hset
      have hlm1 := midL_len (q := q) (L := L) (i := i + 1) (by omega)
      have hrl := round_part (q := q) hq (L := L) i hLs0
      have hh3 := hh.ap (l := [.cells 0 (trnV ⟨L[i].m, mn L[i].st q⟩) (0, 0)])
      obtain ⟨v', τ', ha', hA⟩ := append_grown (xa := .slice (some ⟨ρ.size, 0, none⟩) 1 1) (bytes := 16) (m := 1) (new := trnV ⟨L[i].m, mn L[i].st q⟩) hh3.out (by omega) (by rw [hs]; exact hh3.old.1) (by
        show (rdN (ap ρ _) ⟨ρ.size, 0, none⟩ 2).map (1, ·) = _
        rw [rdN_ap0]; rfl) rfl rfl (by simp only [List.length_append]; omega) (by omega)
      have hblk' : τ'[b']? = some (.cells ver ((midL q L i).map porV).flatten (0, 0)) := hA.frame b' _ ((ap_old hzb).trans hblk) (hh3.apart b' rfl)
      have rst' : rd1 τ' ⟨b', i * 3 + 1, none⟩ = some (.int .i64 L[i].st) := by
        have h5 := rst []
        rw [ap_nil] at h5
        rw [rd1_eq] at h5 ⊢
        simp only at h5 ⊢
        rw [hblk']
        rw [hblk] at h5
        exact h5
      have hwr : wrN τ' ⟨b', i * 3 + 1, none⟩ [.int .i64 (L[i].st - mn L[i].st q)] = some (τ'.setIfInBounds b' (.cells (ver + 1) ((midL q L (i + 1)).map porV).flatten (0, 0))) := by
        rw [wrN_eq, if_neg (by simp), hblk', wrc_cells, if_pos ⟨by rw [hfl]; simp; omega, rfl⟩]
        simp only [sets, hset, Option.map_some]
      simp only [↓eD0, ↓eD1, eC0, eC1, eC2, eC3, eC4, eC5, eC6, wantedE, ↓reduceIte, Nat.reduceEqDiff, Option.map_some, Option.map_none, reread, List.nil_append, List.cons_append, List.map_cons, List.map_nil, List.length_nil, List.length_cons, Value.cells, List.getElem?_cons_zero, List.getElem?_cons_succ, outE, lks, lkR, rdV, neg1, evs, opt, Nat.reduceAdd, Nat.reduceMul, and_self, reduceCtorEq, List.size_toArray, List.all_cons, List.all_nil, Value.oneCell', List.set_cons_zero, List.set_cons_succ, sets, fillL, Nat.reduceLeDiff, List.drop_succ_cons, List.drop_zero, List.take_succ_cons, List.take_zero, List.toList_toArray, argsE, Array.append_empty, Array.empty_append, List.getElem?_toArray, Int.reduceLT, Int.reduceLE, Int.reduceToNat, Int.reduceEq, Nat.reduceLT, dl, hb, Int.toNat_natCast, rst, mn_eq, dz, rm]
      refine onV_of ha' ?_
      simp only [↓eD0, ↓eD1, eC0, eC1, eC2, eC3, eC4, eC5, eC6, wantedE, ↓reduceIte, Nat.reduceEqDiff, Option.map_some, Option.map_none, reread, List.nil_append, List.cons_append, List.map_cons, List.map_nil, List.length_nil, List.length_cons, Value.cells, List.getElem?_cons_zero, List.getElem?_cons_succ, outE, lks, lkR, rdV, neg1, evs, opt, Nat.reduceAdd, Nat.reduceMul, and_self, reduceCtorEq, List.size_toArray, List.all_cons, List.all_nil, Value.oneCell', List.set_cons_zero, List.set_cons_succ, sets, fillL, Nat.reduceLeDiff, List.drop_succ_cons, List.drop_zero, List.take_succ_cons, List.take_zero, List.toList_toArray, argsE, Array.append_empty, Array.empty_append, List.getElem?_toArray, Int.reduceLT, Int.reduceLE, Int.reduceToNat, Int.reduceEq, Nat.reduceLT, hb, Int.toNat_natCast, rst', ws, hwr, hw]
      refine ⟨hlt, by omega, v', rfl, ?_⟩
      have e5 : (O ++ roundO q (L.take (i + 1))) = (O ++ roundO q (L.take i)) ++ [⟨L[i].m, mn L[i].st q⟩] := by rw [hro, emitP, if_neg hz, List.append_assoc]
      have hnb : ∀ c, baseOf v' = some c → c ≠ b' := fun c hc => by
        rcases hA.base with hbb | hbb
        · rw [hbb] at hc
          intro h
          subst h
          exact hh3.apart _ rfl hc
        · rw [hbb, ap_size] at hc
          injection hc with hc
          omega
      refine ⟨(hA.Old' hh3.out (by rw [hs]; omega) hh3.old).set hsb, ?_, ⟨by rw [flatten_length porV_rows]; simp, by rw [hlm1]; unfold big; omega, .inr ⟨b', ver + 1, cap', by rw [hs]; exact hsb, by rw [hlm1, ← hlm]; assumption, by rw [hlm1, hv6c], get_set hblk'⟩⟩, fun c hc hd => ?_⟩
      · rw [e5]
        have hg : Cn.Grown (sized σ.size) τ' 2 v' (List.map trnV (O ++ roundO q (L.take i) ++ [(⟨L[i].m, mn L[i].st q⟩ : Trn)])).flatten (O ++ roundO q (L.take i) ++ [(⟨L[i].m, mn L[i].st q⟩ : Trn)]).length := by simpa [Nat.add_assoc] using hA.grown
        refine hg.keep fun c k hc hk => ?_
        rw [get_set_ne (Ne.symm (hnb c hc))]
        exact hk
      · injection hc with hc
        exact hnb c hd hc.symm
  · have : i = L.length := by omega
    subst this
    have dl : decide ((L.length:Int) < (L.length : Int)) = false := by simp
    rw [midL_all, List.take_length] at hh
    obtain ⟨bs7, cp7, hv7⟩ := hh.out.slice
    subst hv7
    have hpos : 0 < (roundO q L).length := List.length_pos_iff.2 hne
    simp only [↓eD0, ↓eD1, eC0, eC1, eC2, eC3, eC4, eC5, eC6, wantedE, ↓reduceIte, Nat.reduceEqDiff, Option.map_some, Option.map_none, reread, List.nil_append, List.cons_append, List.map_cons, List.map_nil, List.length_nil, List.length_cons, Value.cells, List.getElem?_cons_zero, List.getElem?_cons_succ, outE, lks, lkR, rdV, neg1, evs, opt, Nat.reduceAdd, Nat.reduceMul, and_self, reduceCtorEq, List.size_toArray, List.all_cons, List.all_nil, Value.oneCell', List.set_cons_zero, List.set_cons_succ, sets, fillL, Nat.reduceLeDiff, List.drop_succ_cons, List.drop_zero, List.take_succ_cons, List.take_zero, List.toList_toArray, argsE, Array.append_empty, Array.empty_append, List.getElem?_toArray, Int.reduceLT, Int.reduceLE, Int.reduceToNat, Int.reduceEq, Nat.reduceLT, dl]
    refine ⟨cnt q (roundL q L), by omega, roundL q L, O ++ roundO q L, _, f, rfl, ?_, rfl, ?_, by simp [roundL, hLl], by rw [List.length_append]; omega, by omega, hR⟩
    · exact hh.ap
    · intro p hp
      obtain ⟨p0, hp0, rfl⟩ := List.mem_map.1 hp
      have := hLs p0 hp0
      have := step_st hq this.1
      omega
end Go.Proofs.Ytimcgoghjebalaa
