/- Walks of the functions that the claim reaches. Conditions: none. -/
import Derived.Test.YtimcgoghjebalaaVb
set_option linter.all false
set_option linter.unusedSimpArgs false
set_option linter.unusedVariables false
set_option maxRecDepth 10000
set_option maxHeartbeats 1000000
namespace Go.Proofs.Ytimcgoghjebalaa
open Go Go.Cn Go.RowKit

def sumR : List Ctr → Int
  | [] => 0
  | c :: r => c.r + sumR r
theorem sumR_app {a b : List Ctr} : sumR (a ++ b) = sumR a + sumR b := by
  induction a with
  | nil => simp [sumR]
  | cons c a ih => rw [List.cons_append, sumR, sumR, ih]; omega
theorem sumR_take {l : List Ctr} {i : Nat} (h : i < l.length) : sumR (l.take (i + 1)) = sumR (l.take i) + l[i].r := by
  rw [List.take_succ_eq_append_getElem h, sumR_app, sumR, sumR]; omega
theorem sumR_bounds : ∀ {l : List Ctr}, (∀ c ∈ l, c.Ok) → 0 ≤ sumR l ∧ sumR l ≤ (l.length : Int) * 1073741824
  | [], _ => by simp [sumR]
  | c :: r, h => by
    obtain ⟨h1, h2, h3, _, _⟩ := h c (by simp)
    have := sumR_bounds (l := r) fun x hx => h x (by simp [hx])
    rw [sumR, List.length_cons]; omega

def goodP (p : Ctr × Int) : Bool := decide p.1.Ok && decide (Amt p.2)
def filledF (cap : Int) (l : List Ctr) (ds : List Int) : Bool := decide (Amt cap) && (decide (l.length ≤ 32) && (decide (ds.length = l.length) && ((l.zip ds).all goodP && decide (sumR l ≤ cap))))

theorem sum_zero : ∀ {l : List Ctr} {ds : List Int}, (∀ c ∈ l, c.Ok) → (∀ d ∈ ds, Amt d) → sumC (claimsF l ds) 0 ≤ sumR l
  | [], ds, _, _ => by simp [claimsF, sumC, sumR]
  | c :: l, [], h, _ => by
    have := (sumR_bounds h).1
    simpa [claimsF, sumC] using this
  | c :: l, d :: ds, h1, h2 => by
    have ih := sum_zero (l := l) (ds := ds) (fun x hx => h1 x (by simp [hx])) (fun x hx => h2 x (by simp [hx]))
    have hc := atC_bounds (c := clF c d) (t := 0) (clF_ok (h1 c (by simp)) (h2 d (by simp))) (by omega)
    have hm := mn_le c.r d
    simp only [claimsF, List.zipWith_cons_cons] at ih ⊢
    rw [sumC, sumR]
    simp only [clF] at hc ⊢
    omega
theorem zip_good {l : List Ctr} {ds : List Int} (hlen : ds.length = l.length) (h : (l.zip ds).all goodP = true) : (∀ c ∈ l, c.Ok) ∧ (∀ d ∈ ds, Amt d) := by
  rw [List.all_eq_true] at h
  have key : ∀ i (h1 : i < l.length) (h2 : i < ds.length), l[i].Ok ∧ Amt ds[i] := fun i h1 h2 => by
    have := h (l[i], ds[i]) (List.mem_of_getElem? (i := i) (by simp [List.getElem?_zip_eq_some, h1, h2]))
    simpa [goodP] using this
  constructor
  · intro c hc
    obtain ⟨i, hi, rfl⟩ := List.getElem_of_mem hc
    exact (key i hi (by omega)).1
  · intro c hc
    obtain ⟨i, hi, rfl⟩ := List.getElem_of_mem hc
    exact (key i (by omega) hi).2
theorem filled_of {cap : Int} {l : List Ctr} {ds : List Int} (h : filledF cap l ds = true) : Filled cap l ds := by
  simp only [filledF, Bool.and_eq_true, decide_eq_true_eq] at h
  obtain ⟨h1, h2, h3, h4, h5⟩ := h
  obtain ⟨g1, g2⟩ := zip_good h3 h4
  exact ⟨h1, h2, h3, g1, g2, by have := sum_zero (l := l) (ds := ds) g1 g2; omega⟩

theorem filled_app {σ : H} {l : List Ctr} {ds : List Int} {lv dv : Value} {cap : Int} (hl : Row σ 3 lv (l.map ctrV)) (hd : Row σ 1 dv (ds.map intV)) :
    App Try.prog (.func 15) #[] #[.int .i64 cap, lv, dv] σ fun v σ' => σ' = σ ∧ v = .bool (filledF cap l ds) := by
  refine App.forget (App.of_sem mixed Try.func15 t15 k15 r15 (Nat.le_of_ble_eq_true rfl) ?_)
  obtain ⟨base, cp, rfl⟩ := hl.slice
  obtain ⟨base2, cp2, rfl⟩ := hd.slice
  simp only [List.length_map] at hl hd ⊢
  rw [← ap_nil (σ := σ)]
  unfold s15
  simp only [↓eD0, ↓eD1, eC0, eC1, eC2, eC3, eC4, eC5, eC6, wantedE, ↓reduceIte, Nat.reduceEqDiff, Option.map_some, Option.map_none, reread, List.nil_append, List.cons_append, List.map_cons, List.map_nil, List.length_nil, List.length_cons, Value.cells, List.getElem?_cons_zero, List.getElem?_cons_succ, outE, lks, lkR, rdV, neg1, evs, opt, Nat.reduceAdd, Nat.reduceMul, and_self, reduceCtorEq, List.size_toArray, List.all_cons, List.all_nil, Value.oneCell', List.set_cons_zero, List.set_cons_succ, sets, fillL, Nat.reduceLeDiff, List.drop_succ_cons, List.drop_zero, List.take_succ_cons, List.take_zero, List.toList_toArray, argsE, Array.append_empty, Array.empty_append, List.getElem?_toArray, Int.reduceLT, Int.reduceLE, Int.reduceToNat, Int.reduceEq, Nat.reduceLT]
  refine appK_of amount_app ?_
  rintro _ _ ⟨e2, rfl⟩
  rw [e2]
  clear e2
  by_cases h1 : Amt cap
  case neg =>
    have d1 : decide (Amt cap) = false := by simpa using h1
    simp only [↓eD0, ↓eD1, eC0, eC1, eC2, eC3, eC4, eC5, eC6, wantedE, ↓reduceIte, Nat.reduceEqDiff, Option.map_some, Option.map_none, reread, List.nil_append, List.cons_append, List.map_cons, List.map_nil, List.length_nil, List.length_cons, Value.cells, List.getElem?_cons_zero, List.getElem?_cons_succ, outE, lks, lkR, rdV, neg1, evs, opt, Nat.reduceAdd, Nat.reduceMul, and_self, reduceCtorEq, List.size_toArray, List.all_cons, List.all_nil, Value.oneCell', List.set_cons_zero, List.set_cons_succ, sets, fillL, Nat.reduceLeDiff, List.drop_succ_cons, List.drop_zero, List.take_succ_cons, List.take_zero, List.toList_toArray, argsE, Array.append_empty, Array.empty_append, List.getElem?_toArray, Int.reduceLT, Int.reduceLE, Int.reduceToNat, Int.reduceEq, Nat.reduceLT, d1, undef_eq]
    exact ⟨.ap, by simp [flat], by simp [filledF, d1]⟩
  have d1 : decide (Amt cap) = true := by simpa using h1
  by_cases h2 : l.length ≤ 32
  case neg =>
    have d2 : decide ((32:Int) < (l.length : Int)) = true := by simp; omega
    simp only [↓eD0, ↓eD1, eC0, eC1, eC2, eC3, eC4, eC5, eC6, wantedE, ↓reduceIte, Nat.reduceEqDiff, Option.map_some, Option.map_none, reread, List.nil_append, List.cons_append, List.map_cons, List.map_nil, List.length_nil, List.length_cons, Value.cells, List.getElem?_cons_zero, List.getElem?_cons_succ, outE, lks, lkR, rdV, neg1, evs, opt, Nat.reduceAdd, Nat.reduceMul, and_self, reduceCtorEq, List.size_toArray, List.all_cons, List.all_nil, Value.oneCell', List.set_cons_zero, List.set_cons_succ, sets, fillL, Nat.reduceLeDiff, List.drop_succ_cons, List.drop_zero, List.take_succ_cons, List.take_zero, List.toList_toArray, argsE, Array.append_empty, Array.empty_append, List.getElem?_toArray, Int.reduceLT, Int.reduceLE, Int.reduceToNat, Int.reduceEq, Nat.reduceLT, d1, d2, undef_eq]
    exact ⟨.ap, by simp [flat], by simp [filledF, h2]⟩
  have d2 : decide ((32:Int) < (l.length : Int)) = false := by simp; omega
  by_cases h3 : ds.length = l.length
  case neg =>
    have d3 : decide ((ds.length:Int) = (l.length : Int)) = false := by simp; omega
    simp only [↓eD0, ↓eD1, eC0, eC1, eC2, eC3, eC4, eC5, eC6, wantedE, ↓reduceIte, Nat.reduceEqDiff, Option.map_some, Option.map_none, reread, List.nil_append, List.cons_append, List.map_cons, List.map_nil, List.length_nil, List.length_cons, Value.cells, List.getElem?_cons_zero, List.getElem?_cons_succ, outE, lks, lkR, rdV, neg1, evs, opt, Nat.reduceAdd, Nat.reduceMul, and_self, reduceCtorEq, List.size_toArray, List.all_cons, List.all_nil, Value.oneCell', List.set_cons_zero, List.set_cons_succ, sets, fillL, Nat.reduceLeDiff, List.drop_succ_cons, List.drop_zero, List.take_succ_cons, List.take_zero, List.toList_toArray, argsE, Array.append_empty, Array.empty_append, List.getElem?_toArray, Int.reduceLT, Int.reduceLE, Int.reduceToNat, Int.reduceEq, Nat.reduceLT, d1, d2, d3, undef_eq]
    exact ⟨.ap, by simp [flat], by simp [filledF, h3]⟩
  have d3 : decide ((ds.length:Int) = (l.length : Int)) = true := by simp; omega
  simp only [↓eD0, ↓eD1, eC0, eC1, eC2, eC3, eC4, eC5, eC6, wantedE, ↓reduceIte, Nat.reduceEqDiff, Option.map_some, Option.map_none, reread, List.nil_append, List.cons_append, List.map_cons, List.map_nil, List.length_nil, List.length_cons, Value.cells, List.getElem?_cons_zero, List.getElem?_cons_succ, outE, lks, lkR, rdV, neg1, evs, opt, Nat.reduceAdd, Nat.reduceMul, and_self, reduceCtorEq, List.size_toArray, List.all_cons, List.all_nil, Value.oneCell', List.set_cons_zero, List.set_cons_succ, sets, fillL, Nat.reduceLeDiff, List.drop_succ_cons, List.drop_zero, List.take_succ_cons, List.take_zero, List.toList_toArray, argsE, Array.append_empty, Array.empty_append, List.getElem?_toArray, Int.reduceLT, Int.reduceLE, Int.reduceToNat, Int.reduceEq, Nat.reduceLT, d1, d2, d3, undef_eq]
  refine loop_for (J := fun i e τ => Old σ τ ∧ i ≤ l.length ∧ e = [(0, .int .i64 cap), (1, .slice base l.length cp), (2, .slice base2 ds.length cp2), (7, .int .i64 (sumR (l.take i))), (8, .int .i64 i)] ∧ ∀ j (q1 : j < l.length) (q2 : j < ds.length), j < i → l[j].Ok ∧ Amt ds[j]) l.length ⟨.ap, by omega, rfl, fun j _ _ h => by omega⟩ ?_
  rintro i e τ hi ⟨ho, _, rfl, hg⟩
  have e1 : ap τ [] = τ := ap_nil
  rw [← e1]
  by_cases hlt : i < l.length
  · have dl : decide ((i:Int) < (l.length : Int)) = true := by simpa using hlt
    have hlt2 : i < ds.length := by omega
    have hx : (l.map ctrV)[i]? = some (ctrV l[i]) := by simp [hlt]
    have hx2 : (ds.map intV)[i]? = some (intV ds[i]) := by simp [hlt2]
    obtain ⟨b, off, rfl, h1⟩ := hl.at hx
    obtain ⟨b2, off2, rfl, h2⟩ := hd.at hx2
    have h3' : ∀ L, rdN (ap τ L) ⟨b, off + i * 3, none⟩ 3 = some (ctrV l[i]) := fun L => rdN_Old (ho.trans .ap) h1
    have h5 : ∀ L, rd1 (ap τ L) ⟨b, off + i * 3, none⟩ = some (.int .i64 l[i].r) := fun L => rd1_row (h3' L) (j := 0) rfl
    have h4 : ∀ L, rd1 (ap τ L) ⟨b2, off2 + i, none⟩ = some (.int .i64 ds[i]) := fun L => rd1_Old (ho.trans .ap) (by simpa using rd1_row h2 (j := 0) rfl)
    have hb : (0:Int) ≤ (i:Int) ∧ (i:Int) < (l.length : Int) := by omega
    have hb2 : (0:Int) ≤ (i:Int) ∧ (i:Int) < (ds.length : Int) := by omega
    have hw : IntKind.wrap .i64 ((i:Int) + 1) = ((i + 1 : Nat) : Int) := by rw [wrap64 (by omega) (by omega)]; omega
    have hmem : (l[i], ds[i]) ∈ l.zip ds := List.mem_of_getElem? (i := i) (by simp [List.getElem?_zip_eq_some, hlt, hlt2])
    have hbad : goodP (l[i], ds[i]) = false → filledF cap l ds = false := fun hh => by
      have : (l.zip ds).all goodP = false := by rw [List.all_eq_false]; exact ⟨_, hmem, by simp [hh]⟩
      simp [filledF, this]
    simp only [↓eD0, ↓eD1, eC0, eC1, eC2, eC3, eC4, eC5, eC6, wantedE, ↓reduceIte, Nat.reduceEqDiff, Option.map_some, Option.map_none, reread, List.nil_append, List.cons_append, List.map_cons, List.map_nil, List.length_nil, List.length_cons, Value.cells, List.getElem?_cons_zero, List.getElem?_cons_succ, outE, lks, lkR, rdV, neg1, evs, opt, Nat.reduceAdd, Nat.reduceMul, and_self, reduceCtorEq, List.size_toArray, List.all_cons, List.all_nil, Value.oneCell', List.set_cons_zero, List.set_cons_succ, sets, fillL, Nat.reduceLeDiff, List.drop_succ_cons, List.drop_zero, List.take_succ_cons, List.take_zero, List.toList_toArray, argsE, Array.append_empty, Array.empty_append, List.getElem?_toArray, Int.reduceLT, Int.reduceLE, Int.reduceToNat, Int.reduceEq, Nat.reduceLT, dl, hb, hb2, Int.toNat_natCast, h3', ctrV]
    refine appK_of (rright_app (c := l[i])) ?_
    rintro _ _ ⟨e2, rfl⟩
    rw [e2]
    clear e2
    by_cases ok : l[i].Ok
    case neg =>
      have dk : decide l[i].Ok = false := by simpa using ok
      simp only [↓eD0, ↓eD1, eC0, eC1, eC2, eC3, eC4, eC5, eC6, wantedE, ↓reduceIte, Nat.reduceEqDiff, Option.map_some, Option.map_none, reread, List.nil_append, List.cons_append, List.map_cons, List.map_nil, List.length_nil, List.length_cons, Value.cells, List.getElem?_cons_zero, List.getElem?_cons_succ, outE, lks, lkR, rdV, neg1, evs, opt, Nat.reduceAdd, Nat.reduceMul, and_self, reduceCtorEq, List.size_toArray, List.all_cons, List.all_nil, Value.oneCell', List.set_cons_zero, List.set_cons_succ, sets, fillL, Nat.reduceLeDiff, List.drop_succ_cons, List.drop_zero, List.take_succ_cons, List.take_zero, List.toList_toArray, argsE, Array.append_empty, Array.empty_append, List.getElem?_toArray, Int.reduceLT, Int.reduceLE, Int.reduceToNat, Int.reduceEq, Nat.reduceLT, dk, undef_eq]
      exact ⟨ho.trans .ap, by simp [flat], by rw [hbad (by simp [goodP, ok])]⟩
    have dk : decide l[i].Ok = true := by simpa using ok
    simp only [↓eD0, ↓eD1, eC0, eC1, eC2, eC3, eC4, eC5, eC6, wantedE, ↓reduceIte, Nat.reduceEqDiff, Option.map_some, Option.map_none, reread, List.nil_append, List.cons_append, List.map_cons, List.map_nil, List.length_nil, List.length_cons, Value.cells, List.getElem?_cons_zero, List.getElem?_cons_succ, outE, lks, lkR, rdV, neg1, evs, opt, Nat.reduceAdd, Nat.reduceMul, and_self, reduceCtorEq, List.size_toArray, List.all_cons, List.all_nil, Value.oneCell', List.set_cons_zero, List.set_cons_succ, sets, fillL, Nat.reduceLeDiff, List.drop_succ_cons, List.drop_zero, List.take_succ_cons, List.take_zero, List.toList_toArray, argsE, Array.append_empty, Array.empty_append, List.getElem?_toArray, Int.reduceLT, Int.reduceLE, Int.reduceToNat, Int.reduceEq, Nat.reduceLT, dk, hb2, Int.toNat_natCast, h4]
    refine appK_of amount_app ?_
    rintro _ _ ⟨e2, rfl⟩
    rw [e2]
    clear e2
    by_cases am : Amt ds[i]
    case neg =>
      have da : decide (Amt ds[i]) = false := by simpa using am
      simp only [↓eD0, ↓eD1, eC0, eC1, eC2, eC3, eC4, eC5, eC6, wantedE, ↓reduceIte, Nat.reduceEqDiff, Option.map_some, Option.map_none, reread, List.nil_append, List.cons_append, List.map_cons, List.map_nil, List.length_nil, List.length_cons, Value.cells, List.getElem?_cons_zero, List.getElem?_cons_succ, outE, lks, lkR, rdV, neg1, evs, opt, Nat.reduceAdd, Nat.reduceMul, and_self, reduceCtorEq, List.size_toArray, List.all_cons, List.all_nil, Value.oneCell', List.set_cons_zero, List.set_cons_succ, sets, fillL, Nat.reduceLeDiff, List.drop_succ_cons, List.drop_zero, List.take_succ_cons, List.take_zero, List.toList_toArray, argsE, Array.append_empty, Array.empty_append, List.getElem?_toArray, Int.reduceLT, Int.reduceLE, Int.reduceToNat, Int.reduceEq, Nat.reduceLT, da, undef_eq]
      exact ⟨ho.trans .ap, by simp [flat], by rw [hbad (by simp [goodP, am])]⟩
    have da : decide (Amt ds[i]) = true := by simpa using am
    have st := sumR_take hlt
    have b1 := sumR_bounds (l := l.take i) (fun c hc => by
      obtain ⟨j, hj, rfl⟩ := List.getElem_of_mem hc
      rw [List.getElem_take]
      simp only [List.length_take] at hj
      exact (hg j (by omega) (by omega) (by omega)).1)
    simp only [List.length_take] at b1
    have ok' := ok
    obtain ⟨o1, o2, o3, _, _⟩ := ok'
    have ws : IntKind.wrap .i64 (sumR (l.take i) + l[i].r) = sumR (l.take (i + 1)) := by rw [wrap64 (by omega) (by omega), st]
    simp only [↓eD0, ↓eD1, eC0, eC1, eC2, eC3, eC4, eC5, eC6, wantedE, ↓reduceIte, Nat.reduceEqDiff, Option.map_some, Option.map_none, reread, List.nil_append, List.cons_append, List.map_cons, List.map_nil, List.length_nil, List.length_cons, Value.cells, List.getElem?_cons_zero, List.getElem?_cons_succ, outE, lks, lkR, rdV, neg1, evs, opt, Nat.reduceAdd, Nat.reduceMul, and_self, reduceCtorEq, List.size_toArray, List.all_cons, List.all_nil, Value.oneCell', List.set_cons_zero, List.set_cons_succ, sets, fillL, Nat.reduceLeDiff, List.drop_succ_cons, List.drop_zero, List.take_succ_cons, List.take_zero, List.toList_toArray, argsE, Array.append_empty, Array.empty_append, List.getElem?_toArray, Int.reduceLT, Int.reduceLE, Int.reduceToNat, Int.reduceEq, Nat.reduceLT, da, hb, Int.toNat_natCast, h5, hw, ws]
    refine ⟨hlt, ho.trans .ap, by omega, fun j q1 q2 hj => ?_⟩
    by_cases hji : j = i
    · subst hji; exact ⟨ok, am⟩
    · exact hg j q1 q2 (by omega)
  · have : i = l.length := by omega
    subst this
    have dl : decide ((l.length:Int) < (l.length : Int)) = false := by simp
    simp only [↓eD0, ↓eD1, eC0, eC1, eC2, eC3, eC4, eC5, eC6, wantedE, ↓reduceIte, Nat.reduceEqDiff, Option.map_some, Option.map_none, reread, List.nil_append, List.cons_append, List.map_cons, List.map_nil, List.length_nil, List.length_cons, Value.cells, List.getElem?_cons_zero, List.getElem?_cons_succ, outE, lks, lkR, rdV, neg1, evs, opt, Nat.reduceAdd, Nat.reduceMul, and_self, reduceCtorEq, List.size_toArray, List.all_cons, List.all_nil, Value.oneCell', List.set_cons_zero, List.set_cons_succ, sets, fillL, Nat.reduceLeDiff, List.drop_succ_cons, List.drop_zero, List.take_succ_cons, List.take_zero, List.toList_toArray, argsE, Array.append_empty, Array.empty_append, List.getElem?_toArray, Int.reduceLT, Int.reduceLE, Int.reduceToNat, Int.reduceEq, Nat.reduceLT, dl, List.take_length]
    refine ⟨ho.trans .ap, by simp [flat], ?_⟩
    have hall : (l.zip ds).all goodP = true := by
      rw [List.all_eq_true]
      intro p hp
      obtain ⟨j, hj, rfl⟩ := List.getElem_of_mem hp
      simp only [List.length_zip] at hj
      have := hg j (by omega) (by omega) (by omega)
      simp [goodP, this.1, this.2]
    simp [filledF, d1, h2, h3, hall]

theorem sameInts_app {σ : H} {a b : List Int} {av bv : Value} (ha : Row σ 1 av (a.map intV)) (hb : Row σ 1 bv (b.map intV)) (hn : a.length < 4000000000000) :
    App Try.prog (.func 17) #[] #[av, bv] σ fun v σ' => σ' = σ ∧ v = .bool (decide (a = b)) := by
  refine App.forget (App.of_sem mixed Try.func17 t17 k17 r17 (Nat.le_of_ble_eq_true rfl) ?_)
  obtain ⟨base, cp, rfl⟩ := ha.slice
  obtain ⟨base2, cp2, rfl⟩ := hb.slice
  simp only [List.length_map] at ha hb ⊢
  rw [← ap_nil (σ := σ)]
  unfold s17
  by_cases hl : a.length = b.length
  case neg =>
    have d : decide ((a.length:Int) = (b.length:Int)) = false := by simp; omega
    simp only [↓eD0, ↓eD1, eC0, eC1, eC2, eC3, eC4, eC5, eC6, wantedE, ↓reduceIte, Nat.reduceEqDiff, Option.map_some, Option.map_none, reread, List.nil_append, List.cons_append, List.map_cons, List.map_nil, List.length_nil, List.length_cons, Value.cells, List.getElem?_cons_zero, List.getElem?_cons_succ, outE, lks, lkR, rdV, neg1, evs, opt, Nat.reduceAdd, Nat.reduceMul, and_self, reduceCtorEq, List.size_toArray, List.all_cons, List.all_nil, Value.oneCell', List.set_cons_zero, List.set_cons_succ, sets, fillL, Nat.reduceLeDiff, List.drop_succ_cons, List.drop_zero, List.take_succ_cons, List.take_zero, List.toList_toArray, argsE, Array.append_empty, Array.empty_append, List.getElem?_toArray, Int.reduceLT, Int.reduceLE, Int.reduceToNat, Int.reduceEq, Nat.reduceLT, d]
    exact ⟨.ap, by simp [flat], by rw [decide_eq_false]; intro h; exact hl (by rw [h])⟩
  have d : decide ((a.length:Int) = (b.length:Int)) = true := by simp; omega
  simp only [↓eD0, ↓eD1, eC0, eC1, eC2, eC3, eC4, eC5, eC6, wantedE, ↓reduceIte, Nat.reduceEqDiff, Option.map_some, Option.map_none, reread, List.nil_append, List.cons_append, List.map_cons, List.map_nil, List.length_nil, List.length_cons, Value.cells, List.getElem?_cons_zero, List.getElem?_cons_succ, outE, lks, lkR, rdV, neg1, evs, opt, Nat.reduceAdd, Nat.reduceMul, and_self, reduceCtorEq, List.size_toArray, List.all_cons, List.all_nil, Value.oneCell', List.set_cons_zero, List.set_cons_succ, sets, fillL, Nat.reduceLeDiff, List.drop_succ_cons, List.drop_zero, List.take_succ_cons, List.take_zero, List.toList_toArray, argsE, Array.append_empty, Array.empty_append, List.getElem?_toArray, Int.reduceLT, Int.reduceLE, Int.reduceToNat, Int.reduceEq, Nat.reduceLT, d]
  refine loop_for (J := fun i e τ => Old σ τ ∧ i ≤ a.length ∧ e = [(0, .slice base a.length cp), (1, .slice base2 b.length cp2), (5, .int .i64 i)] ∧ a.take i = b.take i) a.length ⟨.ap, by omega, rfl, rfl⟩ ?_
  rintro i e τ hi ⟨ho, _, rfl, hg⟩
  have e1 : ap τ [] = τ := ap_nil
  rw [← e1]
  by_cases hlt : i < a.length
  · have dl : decide ((i:Int) < (a.length : Int)) = true := by simpa using hlt
    have hlt2 : i < b.length := by omega
    have hx : (a.map intV)[i]? = some (intV a[i]) := by simp [hlt]
    have hx2 : (b.map intV)[i]? = some (intV b[i]) := by simp [hlt2]
    obtain ⟨b1, off, rfl, h1⟩ := ha.at hx
    obtain ⟨b2, off2, rfl, h2⟩ := hb.at hx2
    have h3 : ∀ L, rd1 (ap τ L) ⟨b1, off + i, none⟩ = some (.int .i64 a[i]) := fun L => rd1_Old (ho.trans .ap) (by simpa using rd1_row h1 (j := 0) rfl)
    have h4 : ∀ L, rd1 (ap τ L) ⟨b2, off2 + i, none⟩ = some (.int .i64 b[i]) := fun L => rd1_Old (ho.trans .ap) (by simpa using rd1_row h2 (j := 0) rfl)
    have hb1 : (0:Int) ≤ (i:Int) ∧ (i:Int) < (a.length : Int) := by omega
    have hb2 : (0:Int) ≤ (i:Int) ∧ (i:Int) < (b.length : Int) := by omega
    have hw : IntKind.wrap .i64 ((i:Int) + 1) = ((i + 1 : Nat) : Int) := by rw [wrap64 (by omega) (by omega)]; omega
    by_cases he : a[i] = b[i]
    · have de : decide (a[i] = b[i]) = true := by simpa using he
      simp only [↓eD0, ↓eD1, eC0, eC1, eC2, eC3, eC4, eC5, eC6, wantedE, ↓reduceIte, Nat.reduceEqDiff, Option.map_some, Option.map_none, reread, List.nil_append, List.cons_append, List.map_cons, List.map_nil, List.length_nil, List.length_cons, Value.cells, List.getElem?_cons_zero, List.getElem?_cons_succ, outE, lks, lkR, rdV, neg1, evs, opt, Nat.reduceAdd, Nat.reduceMul, and_self, reduceCtorEq, List.size_toArray, List.all_cons, List.all_nil, Value.oneCell', List.set_cons_zero, List.set_cons_succ, sets, fillL, Nat.reduceLeDiff, List.drop_succ_cons, List.drop_zero, List.take_succ_cons, List.take_zero, List.toList_toArray, argsE, Array.append_empty, Array.empty_append, List.getElem?_toArray, Int.reduceLT, Int.reduceLE, Int.reduceToNat, Int.reduceEq, Nat.reduceLT, dl, hb1, hb2, Int.toNat_natCast, h3, h4, de, hw]
      refine ⟨hlt, ho.trans .ap, by omega, ?_⟩
      rw [List.take_succ_eq_append_getElem hlt, List.take_succ_eq_append_getElem hlt2, hg, he]
    · have de : decide (a[i] = b[i]) = false := by simpa using he
      simp only [↓eD0, ↓eD1, eC0, eC1, eC2, eC3, eC4, eC5, eC6, wantedE, ↓reduceIte, Nat.reduceEqDiff, Option.map_some, Option.map_none, reread, List.nil_append, List.cons_append, List.map_cons, List.map_nil, List.length_nil, List.length_cons, Value.cells, List.getElem?_cons_zero, List.getElem?_cons_succ, outE, lks, lkR, rdV, neg1, evs, opt, Nat.reduceAdd, Nat.reduceMul, and_self, reduceCtorEq, List.size_toArray, List.all_cons, List.all_nil, Value.oneCell', List.set_cons_zero, List.set_cons_succ, sets, fillL, Nat.reduceLeDiff, List.drop_succ_cons, List.drop_zero, List.take_succ_cons, List.take_zero, List.toList_toArray, argsE, Array.append_empty, Array.empty_append, List.getElem?_toArray, Int.reduceLT, Int.reduceLE, Int.reduceToNat, Int.reduceEq, Nat.reduceLT, dl, hb1, hb2, Int.toNat_natCast, h3, h4, de, hw]
      exact ⟨ho.trans .ap, by simp [flat], by rw [decide_eq_false]; intro h; subst h; exact he rfl⟩
  · have : i = a.length := by omega
    subst this
    have dl : decide ((a.length:Int) < (a.length : Int)) = false := by simp
    simp only [↓eD0, ↓eD1, eC0, eC1, eC2, eC3, eC4, eC5, eC6, wantedE, ↓reduceIte, Nat.reduceEqDiff, Option.map_some, Option.map_none, reread, List.nil_append, List.cons_append, List.map_cons, List.map_nil, List.length_nil, List.length_cons, Value.cells, List.getElem?_cons_zero, List.getElem?_cons_succ, outE, lks, lkR, rdV, neg1, evs, opt, Nat.reduceAdd, Nat.reduceMul, and_self, reduceCtorEq, List.size_toArray, List.all_cons, List.all_nil, Value.oneCell', List.set_cons_zero, List.set_cons_succ, sets, fillL, Nat.reduceLeDiff, List.drop_succ_cons, List.drop_zero, List.take_succ_cons, List.take_zero, List.toList_toArray, argsE, Array.append_empty, Array.empty_append, List.getElem?_toArray, Int.reduceLT, Int.reduceLE, Int.reduceToNat, Int.reduceEq, Nat.reduceLT, dl]
    rw [List.take_length, List.take_of_length_le (by omega)] at hg
    exact ⟨ho.trans .ap, by simp [flat], by rw [decide_eq_true hg]⟩
end Go.Proofs.Ytimcgoghjebalaa

set_option linter.unusedSimpArgs false
set_option linter.unusedVariables false
set_option maxRecDepth 10000
set_option maxHeartbeats 1000000
namespace Go.Proofs.Ytimcgoghjebalaa
open Go Go.Cn Go.RowKit

/-- A tenant, and a budget. -/
structure Ten where
  m : Int
  st : Ctr
  pg : Ctr
def tenV (t : Ten) : List Value := [.int .i64 t.m, .int .i64 t.st.r, .int .i64 t.st.l, .int .i64 t.st.s, .int .i64 t.pg.r, .int .i64 t.pg.l, .int .i64 t.pg.s]
structure Bud where
  st : Int
  pg : Int
  L : List Ten
def budV (B : Bud) (base : Option Addr) (cap : Nat) : List Value := [.int .i64 B.st, .int .i64 B.pg, .slice base B.L.length cap]
def IsB (σ : H) (l : List Value) (B : Bud) : Prop := ∃ base cap, l = budV B base cap ∧ Row σ 7 (.slice base B.L.length cap) (B.L.map tenV) ∧ CapOk 7 (.slice base B.L.length cap)
theorem IsB.Old {σ σ' : H} {l : List Value} {B : Bud} (h : IsB σ l B) (ho : Old σ σ') : IsB σ' l B := let ⟨a, c, h1, h2, h3⟩ := h; ⟨a, c, h1, h2.Old ho, h3⟩

theorem rep7 {v : Value} : List.replicate 7 v = [v, v, v, v, v, v, v] := rfl
theorem rep6 {v : Value} : List.replicate 6 v = [v, v, v, v, v, v] := rfl

def sumT (f : Ten → Int) : List Ten → Int
  | [] => 0
  | t :: r => f t + sumT f r
theorem sumT_app {f : Ten → Int} {a b : List Ten} : sumT f (a ++ b) = sumT f a + sumT f b := by
  induction a with
  | nil => simp [sumT]
  | cons c a ih => rw [List.cons_append, sumT, sumT, ih]; omega
theorem sumT_take {f : Ten → Int} {l : List Ten} {i : Nat} (h : i < l.length) : sumT f (l.take (i + 1)) = sumT f (l.take i) + f l[i] := by
  rw [List.take_succ_eq_append_getElem h, sumT_app, sumT, sumT]; omega
theorem sumT_bounds {f : Ten → Int} : ∀ {l : List Ten}, (∀ c ∈ l, 0 ≤ f c ∧ f c ≤ 1073741824) → 0 ≤ sumT f l ∧ sumT f l ≤ (l.length : Int) * 1073741824
  | [], _ => by simp [sumT]
  | c :: r, h => by
    have h1 := h c (by simp)
    have := sumT_bounds (l := r) fun x hx => h x (by simp [hx])
    rw [sumT, List.length_cons]; omega
def stR (t : Ten) : Int := t.st.r
def pgR (t : Ten) : Int := t.pg.r

def prevM (L : List Ten) : Nat → Int
  | 0 => 0
  | j + 1 => match L[j]? with | some t => t.m | none => 0
theorem prevM_succ {L : List Ten} {j : Nat} (h : j < L.length) : prevM L (j + 1) = L[j].m := by simp [prevM, h]
def goodT (L : List Ten) (j : Nat) : Bool := match L[j]? with
  | some t => decide (prevM L j < t.m) && (decide t.st.Ok && decide t.pg.Ok)
  | none => true
theorem goodT_get {L : List Ten} {j : Nat} (h : j < L.length) : goodT L j = (decide (prevM L j < L[j].m) && (decide L[j].st.Ok && decide L[j].pg.Ok)) := by simp [goodT, h]
def validF (B : Bud) : Bool := decide (Amt B.st) && (decide (Amt B.pg) && (decide (B.L.length ≤ 32) && ((List.range B.L.length).all (goodT B.L) && (decide (sumT stR B.L ≤ B.st) && decide (sumT pgR B.L ≤ B.pg)))))
theorem valid_bad {B : Bud} {j : Nat} (h : j < B.L.length) (hg : goodT B.L j = false) : validF B = false := by
  have : (List.range B.L.length).all (goodT B.L) = false := by rw [List.all_eq_false]; exact ⟨j, by simpa using h, by simp [hg]⟩
  simp [validF, this]
theorem valid_amt {B : Bud} (h : ¬ (Amt B.st ∧ Amt B.pg)) : validF B = false := by
  unfold validF
  by_cases a : Amt B.st
  · by_cases b : Amt B.pg
    · exact absurd ⟨a, b⟩ h
    · simp [b]
  · simp [a]
theorem all_good {L : List Ten} (h : ∀ j, j < L.length → goodT L j = true) : (List.range L.length).all (goodT L) = true := by
  rw [List.all_eq_true]; intro j hj; exact h j (by simpa using hj)

theorem totalT_app {σ : H} {L : List Ten} {sl : Value} {g : Nat} {cp : Array Value} {f : Ten → Int} (hr : Row σ 7 sl (L.map tenV)) (hb : ∀ c ∈ L, 0 ≤ f c ∧ f c ≤ 1073741824) (hlen : L.length ≤ 100000)
    (hf : ∀ (c : Ten) (τ : H), App Try.prog (.func g) cp #[.agg (tenV c).toArray] τ fun v σ' => σ' = τ ∧ v = .int .i64 (f c)) :
    App Try.prog (.func 38) #[] #[sl, .func (.func g) #[] cp] σ fun v σ' => σ' = σ ∧ v = .int .i64 (sumT f L) := by
  refine App.forget (App.of_sem mixed Try.func38 t38 k38 r38 (Nat.le_of_ble_eq_true rfl) ?_)
  obtain ⟨base, cap, rfl⟩ := hr.slice
  simp only [List.length_map] at hr ⊢
  unfold s38
  simp only [↓eD0, ↓eD1, eC0, eC1, eC2, eC3, eC4, eC5, eC6, wantedE, ↓reduceIte, Nat.reduceEqDiff, Option.map_some, Option.map_none, reread, List.nil_append, List.cons_append, List.map_cons, List.map_nil, List.length_nil, List.length_cons, Value.cells, List.getElem?_cons_zero, List.getElem?_cons_succ, outE, lks, lkR, rdV, neg1, evs, opt, Nat.reduceAdd, Nat.reduceMul, and_self, reduceCtorEq, List.size_toArray, List.all_cons, List.all_nil, Value.oneCell', List.set_cons_zero, List.set_cons_succ, sets, fillL, Nat.reduceLeDiff, List.drop_succ_cons, List.drop_zero, List.take_succ_cons, List.take_zero, List.toList_toArray, argsE, Array.append_empty, Array.empty_append, List.getElem?_toArray, Int.reduceLT, Int.reduceLE, Int.reduceToNat, Int.reduceEq, Nat.reduceLT]
  refine loop_for (J := fun i e τ => Old σ τ ∧ i ≤ L.length ∧ e = [(1, .func (.func g) #[] cp), (5, .int .i64 (sumT f (L.take i))), (8, .slice base L.length cap), (9, .int .i64 L.length), (10, .int .i64 i)]) L.length ⟨.refl, by omega, rfl⟩ ?_
  rintro i e τ hi ⟨ho, _, rfl⟩
  have e1 : ap τ [] = τ := ap_nil
  rw [← e1]
  by_cases hlt : i < L.length
  · have dl : decide ((i:Int) < (L.length : Int)) = true := by simpa using hlt
    have hx : (L.map tenV)[i]? = some (tenV L[i]) := by simp [hlt]
    obtain ⟨b, off, rfl, h1⟩ := hr.at hx
    have h3 : ∀ l, rdN (ap τ l) ⟨b, off + i * 7, none⟩ 7 = some (tenV L[i]) := fun l => rdN_Old (ho.trans .ap) h1
    have hbi : (0:Int) ≤ (i:Int) ∧ (i:Int) < (L.length : Int) := by omega
    have hw : IntKind.wrap .i64 ((i:Int) + 1) = ((i + 1 : Nat) : Int) := by rw [wrap64 (by omega) (by omega)]; omega
    have st := sumT_take (f := f) hlt
    have b1 := sumT_bounds (f := f) (l := L.take i) (fun x hx => hb x (List.mem_of_mem_take hx))
    have b2 := hb L[i] (by simp)
    simp only [List.length_take] at b1
    have ws : IntKind.wrap .i64 (sumT f (L.take i) + f L[i]) = sumT f (L.take (i + 1)) := by rw [wrap64 (by omega) (by omega), st]
    simp only [↓eD0, ↓eD1, eC0, eC1, eC2, eC3, eC4, eC5, eC6, wantedE, ↓reduceIte, Nat.reduceEqDiff, Option.map_some, Option.map_none, reread, List.nil_append, List.cons_append, List.map_cons, List.map_nil, List.length_nil, List.length_cons, Value.cells, List.getElem?_cons_zero, List.getElem?_cons_succ, outE, lks, lkR, rdV, neg1, evs, opt, Nat.reduceAdd, Nat.reduceMul, and_self, reduceCtorEq, List.size_toArray, List.all_cons, List.all_nil, Value.oneCell', List.set_cons_zero, List.set_cons_succ, sets, fillL, Nat.reduceLeDiff, List.drop_succ_cons, List.drop_zero, List.take_succ_cons, List.take_zero, List.toList_toArray, argsE, Array.append_empty, Array.empty_append, List.getElem?_toArray, Int.reduceLT, Int.reduceLE, Int.reduceToNat, Int.reduceEq, Nat.reduceLT, dl, hbi, Int.toNat_natCast, h3, tenV, rep7]
    refine appK_of (hf L[i] _) ?_
    rintro _ _ ⟨e2, rfl⟩
    rw [e2]
    clear e2
    simp only [↓eD0, ↓eD1, eC0, eC1, eC2, eC3, eC4, eC5, eC6, wantedE, ↓reduceIte, Nat.reduceEqDiff, Option.map_some, Option.map_none, reread, List.nil_append, List.cons_append, List.map_cons, List.map_nil, List.length_nil, List.length_cons, Value.cells, List.getElem?_cons_zero, List.getElem?_cons_succ, outE, lks, lkR, rdV, neg1, evs, opt, Nat.reduceAdd, Nat.reduceMul, and_self, reduceCtorEq, List.size_toArray, List.all_cons, List.all_nil, Value.oneCell', List.set_cons_zero, List.set_cons_succ, sets, fillL, Nat.reduceLeDiff, List.drop_succ_cons, List.drop_zero, List.take_succ_cons, List.take_zero, List.toList_toArray, argsE, Array.append_empty, Array.empty_append, List.getElem?_toArray, Int.reduceLT, Int.reduceLE, Int.reduceToNat, Int.reduceEq, Nat.reduceLT, hw, ws]
    exact ⟨hlt, ho.trans .ap, by omega⟩
  · have : i = L.length := by omega
    subst this
    have dl : decide ((L.length:Int) < (L.length : Int)) = false := by simp
    simp only [↓eD0, ↓eD1, eC0, eC1, eC2, eC3, eC4, eC5, eC6, wantedE, ↓reduceIte, Nat.reduceEqDiff, Option.map_some, Option.map_none, reread, List.nil_append, List.cons_append, List.map_cons, List.map_nil, List.length_nil, List.length_cons, Value.cells, List.getElem?_cons_zero, List.getElem?_cons_succ, outE, lks, lkR, rdV, neg1, evs, opt, Nat.reduceAdd, Nat.reduceMul, and_self, reduceCtorEq, List.size_toArray, List.all_cons, List.all_nil, Value.oneCell', List.set_cons_zero, List.set_cons_succ, sets, fillL, Nat.reduceLeDiff, List.drop_succ_cons, List.drop_zero, List.take_succ_cons, List.take_zero, List.toList_toArray, argsE, Array.append_empty, Array.empty_append, List.getElem?_toArray, Int.reduceLT, Int.reduceLE, Int.reduceToNat, Int.reduceEq, Nat.reduceLT, dl, List.take_length]
    exact ⟨ho.trans .ap, rfl⟩
theorem stR_app {c : Ten} {σ : H} : App Try.prog (.func 39) #[] #[.agg (tenV c).toArray] σ fun v σ' => σ' = σ ∧ v = .int .i64 (stR c) := by
  refine App.forget (App.of_sem mixed Try.func39 t39 k39 r39 (Nat.le_of_ble_eq_true rfl) ?_)
  rw [← ap_nil (σ := σ)]
  unfold s39
  simp only [↓eD0, ↓eD1, eC0, eC1, eC2, eC3, eC4, eC5, eC6, wantedE, ↓reduceIte, Nat.reduceEqDiff, Option.map_some, Option.map_none, reread, List.nil_append, List.cons_append, List.map_cons, List.map_nil, List.length_nil, List.length_cons, Value.cells, List.getElem?_cons_zero, List.getElem?_cons_succ, outE, lks, lkR, rdV, neg1, evs, opt, Nat.reduceAdd, Nat.reduceMul, and_self, reduceCtorEq, List.size_toArray, List.all_cons, List.all_nil, Value.oneCell', List.set_cons_zero, List.set_cons_succ, sets, fillL, Nat.reduceLeDiff, List.drop_succ_cons, List.drop_zero, List.take_succ_cons, List.take_zero, List.toList_toArray, argsE, Array.append_empty, Array.empty_append, List.getElem?_toArray, Int.reduceLT, Int.reduceLE, Int.reduceToNat, Int.reduceEq, Nat.reduceLT, tenV]
  exact ⟨.ap, by simp [flat, stR]⟩
theorem pgR_app {c : Ten} {σ : H} : App Try.prog (.func 40) #[] #[.agg (tenV c).toArray] σ fun v σ' => σ' = σ ∧ v = .int .i64 (pgR c) := by
  refine App.forget (App.of_sem mixed Try.func40 t40 k40 r40 (Nat.le_of_ble_eq_true rfl) ?_)
  rw [← ap_nil (σ := σ)]
  unfold s40
  simp only [↓eD0, ↓eD1, eC0, eC1, eC2, eC3, eC4, eC5, eC6, wantedE, ↓reduceIte, Nat.reduceEqDiff, Option.map_some, Option.map_none, reread, List.nil_append, List.cons_append, List.map_cons, List.map_nil, List.length_nil, List.length_cons, Value.cells, List.getElem?_cons_zero, List.getElem?_cons_succ, outE, lks, lkR, rdV, neg1, evs, opt, Nat.reduceAdd, Nat.reduceMul, and_self, reduceCtorEq, List.size_toArray, List.all_cons, List.all_nil, Value.oneCell', List.set_cons_zero, List.set_cons_succ, sets, fillL, Nat.reduceLeDiff, List.drop_succ_cons, List.drop_zero, List.take_succ_cons, List.take_zero, List.toList_toArray, argsE, Array.append_empty, Array.empty_append, List.getElem?_toArray, Int.reduceLT, Int.reduceLE, Int.reduceToNat, Int.reduceEq, Nat.reduceLT, tenV]
  exact ⟨.ap, by simp [flat, pgR]⟩

theorem valid_app {σ : H} {l : List Value} {B : Bud} (h : IsB σ l B) : App Try.prog (.func 20) #[] #[.agg l.toArray] σ fun v σ' => σ' = σ ∧ v = .bool (validF B) := by
  refine App.forget (App.of_sem mixed Try.func20 t20 k20 r20 (Nat.le_of_ble_eq_true rfl) ?_)
  obtain ⟨base, cap, rfl, hr, _⟩ := h
  rw [← ap_nil (σ := σ)]
  unfold s20
  have m1 := mn_le B.st B.pg
  have m2 := mx_ge B.st B.pg
  by_cases h1 : mn B.st B.pg < 0
  case pos =>
    have d1 : decide (mn B.st B.pg < 0) = true := by simpa using h1
    simp only [↓eD0, ↓eD1, eC0, eC1, eC2, eC3, eC4, eC5, eC6, wantedE, ↓reduceIte, Nat.reduceEqDiff, Option.map_some, Option.map_none, reread, List.nil_append, List.cons_append, List.map_cons, List.map_nil, List.length_nil, List.length_cons, Value.cells, List.getElem?_cons_zero, List.getElem?_cons_succ, outE, lks, lkR, rdV, neg1, evs, opt, Nat.reduceAdd, Nat.reduceMul, and_self, reduceCtorEq, List.size_toArray, List.all_cons, List.all_nil, Value.oneCell', List.set_cons_zero, List.set_cons_succ, sets, fillL, Nat.reduceLeDiff, List.drop_succ_cons, List.drop_zero, List.take_succ_cons, List.take_zero, List.toList_toArray, argsE, Array.append_empty, Array.empty_append, List.getElem?_toArray, Int.reduceLT, Int.reduceLE, Int.reduceToNat, Int.reduceEq, Nat.reduceLT, budV, mn_eq, mx_eq, d1, undef_eq]
    exact ⟨.ap, by simp [flat], by rw [valid_amt (by unfold Amt; omega)]⟩
  have d1 : decide (mn B.st B.pg < 0) = false := by simpa using h1
  by_cases h2 : 1073741824 < mx B.st B.pg
  case pos =>
    have d2 : decide (1073741824 < mx B.st B.pg) = true := by simpa using h2
    simp only [↓eD0, ↓eD1, eC0, eC1, eC2, eC3, eC4, eC5, eC6, wantedE, ↓reduceIte, Nat.reduceEqDiff, Option.map_some, Option.map_none, reread, List.nil_append, List.cons_append, List.map_cons, List.map_nil, List.length_nil, List.length_cons, Value.cells, List.getElem?_cons_zero, List.getElem?_cons_succ, outE, lks, lkR, rdV, neg1, evs, opt, Nat.reduceAdd, Nat.reduceMul, and_self, reduceCtorEq, List.size_toArray, List.all_cons, List.all_nil, Value.oneCell', List.set_cons_zero, List.set_cons_succ, sets, fillL, Nat.reduceLeDiff, List.drop_succ_cons, List.drop_zero, List.take_succ_cons, List.take_zero, List.toList_toArray, argsE, Array.append_empty, Array.empty_append, List.getElem?_toArray, Int.reduceLT, Int.reduceLE, Int.reduceToNat, Int.reduceEq, Nat.reduceLT, budV, mn_eq, mx_eq, d1, d2, undef_eq]
    exact ⟨.ap, by simp [flat], by rw [valid_amt (by unfold Amt; omega)]⟩
  have d2 : decide (1073741824 < mx B.st B.pg) = false := by simpa using h2
  have a1 : Amt B.st := ⟨by omega, by omega⟩
  have a2 : Amt B.pg := ⟨by omega, by omega⟩
  by_cases h3 : B.L.length ≤ 32
  case neg =>
    have d3 : decide ((32:Int) < (B.L.length:Int)) = true := by simp; omega
    simp only [↓eD0, ↓eD1, eC0, eC1, eC2, eC3, eC4, eC5, eC6, wantedE, ↓reduceIte, Nat.reduceEqDiff, Option.map_some, Option.map_none, reread, List.nil_append, List.cons_append, List.map_cons, List.map_nil, List.length_nil, List.length_cons, Value.cells, List.getElem?_cons_zero, List.getElem?_cons_succ, outE, lks, lkR, rdV, neg1, evs, opt, Nat.reduceAdd, Nat.reduceMul, and_self, reduceCtorEq, List.size_toArray, List.all_cons, List.all_nil, Value.oneCell', List.set_cons_zero, List.set_cons_succ, sets, fillL, Nat.reduceLeDiff, List.drop_succ_cons, List.drop_zero, List.take_succ_cons, List.take_zero, List.toList_toArray, argsE, Array.append_empty, Array.empty_append, List.getElem?_toArray, Int.reduceLT, Int.reduceLE, Int.reduceToNat, Int.reduceEq, Nat.reduceLT, budV, mn_eq, mx_eq, d1, d2, d3, undef_eq]
    exact ⟨.ap, by simp [flat], by simp [validF, h3]⟩
  have d3 : decide ((32:Int) < (B.L.length:Int)) = false := by simp; omega
  simp only [↓eD0, ↓eD1, eC0, eC1, eC2, eC3, eC4, eC5, eC6, wantedE, ↓reduceIte, Nat.reduceEqDiff, Option.map_some, Option.map_none, reread, List.nil_append, List.cons_append, List.map_cons, List.map_nil, List.length_nil, List.length_cons, Value.cells, List.getElem?_cons_zero, List.getElem?_cons_succ, outE, lks, lkR, rdV, neg1, evs, opt, Nat.reduceAdd, Nat.reduceMul, and_self, reduceCtorEq, List.size_toArray, List.all_cons, List.all_nil, Value.oneCell', List.set_cons_zero, List.set_cons_succ, sets, fillL, Nat.reduceLeDiff, List.drop_succ_cons, List.drop_zero, List.take_succ_cons, List.take_zero, List.toList_toArray, argsE, Array.append_empty, Array.empty_append, List.getElem?_toArray, Int.reduceLT, Int.reduceLE, Int.reduceToNat, Int.reduceEq, Nat.reduceLT, budV, mn_eq, mx_eq, d1, d2, d3, undef_eq]
  generalize hT : ap σ [.cells 0 [.int .i64 B.st, .int .i64 B.pg, .slice base B.L.length cap] (0, 0)] = T
  have hoT : Old σ T := hT ▸ .ap
  have q0 : T[σ.size]? = some (.cells 0 [.int .i64 B.st, .int .i64 B.pg, .slice base B.L.length cap] (0, 0)) := by rw [← hT]; exact ap_new0
  refine loop_for (J := fun i e τ => Old T τ ∧ i ≤ B.L.length ∧ e = [(1, .pointer (some ⟨σ.size, 0, none⟩)), (3, .int .i64 (prevM B.L i)), (29, .slice base B.L.length cap), (30, .int .i64 B.L.length), (31, .int .i64 i)] ∧ ∀ j, j < i → goodT B.L j = true) B.L.length ⟨.refl, by omega, rfl, fun j h => by omega⟩ ?_
  rintro i e τ hi ⟨hoτ, _, rfl, hg⟩
  have ho : Old σ τ := hoT.trans hoτ
  have q1 := (hoτ.2 _ (Array.getElem?_eq_some_iff.1 q0).1).trans q0
  have z1 := (Array.getElem?_eq_some_iff.1 q1).1
  have e1 : ap τ [] = τ := ap_nil
  have r0 : ∀ L, rd1 (ap τ L) ⟨σ.size, 0, none⟩ = some (.int .i64 B.st) := fun L => by rw [rd1_eq, ap_old z1, q1]; rfl
  have r1 : ∀ L, rd1 (ap τ L) ⟨σ.size, 1, none⟩ = some (.int .i64 B.pg) := fun L => by rw [rd1_eq, ap_old z1, q1]; rfl
  have r2 : ∀ L, rd1 (ap τ L) ⟨σ.size, 2, none⟩ = some (.slice base B.L.length cap) := fun L => by rw [rd1_eq, ap_old z1, q1]; rfl
  rw [← e1]
  by_cases hlt : i < B.L.length
  · have dl : decide ((i:Int) < (B.L.length : Int)) = true := by simpa using hlt
    have hx : (B.L.map tenV)[i]? = some (tenV B.L[i]) := by simp [hlt]
    obtain ⟨b, off, rfl, g1⟩ := hr.at hx
    have g3 : ∀ l, rdN (ap τ l) ⟨b, off + i * 7, none⟩ 7 = some (tenV B.L[i]) := fun l => rdN_Old (ho.trans .ap) g1
    have hbi : (0:Int) ≤ (i:Int) ∧ (i:Int) < (B.L.length : Int) := by omega
    have hw : IntKind.wrap .i64 ((i:Int) + 1) = ((i + 1 : Nat) : Int) := by rw [wrap64 (by omega) (by omega)]; omega
    have gg := goodT_get hlt
    by_cases c1 : B.L[i].m ≤ prevM B.L i
    case pos =>
      have dc1 : decide (B.L[i].m ≤ prevM B.L i) = true := by simpa using c1
      simp only [↓eD0, ↓eD1, eC0, eC1, eC2, eC3, eC4, eC5, eC6, wantedE, ↓reduceIte, Nat.reduceEqDiff, Option.map_some, Option.map_none, reread, List.nil_append, List.cons_append, List.map_cons, List.map_nil, List.length_nil, List.length_cons, Value.cells, List.getElem?_cons_zero, List.getElem?_cons_succ, outE, lks, lkR, rdV, neg1, evs, opt, Nat.reduceAdd, Nat.reduceMul, and_self, reduceCtorEq, List.size_toArray, List.all_cons, List.all_nil, Value.oneCell', List.set_cons_zero, List.set_cons_succ, sets, fillL, Nat.reduceLeDiff, List.drop_succ_cons, List.drop_zero, List.take_succ_cons, List.take_zero, List.toList_toArray, argsE, Array.append_empty, Array.empty_append, List.getElem?_toArray, Int.reduceLT, Int.reduceLE, Int.reduceToNat, Int.reduceEq, Nat.reduceLT, dl, hbi, Int.toNat_natCast, g3, tenV, rep7, dc1, undef_eq]
      exact ⟨ho.trans .ap, by simp [flat], by rw [valid_bad hlt (by rw [gg, decide_eq_false (by omega)]; rfl)]⟩
    have dc1 : decide (B.L[i].m ≤ prevM B.L i) = false := by simpa using c1
    have dc1' : decide (prevM B.L i < B.L[i].m) = true := by simp; omega
    simp only [↓eD0, ↓eD1, eC0, eC1, eC2, eC3, eC4, eC5, eC6, wantedE, ↓reduceIte, Nat.reduceEqDiff, Option.map_some, Option.map_none, reread, List.nil_append, List.cons_append, List.map_cons, List.map_nil, List.length_nil, List.length_cons, Value.cells, List.getElem?_cons_zero, List.getElem?_cons_succ, outE, lks, lkR, rdV, neg1, evs, opt, Nat.reduceAdd, Nat.reduceMul, and_self, reduceCtorEq, List.size_toArray, List.all_cons, List.all_nil, Value.oneCell', List.set_cons_zero, List.set_cons_succ, sets, fillL, Nat.reduceLeDiff, List.drop_succ_cons, List.drop_zero, List.take_succ_cons, List.take_zero, List.toList_toArray, argsE, Array.append_empty, Array.empty_append, List.getElem?_toArray, Int.reduceLT, Int.reduceLE, Int.reduceToNat, Int.reduceEq, Nat.reduceLT, dl, hbi, Int.toNat_natCast, g3, tenV, rep7, dc1, undef_eq]
    refine appK_of (right_app (c := B.L[i].st)) ?_
    rintro _ _ ⟨e2, rfl⟩
    rw [e2]
    clear e2
    by_cases c2 : B.L[i].st.Ok
    case neg =>
      have dc2 : decide B.L[i].st.Ok = false := by simpa using c2
      simp only [↓eD0, ↓eD1, eC0, eC1, eC2, eC3, eC4, eC5, eC6, wantedE, ↓reduceIte, Nat.reduceEqDiff, Option.map_some, Option.map_none, reread, List.nil_append, List.cons_append, List.map_cons, List.map_nil, List.length_nil, List.length_cons, Value.cells, List.getElem?_cons_zero, List.getElem?_cons_succ, outE, lks, lkR, rdV, neg1, evs, opt, Nat.reduceAdd, Nat.reduceMul, and_self, reduceCtorEq, List.size_toArray, List.all_cons, List.all_nil, Value.oneCell', List.set_cons_zero, List.set_cons_succ, sets, fillL, Nat.reduceLeDiff, List.drop_succ_cons, List.drop_zero, List.take_succ_cons, List.take_zero, List.toList_toArray, argsE, Array.append_empty, Array.empty_append, List.getElem?_toArray, Int.reduceLT, Int.reduceLE, Int.reduceToNat, Int.reduceEq, Nat.reduceLT, dc2, undef_eq]
      exact ⟨ho.trans .ap, by simp [flat], by rw [valid_bad hlt (by rw [gg, dc2]; simp)]⟩
    have dc2 : decide B.L[i].st.Ok = true := by simpa using c2
    simp only [↓eD0, ↓eD1, eC0, eC1, eC2, eC3, eC4, eC5, eC6, wantedE, ↓reduceIte, Nat.reduceEqDiff, Option.map_some, Option.map_none, reread, List.nil_append, List.cons_append, List.map_cons, List.map_nil, List.length_nil, List.length_cons, Value.cells, List.getElem?_cons_zero, List.getElem?_cons_succ, outE, lks, lkR, rdV, neg1, evs, opt, Nat.reduceAdd, Nat.reduceMul, and_self, reduceCtorEq, List.size_toArray, List.all_cons, List.all_nil, Value.oneCell', List.set_cons_zero, List.set_cons_succ, sets, fillL, Nat.reduceLeDiff, List.drop_succ_cons, List.drop_zero, List.take_succ_cons, List.take_zero, List.toList_toArray, argsE, Array.append_empty, Array.empty_append, List.getElem?_toArray, Int.reduceLT, Int.reduceLE, Int.reduceToNat, Int.reduceEq, Nat.reduceLT, dc2, undef_eq]
    refine appK_of (right_app (c := B.L[i].pg)) ?_
    rintro _ _ ⟨e2, rfl⟩
    rw [e2]
    clear e2
    by_cases c3 : B.L[i].pg.Ok
    case neg =>
      have dc3 : decide B.L[i].pg.Ok = false := by simpa using c3
      simp only [↓eD0, ↓eD1, eC0, eC1, eC2, eC3, eC4, eC5, eC6, wantedE, ↓reduceIte, Nat.reduceEqDiff, Option.map_some, Option.map_none, reread, List.nil_append, List.cons_append, List.map_cons, List.map_nil, List.length_nil, List.length_cons, Value.cells, List.getElem?_cons_zero, List.getElem?_cons_succ, outE, lks, lkR, rdV, neg1, evs, opt, Nat.reduceAdd, Nat.reduceMul, and_self, reduceCtorEq, List.size_toArray, List.all_cons, List.all_nil, Value.oneCell', List.set_cons_zero, List.set_cons_succ, sets, fillL, Nat.reduceLeDiff, List.drop_succ_cons, List.drop_zero, List.take_succ_cons, List.take_zero, List.toList_toArray, argsE, Array.append_empty, Array.empty_append, List.getElem?_toArray, Int.reduceLT, Int.reduceLE, Int.reduceToNat, Int.reduceEq, Nat.reduceLT, dc3, undef_eq]
      exact ⟨ho.trans .ap, by simp [flat], by rw [valid_bad hlt (by rw [gg, dc3]; simp)]⟩
    have dc3 : decide B.L[i].pg.Ok = true := by simpa using c3
    simp only [↓eD0, ↓eD1, eC0, eC1, eC2, eC3, eC4, eC5, eC6, wantedE, ↓reduceIte, Nat.reduceEqDiff, Option.map_some, Option.map_none, reread, List.nil_append, List.cons_append, List.map_cons, List.map_nil, List.length_nil, List.length_cons, Value.cells, List.getElem?_cons_zero, List.getElem?_cons_succ, outE, lks, lkR, rdV, neg1, evs, opt, Nat.reduceAdd, Nat.reduceMul, and_self, reduceCtorEq, List.size_toArray, List.all_cons, List.all_nil, Value.oneCell', List.set_cons_zero, List.set_cons_succ, sets, fillL, Nat.reduceLeDiff, List.drop_succ_cons, List.drop_zero, List.take_succ_cons, List.take_zero, List.toList_toArray, argsE, Array.append_empty, Array.empty_append, List.getElem?_toArray, Int.reduceLT, Int.reduceLE, Int.reduceToNat, Int.reduceEq, Nat.reduceLT, dc3, undef_eq, hw]
    refine ⟨hlt, hoτ.trans .ap, by omega, by rw [prevM_succ hlt], fun j hj => ?_⟩
    by_cases hji : j = i
    · subst hji; rw [gg, dc1', dc2, dc3]; rfl
    · exact hg j (by omega)
  · have : i = B.L.length := by omega
    subst this
    have dl : decide ((B.L.length:Int) < (B.L.length : Int)) = false := by simp
    have hall := all_good hg
    have hbs : ∀ c ∈ B.L, (0 ≤ stR c ∧ stR c ≤ 1073741824) ∧ (0 ≤ pgR c ∧ pgR c ≤ 1073741824) := by
      intro c hc
      obtain ⟨j, hj, rfl⟩ := List.getElem_of_mem hc
      have := hg j hj
      rw [goodT_get hj] at this
      simp only [Bool.and_eq_true, decide_eq_true_eq] at this
      obtain ⟨_, ⟨p1, p2, p3, _⟩, ⟨p4, p5, p6, _⟩⟩ := this
      unfold stR pgR
      omega
    simp only [↓eD0, ↓eD1, eC0, eC1, eC2, eC3, eC4, eC5, eC6, wantedE, ↓reduceIte, Nat.reduceEqDiff, Option.map_some, Option.map_none, reread, List.nil_append, List.cons_append, List.map_cons, List.map_nil, List.length_nil, List.length_cons, Value.cells, List.getElem?_cons_zero, List.getElem?_cons_succ, outE, lks, lkR, rdV, neg1, evs, opt, Nat.reduceAdd, Nat.reduceMul, and_self, reduceCtorEq, List.size_toArray, List.all_cons, List.all_nil, Value.oneCell', List.set_cons_zero, List.set_cons_succ, sets, fillL, Nat.reduceLeDiff, List.drop_succ_cons, List.drop_zero, List.take_succ_cons, List.take_zero, List.toList_toArray, argsE, Array.append_empty, Array.empty_append, List.getElem?_toArray, Int.reduceLT, Int.reduceLE, Int.reduceToNat, Int.reduceEq, Nat.reduceLT, dl, r2]
    refine appK_of (totalT_app (hr.Old (ho.trans .ap)) (f := stR) (fun c hc => (hbs c hc).1) (by omega) (fun c τ => stR_app)) ?_
    rintro _ _ ⟨e2, rfl⟩
    rw [e2]
    clear e2
    simp only [↓eD0, ↓eD1, eC0, eC1, eC2, eC3, eC4, eC5, eC6, wantedE, ↓reduceIte, Nat.reduceEqDiff, Option.map_some, Option.map_none, reread, List.nil_append, List.cons_append, List.map_cons, List.map_nil, List.length_nil, List.length_cons, Value.cells, List.getElem?_cons_zero, List.getElem?_cons_succ, outE, lks, lkR, rdV, neg1, evs, opt, Nat.reduceAdd, Nat.reduceMul, and_self, reduceCtorEq, List.size_toArray, List.all_cons, List.all_nil, Value.oneCell', List.set_cons_zero, List.set_cons_succ, sets, fillL, Nat.reduceLeDiff, List.drop_succ_cons, List.drop_zero, List.take_succ_cons, List.take_zero, List.toList_toArray, argsE, Array.append_empty, Array.empty_append, List.getElem?_toArray, Int.reduceLT, Int.reduceLE, Int.reduceToNat, Int.reduceEq, Nat.reduceLT, r2]
    refine appK_of (totalT_app (hr.Old (ho.trans .ap)) (f := pgR) (fun c hc => (hbs c hc).2) (by omega) (fun c τ => pgR_app)) ?_
    rintro _ _ ⟨e2, rfl⟩
    rw [e2]
    clear e2
    by_cases s1 : sumT stR B.L ≤ B.st
    case neg =>
      have ds1 : decide (sumT stR B.L ≤ B.st) = false := by simpa using s1
      simp only [↓eD0, ↓eD1, eC0, eC1, eC2, eC3, eC4, eC5, eC6, wantedE, ↓reduceIte, Nat.reduceEqDiff, Option.map_some, Option.map_none, reread, List.nil_append, List.cons_append, List.map_cons, List.map_nil, List.length_nil, List.length_cons, Value.cells, List.getElem?_cons_zero, List.getElem?_cons_succ, outE, lks, lkR, rdV, neg1, evs, opt, Nat.reduceAdd, Nat.reduceMul, and_self, reduceCtorEq, List.size_toArray, List.all_cons, List.all_nil, Value.oneCell', List.set_cons_zero, List.set_cons_succ, sets, fillL, Nat.reduceLeDiff, List.drop_succ_cons, List.drop_zero, List.take_succ_cons, List.take_zero, List.toList_toArray, argsE, Array.append_empty, Array.empty_append, List.getElem?_toArray, Int.reduceLT, Int.reduceLE, Int.reduceToNat, Int.reduceEq, Nat.reduceLT, r0, r1, ds1, undef_eq]
      exact ⟨ho.trans .ap, by simp [flat], by simp [validF, s1]⟩
    have ds1 : decide (sumT stR B.L ≤ B.st) = true := by simpa using s1
    simp only [↓eD0, ↓eD1, eC0, eC1, eC2, eC3, eC4, eC5, eC6, wantedE, ↓reduceIte, Nat.reduceEqDiff, Option.map_some, Option.map_none, reread, List.nil_append, List.cons_append, List.map_cons, List.map_nil, List.length_nil, List.length_cons, Value.cells, List.getElem?_cons_zero, List.getElem?_cons_succ, outE, lks, lkR, rdV, neg1, evs, opt, Nat.reduceAdd, Nat.reduceMul, and_self, reduceCtorEq, List.size_toArray, List.all_cons, List.all_nil, Value.oneCell', List.set_cons_zero, List.set_cons_succ, sets, fillL, Nat.reduceLeDiff, List.drop_succ_cons, List.drop_zero, List.take_succ_cons, List.take_zero, List.toList_toArray, argsE, Array.append_empty, Array.empty_append, List.getElem?_toArray, Int.reduceLT, Int.reduceLE, Int.reduceToNat, Int.reduceEq, Nat.reduceLT, r0, r1, ds1, undef_eq]
    exact ⟨ho.trans .ap, by simp [flat], by simp [validF, s1, a1, a2, h3, hall]⟩
end Go.Proofs.Ytimcgoghjebalaa
