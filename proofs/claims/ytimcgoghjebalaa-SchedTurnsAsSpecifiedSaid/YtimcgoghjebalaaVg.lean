/- Walks and plain laws. Conditions: none. -/
import Derived.Test.YtimcgoghjebalaaSc
set_option linter.all false
set_option linter.unusedSimpArgs false
set_option linter.unusedVariables false
set_option maxRecDepth 10000
set_option maxHeartbeats 1000000
namespace Go.Proofs.Ytimcgoghjebalaa
open Go Go.Cn Go.RowKit

/-! ### What a division is, in plain Lean -/
theorem fillG_get {L : Int} : ∀ {cs : List Cl} {left : Int} {i : Nat} (h : i < cs.length), (fillG L cs left)[i]? = some (atC cs[i] L + mn (leftG L (cs.take i) left) (atC cs[i] (L + 1) - atC cs[i] L))
  | [], _, _, h => by simp at h
  | c :: r, left, 0, _ => by simp [fillG, leftG]
  | c :: r, left, i + 1, h => by
    have := fillG_get (L := L) (cs := r) (left := left - mn left (atC c (L + 1) - atC c L)) (i := i) (by simpa using h)
    rw [fillG, List.getElem?_cons_succ, this]
    simp [leftG]
def sumI : List Int → Int
  | [] => 0
  | x :: r => x + sumI r
theorem sumI_app {a b : List Int} : sumI (a ++ b) = sumI a + sumI b := by
  induction a with
  | nil => simp [sumI]
  | cons c a ih => rw [List.cons_append, sumI, sumI, ih]; omega
theorem sumI_take {l : List Int} {i : Nat} (h : i < l.length) : sumI (l.take (i + 1)) = sumI (l.take i) + l[i] := by
  rw [List.take_succ_eq_append_getElem h, sumI_app, sumI, sumI]; omega
theorem sum_fill {L : Int} : ∀ {cs : List Cl} {left : Int}, sumI (fillG L cs left) + leftG L cs left = sumC cs L + left
  | [], left => by simp [fillG, sumI, leftG, sumC]
  | c :: r, left => by
    have := sum_fill (L := L) (cs := r) (left := left - mn left (atC c (L + 1) - atC c L))
    rw [fillG, sumI, leftG, sumC]
    omega
theorem leftG_val {L : Int} : ∀ {cs : List Cl} {left : Int}, AllOk cs → 0 ≤ left → leftG L cs left = if left ≤ sumC cs (L + 1) - sumC cs L then 0 else left - (sumC cs (L + 1) - sumC cs L)
  | [], left, _, h => by
    by_cases h0 : left = 0
    · subst h0; simp [leftG, sumC]
    · rw [if_neg (by simp only [sumC]; omega)]; simp [leftG, sumC]
  | c :: r, left, ok, h => by
    have h1 := mn_le left (atC c (L + 1) - atC c L)
    have h2 := atC_mono (t := L) (u := L + 1) (ok c (by simp)) (by omega)
    have h3 := sumC_mono (cs := r) (t := L) (u := L + 1) (fun x hx => ok x (by simp [hx])) (by omega)
    have := leftG_val (L := L) (cs := r) (left := left - mn left (atC c (L + 1) - atC c L)) (fun x hx => ok x (by simp [hx])) (by omega)
    rw [leftG, this, sumC, sumC]
    by_cases hl : left ≤ atC c (L + 1) - atC c L
    · have : mn left (atC c (L + 1) - atC c L) = left := by unfold mn; split <;> omega
      rw [this]
      split <;> split <;> omega
    · have : mn left (atC c (L + 1) - atC c L) = atC c (L + 1) - atC c L := by unfold mn; split <;> omega
      rw [this]
      split <;> split <;> omega
theorem at_top {c : Cl} {t : Int} (hc : c.Ok) (ht : 1073741824 ≤ t) : atC c t = c.t := by
  have h1 := mn_le c.t (c.b + t * c.s)
  obtain ⟨h2, h3, h4, h5, h6⟩ := hc
  have : 1073741824 * c.s ≤ t * c.s := Int.mul_le_mul_of_nonneg_right ht (by omega)
  unfold atC mn
  rw [if_neg (by omega)]

theorem fillC_len {cs : List Cl} {cap : Int} : (fillC cs cap).length = cs.length := fillG_len
/-- The elements of a division. -/
theorem fill_get {cs : List Cl} {cap : Int} (ok : AllOk cs) (hL : Level cs cap (levelF cs cap)) {i : Nat} (h : i < cs.length) (h' : i < (fillC cs cap).length) :
    atC cs[i] (levelF cs cap) ≤ (fillC cs cap)[i] ∧ (fillC cs cap)[i] ≤ atC cs[i] (levelF cs cap + 1) ∧ cs[i].b ≤ (fillC cs cap)[i] ∧ (fillC cs cap)[i] ≤ cs[i].t := by
  have hg := fillG_get (L := levelF cs cap) (cs := cs) (left := cap - sumC cs (levelF cs cap)) h
  have he : (fillC cs cap)[i] = atC cs[i] (levelF cs cap) + mn (leftG (levelF cs cap) (cs.take i) (cap - sumC cs (levelF cs cap))) (atC cs[i] (levelF cs cap + 1) - atC cs[i] (levelF cs cap)) := by
    have h0 : (fillC cs cap)[i]? = _ := hg
    rw [List.getElem?_eq_getElem h'] at h0
    exact Option.some.inj h0
  have hc := ok cs[i] (by simp)
  have lb := leftG_bounds (L := levelF cs cap) (a := cs.take i) (left := cap - sumC cs (levelF cs cap)) (fun x hx => ok x (List.mem_of_mem_take hx)) (by have := hL.le; omega)
  have h1 := mn_le (leftG (levelF cs cap) (cs.take i) (cap - sumC cs (levelF cs cap))) (atC cs[i] (levelF cs cap + 1) - atC cs[i] (levelF cs cap))
  have h2 := atC_mono (t := levelF cs cap) (u := levelF cs cap + 1) hc (by omega)
  have h3 := atC_bounds hc hL.h0
  have h4 := atC_bounds (t := levelF cs cap + 1) hc (by have := hL.h0; omega)
  omega
/-- All of a division: the capacity, or all that is wanted. -/
theorem fill_all {cs : List Cl} {cap : Int} (ok : AllOk cs) (hL : Level cs cap (levelF cs cap)) :
    sumI (fillC cs cap) ≤ cap ∧ (sumI (fillC cs cap) = cap ∨ ∀ i (h : i < cs.length) (h' : i < (fillC cs cap).length), (fillC cs cap)[i] = cs[i].t) := by
  have hs := sum_fill (L := levelF cs cap) (cs := cs) (left := cap - sumC cs (levelF cs cap))
  have hv := leftG_val (L := levelF cs cap) (cs := cs) (left := cap - sumC cs (levelF cs cap)) ok (by have := hL.le; omega)
  have hb := leftG_bounds (L := levelF cs cap) (a := cs) (left := cap - sumC cs (levelF cs cap)) ok (by have := hL.le; omega)
  have hd : sumI (fillC cs cap) = sumI (fillG (levelF cs cap) cs (cap - sumC cs (levelF cs cap))) := rfl
  refine ⟨by omega, ?_⟩
  rcases hL.gt with hM | hM
  · right
    intro i h h'
    have hc := ok cs[i] (by simp)
    have h1 := fill_get ok hL h h'
    have h2 := at_top (t := levelF cs cap) hc (by omega)
    omega
  · left
    rw [if_pos (by omega)] at hv
    omega
end Go.Proofs.Ytimcgoghjebalaa

set_option linter.unusedSimpArgs false
set_option linter.unusedVariables false
set_option maxRecDepth 10000
set_option maxHeartbeats 1000000
namespace Go.Proofs.Ytimcgoghjebalaa
open Go Go.Cn Go.RowKit

def fullB (cs : List Cl) (got : List Int) (i : Nat) : Bool := ((got.zip cs).take i).all fun p => decide (p.1 = p.2.t)
theorem fullB_succ {cs : List Cl} {got : List Int} {i : Nat} (h : i < cs.length) (h' : i < got.length) : fullB cs got (i + 1) = (fullB cs got i && decide (got[i] = cs[i].t)) := by
  unfold fullB
  rw [List.take_succ_eq_append_getElem (by simp; omega), List.all_append]
  simp

theorem law4 {σ : H} {l : List Ctr} {ds : List Int} {lv dv : Value} {cap : Int} (hl : Row σ 3 lv (l.map ctrV)) (hd : Row σ 1 dv (ds.map intV)) :
    App Try.prog (.func 4) #[] #[.int .i64 cap, lv, dv] σ fun v σ' => Old σ σ' ∧ v = .bool true := by
  refine App.of_sem mixed Try.func4 t4 k4 r4 (Nat.le_of_ble_eq_true rfl) ?_
  rw [← ap_nil (σ := σ)]
  unfold s4
  simp only [↓eD0, ↓eD1, eC0, eC1, eC2, eC3, eC4, eC5, eC6, wantedE, ↓reduceIte, Nat.reduceEqDiff, Option.map_some, Option.map_none, reread, List.nil_append, List.cons_append, List.map_cons, List.map_nil, List.length_nil, List.length_cons, Value.cells, List.getElem?_cons_zero, List.getElem?_cons_succ, outE, lks, lkR, rdV, neg1, evs, opt, Nat.reduceAdd, Nat.reduceMul, and_self, reduceCtorEq, List.size_toArray, List.all_cons, List.all_nil, Value.oneCell', List.set_cons_zero, List.set_cons_succ, sets, fillL, Nat.reduceLeDiff, List.drop_succ_cons, List.drop_zero, List.take_succ_cons, List.take_zero, List.toList_toArray, argsE, Array.append_empty, Array.empty_append, List.getElem?_toArray, Int.reduceLT, Int.reduceLE, Int.reduceToNat, Int.reduceEq, Nat.reduceLT]
  refine appK_of (filled_app (hl.Old .ap) (hd.Old .ap)) ?_
  rintro _ _ ⟨e2, rfl⟩
  rw [e2]
  clear e2
  cases hF : filledF cap l ds
  · simp only [↓eD0, ↓eD1, eC0, eC1, eC2, eC3, eC4, eC5, eC6, wantedE, ↓reduceIte, Nat.reduceEqDiff, Option.map_some, Option.map_none, reread, List.nil_append, List.cons_append, List.map_cons, List.map_nil, List.length_nil, List.length_cons, Value.cells, List.getElem?_cons_zero, List.getElem?_cons_succ, outE, lks, lkR, rdV, neg1, evs, opt, Nat.reduceAdd, Nat.reduceMul, and_self, reduceCtorEq, List.size_toArray, List.all_cons, List.all_nil, Value.oneCell', List.set_cons_zero, List.set_cons_succ, sets, fillL, Nat.reduceLeDiff, List.drop_succ_cons, List.drop_zero, List.take_succ_cons, List.take_zero, List.toList_toArray, argsE, Array.append_empty, Array.empty_append, List.getElem?_toArray, Int.reduceLT, Int.reduceLE, Int.reduceToNat, Int.reduceEq, Nat.reduceLT, hF]
    refine appK_of sanity_app ?_
    rintro _ _ ⟨e2, rfl⟩
    rw [e2]
    clear e2
    simp only [↓eD0, ↓eD1, eC0, eC1, eC2, eC3, eC4, eC5, eC6, wantedE, ↓reduceIte, Nat.reduceEqDiff, Option.map_some, Option.map_none, reread, List.nil_append, List.cons_append, List.map_cons, List.map_nil, List.length_nil, List.length_cons, Value.cells, List.getElem?_cons_zero, List.getElem?_cons_succ, outE, lks, lkR, rdV, neg1, evs, opt, Nat.reduceAdd, Nat.reduceMul, and_self, reduceCtorEq, List.size_toArray, List.all_cons, List.all_nil, Value.oneCell', List.set_cons_zero, List.set_cons_succ, sets, fillL, Nat.reduceLeDiff, List.drop_succ_cons, List.drop_zero, List.take_succ_cons, List.take_zero, List.toList_toArray, argsE, Array.append_empty, Array.empty_append, List.getElem?_toArray, Int.reduceLT, Int.reduceLE, Int.reduceToNat, Int.reduceEq, Nat.reduceLT]
    exact .ap
  have hFd := filled_of hF
  simp only [↓eD0, ↓eD1, eC0, eC1, eC2, eC3, eC4, eC5, eC6, wantedE, ↓reduceIte, Nat.reduceEqDiff, Option.map_some, Option.map_none, reread, List.nil_append, List.cons_append, List.map_cons, List.map_nil, List.length_nil, List.length_cons, Value.cells, List.getElem?_cons_zero, List.getElem?_cons_succ, outE, lks, lkR, rdV, neg1, evs, opt, Nat.reduceAdd, Nat.reduceMul, and_self, reduceCtorEq, List.size_toArray, List.all_cons, List.all_nil, Value.oneCell', List.set_cons_zero, List.set_cons_succ, sets, fillL, Nat.reduceLeDiff, List.drop_succ_cons, List.drop_zero, List.take_succ_cons, List.take_zero, List.toList_toArray, argsE, Array.append_empty, Array.empty_append, List.getElem?_toArray, Int.reduceLT, Int.reduceLE, Int.reduceToNat, Int.reduceEq, Nat.reduceLT, hF]
  refine appK_of (fill_app (hl.Old .ap) (hd.Old .ap) hFd) ?_
  rintro gv τ0 ⟨ho0, hg⟩
  rw [ap_nil] at ho0
  obtain ⟨hamt, few, len, ok, am, hle⟩ := hFd
  have hcl := claims_len len
  have hok := claims_ok ok am
  have hL := level_ok hle
  have hget : ∀ i (h : i < (claimsF l ds).length) (h1 : i < l.length) (h2 : i < ds.length), (claimsF l ds)[i] = clF l[i] ds[i] := by
    intro i h h1 h2
    simp [claimsF]
  have hgl := fillC_len (cs := claimsF l ds) (cap := cap)
  have hfg := fun i h h' => fill_get (i := i) hok hL h h'
  have hfa := fill_all hok hL
  generalize fillC (claimsF l ds) cap = got at hg hgl hfg hfa
  generalize claimsF l ds = cs at hcl hok hL hget hgl hfg hfa
  obtain ⟨base, cp, rfl⟩ := hl.slice
  obtain ⟨base2, cp2, rfl⟩ := hd.slice
  obtain ⟨base3, cp3, rfl⟩ := hg.slice
  simp only [List.length_map] at hl hd hg ⊢
  have de : decide ((got.length:Int) = (l.length:Int)) = true := by simp; omega
  have hl' := hl.Old ho0
  have hd' := hd.Old ho0
  have c1 := hamt.1
  have c2 := hamt.2
  rw [← ap_nil (σ := τ0)]
  simp only [↓eD0, ↓eD1, eC0, eC1, eC2, eC3, eC4, eC5, eC6, wantedE, ↓reduceIte, Nat.reduceEqDiff, Option.map_some, Option.map_none, reread, List.nil_append, List.cons_append, List.map_cons, List.map_nil, List.length_nil, List.length_cons, Value.cells, List.getElem?_cons_zero, List.getElem?_cons_succ, outE, lks, lkR, rdV, neg1, evs, opt, Nat.reduceAdd, Nat.reduceMul, and_self, reduceCtorEq, List.size_toArray, List.all_cons, List.all_nil, Value.oneCell', List.set_cons_zero, List.set_cons_succ, sets, fillL, Nat.reduceLeDiff, List.drop_succ_cons, List.drop_zero, List.take_succ_cons, List.take_zero, List.toList_toArray, argsE, Array.append_empty, Array.empty_append, List.getElem?_toArray, Int.reduceLT, Int.reduceLE, Int.reduceToNat, Int.reduceEq, Nat.reduceLT, de]
  refine loop_for (J := fun i e τ => Old τ0 τ ∧ i ≤ l.length ∧ e = [(0, .int .i64 cap), (2, .slice base2 ds.length cp2), (7, .slice base3 got.length cp3), (8, .int .i64 (sumI (got.take i))), (9, .bool (fullB cs got i)), (27, .slice base l.length cp), (28, .int .i64 l.length), (29, .int .i64 i)] ∧ 0 ≤ sumI (got.take i) ∧ sumI (got.take i) ≤ (i:Int) * 1073741824) l.length ⟨.ap, by omega, rfl, by simp [sumI], by simp [sumI]⟩ ?_
  rintro i e τ hi ⟨ho, _, rfl, s1, s2⟩
  rw [← ap_nil (σ := τ)]
  by_cases hlt : i < l.length
  · have dl : decide ((i:Int) < (l.length : Int)) = true := by simpa using hlt
    have hx : (l.map ctrV)[i]? = some (ctrV l[i]) := by simp [hlt]
    have hx2 : (ds.map intV)[i]? = some (intV ds[i]) := by simp [len, hlt]
    have hx3 : (got.map intV)[i]? = some (intV got[i]) := by simp [hgl, hcl, hlt]
    obtain ⟨b, off, rfl, h1⟩ := hl'.at hx
    obtain ⟨b2, off2, rfl, h2⟩ := hd'.at hx2
    obtain ⟨b3, off3, rfl, h3⟩ := hg.at hx3
    have g1 : ∀ L, rdN (ap τ L) ⟨b, off + i * 3, none⟩ 3 = some (ctrV l[i]) := fun L => rdN_Old (ho.trans .ap) h1
    have g2 : ∀ L, rd1 (ap τ L) ⟨b2, off2 + i, none⟩ = some (.int .i64 ds[i]) := fun L => rd1_Old (ho.trans .ap) (by simpa using rd1_row h2 (j := 0) rfl)
    have g3 : ∀ L, rd1 (ap τ L) ⟨b3, off3 + i, none⟩ = some (.int .i64 got[i]) := fun L => rd1_Old (ho.trans .ap) (by simpa using rd1_row h3 (j := 0) rfl)
    have hb : (0:Int) ≤ (i:Int) ∧ (i:Int) < (l.length : Int) := by omega
    have hb2 : (0:Int) ≤ (i:Int) ∧ (i:Int) < (ds.length : Int) := by omega
    have hb3 : (0:Int) ≤ (i:Int) ∧ (i:Int) < (got.length : Int) := by omega
    have hw : IntKind.wrap .i64 ((i:Int) + 1) = ((i + 1 : Nat) : Int) := by rw [wrap64 (by omega) (by omega)]; omega
    have hge := hget i (by omega) hlt (by omega)
    have hf := hfg i (by omega) (by omega)
    have hfs := fullB_succ (cs := cs) (got := got) (i := i) (by omega) (by omega)
    rw [hge] at hf hfs
    simp only [clF] at hf hfs
    have hoki : (clF l[i] ds[i]).Ok := by rw [← hge]; exact hok _ (by simp)
    obtain ⟨k1, k2, k3, _, _⟩ := hoki
    simp only [clF] at k1 k2 k3
    have st := sumI_take (l := got) (i := i) (by omega)
    have ws : IntKind.wrap .i64 (sumI (got.take i) + got[i]) = sumI (got.take (i + 1)) := by rw [wrap64 (by omega) (by omega), st]
    have d1 : decide (got[i] < mn l[i].r ds[i]) = false := by rw [decide_eq_false]; omega
    have d2 : decide (mn l[i].l ds[i] < got[i]) = false := by rw [decide_eq_false]; omega
    have fin : i < l.length ∧ Old τ0 (ap τ [.cells 1 [.int .i64 l[i].r, .int .i64 l[i].l, .int .i64 l[i].s] (0, 0)]) ∧ i + 1 ≤ l.length ∧ 0 ≤ sumI (got.take (i + 1)) ∧ sumI (got.take (i + 1)) ≤ ((i + 1 : Nat):Int) * 1073741824 := ⟨hlt, ho.trans .ap, by omega, by omega, by omega⟩
    cases hfu : fullB cs got i
    · simp only [↓eD0, ↓eD1, eC0, eC1, eC2, eC3, eC4, eC5, eC6, wantedE, ↓reduceIte, Nat.reduceEqDiff, Option.map_some, Option.map_none, reread, List.nil_append, List.cons_append, List.map_cons, List.map_nil, List.length_nil, List.length_cons, Value.cells, List.getElem?_cons_zero, List.getElem?_cons_succ, outE, lks, lkR, rdV, neg1, evs, opt, Nat.reduceAdd, Nat.reduceMul, and_self, reduceCtorEq, List.size_toArray, List.all_cons, List.all_nil, Value.oneCell', List.set_cons_zero, List.set_cons_succ, sets, fillL, Nat.reduceLeDiff, List.drop_succ_cons, List.drop_zero, List.take_succ_cons, List.take_zero, List.toList_toArray, argsE, Array.append_empty, Array.empty_append, List.getElem?_toArray, Int.reduceLT, Int.reduceLE, Int.reduceToNat, Int.reduceEq, Nat.reduceLT, dl, hb, hb2, hb3, Int.toNat_natCast, g1, g2, g3, ctrV, mn_eq, d1, d2, undef_eq, hw, ws, hfu]
      rw [hfs, hfu]
      exact ⟨fin.1, fin.2.1, fin.2.2.1, rfl, fin.2.2.2⟩
    · simp only [↓eD0, ↓eD1, eC0, eC1, eC2, eC3, eC4, eC5, eC6, wantedE, ↓reduceIte, Nat.reduceEqDiff, Option.map_some, Option.map_none, reread, List.nil_append, List.cons_append, List.map_cons, List.map_nil, List.length_nil, List.length_cons, Value.cells, List.getElem?_cons_zero, List.getElem?_cons_succ, outE, lks, lkR, rdV, neg1, evs, opt, Nat.reduceAdd, Nat.reduceMul, and_self, reduceCtorEq, List.size_toArray, List.all_cons, List.all_nil, Value.oneCell', List.set_cons_zero, List.set_cons_succ, sets, fillL, Nat.reduceLeDiff, List.drop_succ_cons, List.drop_zero, List.take_succ_cons, List.take_zero, List.toList_toArray, argsE, Array.append_empty, Array.empty_append, List.getElem?_toArray, Int.reduceLT, Int.reduceLE, Int.reduceToNat, Int.reduceEq, Nat.reduceLT, dl, hb, hb2, hb3, Int.toNat_natCast, g1, g2, g3, ctrV, mn_eq, d1, d2, undef_eq, hw, ws, hfu]
      rw [hfs, hfu]
      exact ⟨fin.1, fin.2.1, fin.2.2.1, rfl, fin.2.2.2⟩
  · have : i = l.length := by omega
    subst this
    have dl : decide ((l.length:Int) < (l.length : Int)) = false := by simp
    have htk : got.take l.length = got := List.take_of_length_le (by omega)
    rw [htk] at s1 s2
    simp only [↓eD0, ↓eD1, eC0, eC1, eC2, eC3, eC4, eC5, eC6, wantedE, ↓reduceIte, Nat.reduceEqDiff, Option.map_some, Option.map_none, reread, List.nil_append, List.cons_append, List.map_cons, List.map_nil, List.length_nil, List.length_cons, Value.cells, List.getElem?_cons_zero, List.getElem?_cons_succ, outE, lks, lkR, rdV, neg1, evs, opt, Nat.reduceAdd, Nat.reduceMul, and_self, reduceCtorEq, List.size_toArray, List.all_cons, List.all_nil, Value.oneCell', List.set_cons_zero, List.set_cons_succ, sets, fillL, Nat.reduceLeDiff, List.drop_succ_cons, List.drop_zero, List.take_succ_cons, List.take_zero, List.toList_toArray, argsE, Array.append_empty, Array.empty_append, List.getElem?_toArray, Int.reduceLT, Int.reduceLE, Int.reduceToNat, Int.reduceEq, Nat.reduceLT, dl, htk]
    refine appK_of sanity_app ?_
    rintro _ _ ⟨e2, rfl⟩
    rw [e2]
    clear e2
    have d1 : decide (sumI got ≤ cap) = true := by simpa using hfa.1
    by_cases hs : sumI got = cap
    · have d2 : decide (sumI got = cap) = true := by simpa using hs
      simp only [↓eD0, ↓eD1, eC0, eC1, eC2, eC3, eC4, eC5, eC6, wantedE, ↓reduceIte, Nat.reduceEqDiff, Option.map_some, Option.map_none, reread, List.nil_append, List.cons_append, List.map_cons, List.map_nil, List.length_nil, List.length_cons, Value.cells, List.getElem?_cons_zero, List.getElem?_cons_succ, outE, lks, lkR, rdV, neg1, evs, opt, Nat.reduceAdd, Nat.reduceMul, and_self, reduceCtorEq, List.size_toArray, List.all_cons, List.all_nil, Value.oneCell', List.set_cons_zero, List.set_cons_succ, sets, fillL, Nat.reduceLeDiff, List.drop_succ_cons, List.drop_zero, List.take_succ_cons, List.take_zero, List.toList_toArray, argsE, Array.append_empty, Array.empty_append, List.getElem?_toArray, Int.reduceLT, Int.reduceLE, Int.reduceToNat, Int.reduceEq, Nat.reduceLT, htk, d1, d2, undef_eq]
      exact (ho0.trans ho).trans .ap
    · have d2 : decide (sumI got = cap) = false := by simpa using hs
      have hfull : fullB cs got l.length = true := by
        rw [fullB, List.all_eq_true]
        intro p hp
        obtain ⟨j, hj, rfl⟩ := List.getElem_of_mem (List.mem_of_mem_take hp)
        simp only [List.length_zip] at hj
        have := (hfa.2.resolve_left hs) j (by omega) (by omega)
        simp [this]
      simp only [↓eD0, ↓eD1, eC0, eC1, eC2, eC3, eC4, eC5, eC6, wantedE, ↓reduceIte, Nat.reduceEqDiff, Option.map_some, Option.map_none, reread, List.nil_append, List.cons_append, List.map_cons, List.map_nil, List.length_nil, List.length_cons, Value.cells, List.getElem?_cons_zero, List.getElem?_cons_succ, outE, lks, lkR, rdV, neg1, evs, opt, Nat.reduceAdd, Nat.reduceMul, and_self, reduceCtorEq, List.size_toArray, List.all_cons, List.all_nil, Value.oneCell', List.set_cons_zero, List.set_cons_succ, sets, fillL, Nat.reduceLeDiff, List.drop_succ_cons, List.drop_zero, List.take_succ_cons, List.take_zero, List.toList_toArray, argsE, Array.append_empty, Array.empty_append, List.getElem?_toArray, Int.reduceLT, Int.reduceLE, Int.reduceToNat, Int.reduceEq, Nat.reduceLT, htk, d1, d2, hfull, undef_eq]
      exact (ho0.trans ho).trans .ap
end Go.Proofs.Ytimcgoghjebalaa
