/- Walks of the functions that the claim reaches. Conditions: none. -/
import Derived.Test.YtljmjkpmkpchoaaDoorWc
set_option linter.all false
set_option linter.unusedSimpArgs false
set_option maxRecDepth 10000
set_option maxHeartbeats 4000000
namespace Go.Proofs.YtljmjkpmkpchoaaDoor
open Go Go.Cn Go.RowKit

def CR.is : CR → Bool
  | .goesOn => true
  | .stop .. => false

def sameF (da : List Int) (ca : Int) (A : List Ent) (db : List Int) (cb : Int) (B : List Ent) : Bool := (contR da ca A db cb B).is && (contR db cb B da ca A).is

theorem contV_eq (r : CR) : ∃ a b c d e f g s t, contV r = .tuple #[.agg #[.int .i64 a, .int .i64 b, .int .i64 c, .int .i64 d, .int .i64 e, .int .i64 f, .int .i64 g, .string s, .bool t], .bool r.is] := by
  cases r <;> exact ⟨_, _, _, _, _, _, _, _, _, rfl⟩
theorem foundV_eq (r : CR) : ∃ a b c d e f g s t, foundV r = .agg #[.int .i64 a, .int .i64 b, .int .i64 c, .int .i64 d, .int .i64 e, .int .i64 f, .int .i64 g, .string s, .bool t, .bool r.is] := by
  cases r <;> exact ⟨_, _, _, _, _, _, _, _, _, rfl⟩

theorem same_app {σ : H} {la lb : List Value} {da db : List Int} {ca cb : Int} {A B : List Ent} (ha : IsLog σ la da ca A) (hb : IsLog σ lb db cb B) (sa : Sized A) (sb : Sized B) :
    App Tryd.prog (.func 14) #[] #[.agg la.toArray, .agg lb.toArray] σ fun v σ' => σ' = σ ∧ v = .bool (sameF da ca A db cb B) := by
  refine App.forget (App.of_sem mixed Tryd.func14 t14 k14 r14 (Nat.le_of_ble_eq_true rfl) ?_)
  have e0 : ap σ [] = σ := ap_nil
  have la1 := ha.len
  have lb1 := hb.len
  have ta : la.take 19 = la := List.take_of_length_le (by omega)
  have tb : lb.take 19 = lb := List.take_of_length_le (by omega)
  rw [← e0]
  unfold s14
  simp only [↓eD0, ↓eD1, eC0, eC1, eC2, eC3, eC4, eC5, eC6, wantedE, ↓reduceIte, Nat.reduceEqDiff, Option.map_some, Option.map_none, reread, List.nil_append, List.cons_append, List.map_cons, List.map_nil, List.length_nil, List.length_cons, Value.cells, List.getElem?_cons_zero, List.getElem?_cons_succ, outE, lks, lkR, rdV, neg1, evs, opt, Nat.reduceAdd, Nat.reduceMul, and_self, reduceCtorEq, List.size_toArray, List.all_cons, List.all_nil, Value.oneCell', List.set_cons_zero, List.set_cons_succ, sets, fillL, Nat.reduceLeDiff, List.drop_succ_cons, List.drop_zero, List.take_succ_cons, List.take_zero, List.toList_toArray, argsE, Array.append_empty, Array.empty_append, List.getElem?_toArray, Int.reduceLT, Int.reduceLE, Int.reduceToNat, Int.reduceEq, Nat.reduceLT, la1, lb1, ta, tb]
  refine appK_of (merge_app (ha.Old .ap) (hb.Old .ap) sa sb) ?_
  rintro _ _ ⟨e2, rfl⟩
  rw [e2]
  clear e2
  obtain ⟨_, _, _, _, _, _, _, _, _, h1⟩ := contV_eq (contR da ca A db cb B)
  rw [h1]
  simp only [↓eD0, ↓eD1, eC0, eC1, eC2, eC3, eC4, eC5, eC6, wantedE, ↓reduceIte, Nat.reduceEqDiff, Option.map_some, Option.map_none, reread, List.nil_append, List.cons_append, List.map_cons, List.map_nil, List.length_nil, List.length_cons, Value.cells, List.getElem?_cons_zero, List.getElem?_cons_succ, outE, lks, lkR, rdV, neg1, evs, opt, Nat.reduceAdd, Nat.reduceMul, and_self, reduceCtorEq, List.size_toArray, List.all_cons, List.all_nil, Value.oneCell', List.set_cons_zero, List.set_cons_succ, sets, fillL, Nat.reduceLeDiff, List.drop_succ_cons, List.drop_zero, List.take_succ_cons, List.take_zero, List.toList_toArray, argsE, Array.append_empty, Array.empty_append, List.getElem?_toArray, Int.reduceLT, Int.reduceLE, Int.reduceToNat, Int.reduceEq, Nat.reduceLT, la1, lb1, ta, tb]
  refine appK_of (merge_app (hb.Old .ap) (ha.Old .ap) sb sa) ?_
  rintro _ _ ⟨e2, rfl⟩
  rw [e2]
  clear e2
  obtain ⟨_, _, _, _, _, _, _, _, _, h2⟩ := contV_eq (contR db cb B da ca A)
  rw [h2]
  simp only [↓eD0, ↓eD1, eC0, eC1, eC2, eC3, eC4, eC5, eC6, wantedE, ↓reduceIte, Nat.reduceEqDiff, Option.map_some, Option.map_none, reread, List.nil_append, List.cons_append, List.map_cons, List.map_nil, List.length_nil, List.length_cons, Value.cells, List.getElem?_cons_zero, List.getElem?_cons_succ, outE, lks, lkR, rdV, neg1, evs, opt, Nat.reduceAdd, Nat.reduceMul, and_self, reduceCtorEq, List.size_toArray, List.all_cons, List.all_nil, Value.oneCell', List.set_cons_zero, List.set_cons_succ, sets, fillL, Nat.reduceLeDiff, List.drop_succ_cons, List.drop_zero, List.take_succ_cons, List.take_zero, List.toList_toArray, argsE, Array.append_empty, Array.empty_append, List.getElem?_toArray, Int.reduceLT, Int.reduceLE, Int.reduceToNat, Int.reduceEq, Nat.reduceLT, la1, lb1, ta, tb]
  cases h3 : (contR da ca A db cb B).is
  · simp only [↓eD0, ↓eD1, eC0, eC1, eC2, eC3, eC4, eC5, eC6, wantedE, ↓reduceIte, Nat.reduceEqDiff, Option.map_some, Option.map_none, reread, List.nil_append, List.cons_append, List.map_cons, List.map_nil, List.length_nil, List.length_cons, Value.cells, List.getElem?_cons_zero, List.getElem?_cons_succ, outE, lks, lkR, rdV, neg1, evs, opt, Nat.reduceAdd, Nat.reduceMul, and_self, reduceCtorEq, List.size_toArray, List.all_cons, List.all_nil, Value.oneCell', List.set_cons_zero, List.set_cons_succ, sets, fillL, Nat.reduceLeDiff, List.drop_succ_cons, List.drop_zero, List.take_succ_cons, List.take_zero, List.toList_toArray, argsE, Array.append_empty, Array.empty_append, List.getElem?_toArray, Int.reduceLT, Int.reduceLE, Int.reduceToNat, Int.reduceEq, Nat.reduceLT, h3]
    exact ⟨.ap, by simp [flat], by simp [sameF, h3]⟩
  · simp only [↓eD0, ↓eD1, eC0, eC1, eC2, eC3, eC4, eC5, eC6, wantedE, ↓reduceIte, Nat.reduceEqDiff, Option.map_some, Option.map_none, reread, List.nil_append, List.cons_append, List.map_cons, List.map_nil, List.length_nil, List.length_cons, Value.cells, List.getElem?_cons_zero, List.getElem?_cons_succ, outE, lks, lkR, rdV, neg1, evs, opt, Nat.reduceAdd, Nat.reduceMul, and_self, reduceCtorEq, List.size_toArray, List.all_cons, List.all_nil, Value.oneCell', List.set_cons_zero, List.set_cons_succ, sets, fillL, Nat.reduceLeDiff, List.drop_succ_cons, List.drop_zero, List.take_succ_cons, List.take_zero, List.toList_toArray, argsE, Array.append_empty, Array.empty_append, List.getElem?_toArray, Int.reduceLT, Int.reduceLE, Int.reduceToNat, Int.reduceEq, Nat.reduceLT, h3]
    exact ⟨.ap, by simp [flat], by simp [sameF, h3]⟩

theorem rsame_app {σ : H} {la lb : List Value} {da db : List Int} {ca cb : Int} {A B : List Ent} (ha : IsLog σ la da ca A) (hb : IsLog σ lb db cb B) (sa : Sized A) (sb : Sized B) :
    App Tryd.prog (.func 15) #[] #[.agg la.toArray, .agg lb.toArray] σ fun v σ' => σ' = σ ∧ v = .bool (sameF da ca A db cb B) := by
  refine App.forget (App.of_sem mixed Tryd.func15 t15 k15 r15 (Nat.le_of_ble_eq_true rfl) ?_)
  have e0 : ap σ [] = σ := ap_nil
  have la1 := ha.len
  have lb1 := hb.len
  have ta : la.take 19 = la := List.take_of_length_le (by omega)
  have tb : lb.take 19 = lb := List.take_of_length_le (by omega)
  rw [← e0]
  unfold s15
  simp only [↓eD0, ↓eD1, eC0, eC1, eC2, eC3, eC4, eC5, eC6, wantedE, ↓reduceIte, Nat.reduceEqDiff, Option.map_some, Option.map_none, reread, List.nil_append, List.cons_append, List.map_cons, List.map_nil, List.length_nil, List.length_cons, Value.cells, List.getElem?_cons_zero, List.getElem?_cons_succ, outE, lks, lkR, rdV, neg1, evs, opt, Nat.reduceAdd, Nat.reduceMul, and_self, reduceCtorEq, List.size_toArray, List.all_cons, List.all_nil, Value.oneCell', List.set_cons_zero, List.set_cons_succ, sets, fillL, Nat.reduceLeDiff, List.drop_succ_cons, List.drop_zero, List.take_succ_cons, List.take_zero, List.toList_toArray, argsE, Array.append_empty, Array.empty_append, List.getElem?_toArray, Int.reduceLT, Int.reduceLE, Int.reduceToNat, Int.reduceEq, Nat.reduceLT, la1, lb1, ta, tb]
  refine appK_of (refc_app (ha.Old .ap) (hb.Old .ap) sa sb) ?_
  rintro _ _ ⟨e2, rfl⟩
  rw [e2]
  clear e2
  obtain ⟨_, _, _, _, _, _, _, _, _, h1⟩ := foundV_eq (contR da ca A db cb B)
  rw [h1]
  simp only [↓eD0, ↓eD1, eC0, eC1, eC2, eC3, eC4, eC5, eC6, wantedE, ↓reduceIte, Nat.reduceEqDiff, Option.map_some, Option.map_none, reread, List.nil_append, List.cons_append, List.map_cons, List.map_nil, List.length_nil, List.length_cons, Value.cells, List.getElem?_cons_zero, List.getElem?_cons_succ, outE, lks, lkR, rdV, neg1, evs, opt, Nat.reduceAdd, Nat.reduceMul, and_self, reduceCtorEq, List.size_toArray, List.all_cons, List.all_nil, Value.oneCell', List.set_cons_zero, List.set_cons_succ, sets, fillL, Nat.reduceLeDiff, List.drop_succ_cons, List.drop_zero, List.take_succ_cons, List.take_zero, List.toList_toArray, argsE, Array.append_empty, Array.empty_append, List.getElem?_toArray, Int.reduceLT, Int.reduceLE, Int.reduceToNat, Int.reduceEq, Nat.reduceLT, la1, lb1, ta, tb]
  cases h3 : (contR da ca A db cb B).is
  · simp only [↓eD0, ↓eD1, eC0, eC1, eC2, eC3, eC4, eC5, eC6, wantedE, ↓reduceIte, Nat.reduceEqDiff, Option.map_some, Option.map_none, reread, List.nil_append, List.cons_append, List.map_cons, List.map_nil, List.length_nil, List.length_cons, Value.cells, List.getElem?_cons_zero, List.getElem?_cons_succ, outE, lks, lkR, rdV, neg1, evs, opt, Nat.reduceAdd, Nat.reduceMul, and_self, reduceCtorEq, List.size_toArray, List.all_cons, List.all_nil, Value.oneCell', List.set_cons_zero, List.set_cons_succ, sets, fillL, Nat.reduceLeDiff, List.drop_succ_cons, List.drop_zero, List.take_succ_cons, List.take_zero, List.toList_toArray, argsE, Array.append_empty, Array.empty_append, List.getElem?_toArray, Int.reduceLT, Int.reduceLE, Int.reduceToNat, Int.reduceEq, Nat.reduceLT, h3]
    exact ⟨.ap, by simp [flat], by simp [sameF, h3]⟩
  · simp only [↓eD0, ↓eD1, eC0, eC1, eC2, eC3, eC4, eC5, eC6, wantedE, ↓reduceIte, Nat.reduceEqDiff, Option.map_some, Option.map_none, reread, List.nil_append, List.cons_append, List.map_cons, List.map_nil, List.length_nil, List.length_cons, Value.cells, List.getElem?_cons_zero, List.getElem?_cons_succ, outE, lks, lkR, rdV, neg1, evs, opt, Nat.reduceAdd, Nat.reduceMul, and_self, reduceCtorEq, List.size_toArray, List.all_cons, List.all_nil, Value.oneCell', List.set_cons_zero, List.set_cons_succ, sets, fillL, Nat.reduceLeDiff, List.drop_succ_cons, List.drop_zero, List.take_succ_cons, List.take_zero, List.toList_toArray, argsE, Array.append_empty, Array.empty_append, List.getElem?_toArray, Int.reduceLT, Int.reduceLE, Int.reduceToNat, Int.reduceEq, Nat.reduceLT, h3, la1, lb1, ta, tb]
    refine appK_of (refc_app (hb.Old .ap) (ha.Old .ap) sb sa) ?_
    rintro _ _ ⟨e2, rfl⟩
    rw [e2]
    clear e2
    obtain ⟨_, _, _, _, _, _, _, _, _, h2⟩ := foundV_eq (contR db cb B da ca A)
    rw [h2]
    simp only [↓eD0, ↓eD1, eC0, eC1, eC2, eC3, eC4, eC5, eC6, wantedE, ↓reduceIte, Nat.reduceEqDiff, Option.map_some, Option.map_none, reread, List.nil_append, List.cons_append, List.map_cons, List.map_nil, List.length_nil, List.length_cons, Value.cells, List.getElem?_cons_zero, List.getElem?_cons_succ, outE, lks, lkR, rdV, neg1, evs, opt, Nat.reduceAdd, Nat.reduceMul, and_self, reduceCtorEq, List.size_toArray, List.all_cons, List.all_nil, Value.oneCell', List.set_cons_zero, List.set_cons_succ, sets, fillL, Nat.reduceLeDiff, List.drop_succ_cons, List.drop_zero, List.take_succ_cons, List.take_zero, List.toList_toArray, argsE, Array.append_empty, Array.empty_append, List.getElem?_toArray, Int.reduceLT, Int.reduceLE, Int.reduceToNat, Int.reduceEq, Nat.reduceLT, h3]
    exact ⟨.ap, by simp [flat], by simp [sameF, h3]⟩
end Go.Proofs.YtljmjkpmkpchoaaDoor

set_option linter.unusedSimpArgs false
set_option maxRecDepth 10000
set_option maxHeartbeats 4000000
namespace Go.Proofs.YtljmjkpmkpchoaaDoor
open Go Go.Cn Go.RowKit

/-- A seal of a log. -/
structure Sea where
  end_ : Int
  dig : List Int
  seal_ : List Int

def seaV (s : Sea) : List Value := .int .i64 s.end_ :: (digC s.dig ++ digC s.seal_)
def Sea.ok (s : Sea) : Prop := s.dig.length = 16 ∧ s.seal_.length = 16

theorem seaV_len {s : Sea} (h : s.ok) : (seaV s).length = 33 := by simp [seaV, digC, h.1, h.2]
theorem digC_one {d : List Int} : (digC d).all Value.oneCell' = true := by simp [digC, Value.oneCell']
theorem seaV_one {s : Sea} : (seaV s).all Value.oneCell' = true := by simp [seaV, digC_one, Value.oneCell']

/-- The elements that are kept, with their places. -/
def filt {α : Type} (p : Nat → α → Bool) (l : List α) : List α := ((l.zipIdx).filter fun q => p q.2 q.1).map (·.1)
theorem filt_take {α : Type} {p : Nat → α → Bool} {l : List α} {i : Nat} (h : i < l.length) : filt p (l.take (i + 1)) = filt p (l.take i) ++ (if p i l[i] = true then [l[i]] else []) := by
  unfold filt
  rw [List.take_succ_eq_append_getElem h, List.zipIdx_append, List.filter_append, List.map_append]
  congr 1
  simp only [List.zipIdx_cons, List.zipIdx_nil, Nat.zero_add, List.length_take, Nat.min_eq_left (Nat.le_of_lt h)]
  by_cases hp : p i l[i] = true <;> simp [hp]
theorem filt_len {α : Type} {p : Nat → α → Bool} {l : List α} : (filt p l).length ≤ l.length := by
  unfold filt
  rw [List.length_map]
  exact Nat.le_trans (List.length_filter_le _ _) (by simp)

theorem keepE_app {σ : H} {b : Nat} {i k : Int} {e : Ent} (hb : rd1 σ ⟨b, 0, none⟩ = some (.int .i64 i)) :
    App Tryd.prog (.func 28) #[.pointer (some ⟨b, 0, none⟩)] #[.int .i64 k, .agg (entV e).toArray] σ fun v σ' => σ' = σ ∧ v = .bool (!decide (k = i)) := by
  refine App.forget (App.of_sem mixed Tryd.func28 t28 k28 r28 (Nat.le_of_ble_eq_true rfl) ?_)
  have e0 : ap σ [] = σ := ap_nil
  have hb' : ∀ l, rd1 (ap σ l) ⟨b, 0, none⟩ = some (.int .i64 i) := fun l => rd1_old hb
  rw [← e0]
  unfold s28
  simp only [↓eD0, ↓eD1, eC0, eC1, eC2, eC3, eC4, eC5, eC6, wantedE, ↓reduceIte, Nat.reduceEqDiff, Option.map_some, Option.map_none, reread, List.nil_append, List.cons_append, List.map_cons, List.map_nil, List.length_nil, List.length_cons, Value.cells, List.getElem?_cons_zero, List.getElem?_cons_succ, outE, lks, lkR, rdV, neg1, evs, opt, Nat.reduceAdd, Nat.reduceMul, and_self, reduceCtorEq, List.size_toArray, List.all_cons, List.all_nil, Value.oneCell', List.set_cons_zero, List.set_cons_succ, sets, fillL, Nat.reduceLeDiff, List.drop_succ_cons, List.drop_zero, List.take_succ_cons, List.take_zero, List.toList_toArray, argsE, Array.append_empty, Array.empty_append, List.getElem?_toArray, Int.reduceLT, Int.reduceLE, Int.reduceToNat, Int.reduceEq, Nat.reduceLT, entV, hb']
  exact ⟨.ap, by simp [flat]⟩

theorem keepS_app {σ : H} {b : Nat} {i k : Int} {e : Sea} (hb : rd1 σ ⟨b, 0, none⟩ = some (.int .i64 i)) :
    App Tryd.prog (.func 30) #[.pointer (some ⟨b, 0, none⟩)] #[.int .i64 k, .agg (seaV e).toArray] σ fun v σ' => σ' = σ ∧ v = .bool (decide (e.end_ ≤ i)) := by
  refine App.forget (App.of_sem mixed Tryd.func30 t30 k30 r30 (Nat.le_of_ble_eq_true rfl) ?_)
  have e0 : ap σ [] = σ := ap_nil
  have hb' : ∀ l, rd1 (ap σ l) ⟨b, 0, none⟩ = some (.int .i64 i) := fun l => rd1_old hb
  rw [← e0]
  unfold s30
  simp only [↓eD0, ↓eD1, eC0, eC1, eC2, eC3, eC4, eC5, eC6, wantedE, ↓reduceIte, Nat.reduceEqDiff, Option.map_some, Option.map_none, reread, List.nil_append, List.cons_append, List.map_cons, List.map_nil, List.length_nil, List.length_cons, Value.cells, List.getElem?_cons_zero, List.getElem?_cons_succ, outE, lks, lkR, rdV, neg1, evs, opt, Nat.reduceAdd, Nat.reduceMul, and_self, reduceCtorEq, List.size_toArray, List.all_cons, List.all_nil, Value.oneCell', List.set_cons_zero, List.set_cons_succ, sets, fillL, Nat.reduceLeDiff, List.drop_succ_cons, List.drop_zero, List.take_succ_cons, List.take_zero, List.toList_toArray, argsE, Array.append_empty, Array.empty_append, List.getElem?_toArray, Int.reduceLT, Int.reduceLE, Int.reduceToNat, Int.reduceEq, Nat.reduceLT, seaV, hb']
  exact ⟨.ap, by simp [flat]⟩

theorem filterE_app {σ : H} {E : List Ent} {sl : Value} {cap : Array Value} {p : Nat → Ent → Bool} (hr : Row σ 5 sl (E.map entV)) (hlen : E.length < 2000000000000)
    (hp : ∀ (k : Nat) (e : Ent) (τ : H), Old σ τ → App Tryd.prog (.func 28) cap #[.int .i64 k, .agg (entV e).toArray] τ fun v σ' => σ' = τ ∧ v = .bool (p k e)) :
    App Tryd.prog (.func 27) #[] #[sl, .func (.func 28) #[] cap] σ fun v σ' => Old σ σ' ∧ Grown σ σ' 5 v ((filt p E).map entV).flatten (filt p E).length := by
  refine App.of_sem mixed Tryd.func27 t27 k27 r27 (Nat.le_of_ble_eq_true rfl) ?_
  obtain ⟨base, cp, rfl⟩ := hr.slice
  simp only [List.length_map] at hr ⊢
  unfold s27
  simp only [↓eD0, ↓eD1, eC0, eC1, eC2, eC3, eC4, eC5, eC6, wantedE, ↓reduceIte, Nat.reduceEqDiff, Option.map_some, Option.map_none, reread, List.nil_append, List.cons_append, List.map_cons, List.map_nil, List.length_nil, List.length_cons, Value.cells, List.getElem?_cons_zero, List.getElem?_cons_succ, outE, lks, lkR, rdV, neg1, evs, opt, Nat.reduceAdd, Nat.reduceMul, and_self, reduceCtorEq, List.size_toArray, List.all_cons, List.all_nil, Value.oneCell', List.set_cons_zero, List.set_cons_succ, sets, fillL, Nat.reduceLeDiff, List.drop_succ_cons, List.drop_zero, List.take_succ_cons, List.take_zero, List.toList_toArray, argsE, Array.append_empty, Array.empty_append, List.getElem?_toArray, Int.reduceLT, Int.reduceLE, Int.reduceToNat, Int.reduceEq, Nat.reduceLT]
  refine loop_for (J := fun i e τ => Old σ τ ∧ i ≤ E.length ∧ ∃ v, e = [(1, .func (.func 28) #[] cap), (5, v), (8, .slice base E.length cp), (9, .int .i64 E.length), (10, .int .i64 i)] ∧ Grown σ τ 5 v ((filt p (E.take i)).map entV).flatten (filt p (E.take i)).length) E.length ⟨.refl, by omega, _, rfl, .nil⟩ ?_
  rintro i e τ hi ⟨ho, _, v, rfl, hg⟩
  have e1 : ap τ [] = τ := ap_nil
  rw [← e1]
  simp only [↓eD0, ↓eD1, eC0, eC1, eC2, eC3, eC4, eC5, eC6, wantedE, ↓reduceIte, Nat.reduceEqDiff, Option.map_some, Option.map_none, reread, List.nil_append, List.cons_append, List.map_cons, List.map_nil, List.length_nil, List.length_cons, Value.cells, List.getElem?_cons_zero, List.getElem?_cons_succ, outE, lks, lkR, rdV, neg1, evs, opt, Nat.reduceAdd, Nat.reduceMul, and_self, reduceCtorEq, List.size_toArray, List.all_cons, List.all_nil, Value.oneCell', List.set_cons_zero, List.set_cons_succ, sets, fillL, Nat.reduceLeDiff, List.drop_succ_cons, List.drop_zero, List.take_succ_cons, List.take_zero, List.toList_toArray, argsE, Array.append_empty, Array.empty_append, List.getElem?_toArray, Int.reduceLT, Int.reduceLE, Int.reduceToNat, Int.reduceEq, Nat.reduceLT]
  refine onI_dec (fun hlt => ?_) (fun hge => ?_)
  · have hlt : i < E.length := by simpa using hlt
    have hx : (E.map entV)[i]? = some (entV E[i]) := by simp [hlt]
    obtain ⟨b, off, rfl, h1⟩ := hr.at hx
    have h5 : ∀ l, rdN (ap τ l) ⟨b, off + i * 5, none⟩ 5 = some (entV E[i]) := fun l => rdN_Old (ho.trans .ap) h1
    have hb : (0:Int) ≤ (i:Int) ∧ (i:Int) < (E.length : Int) := by omega
    have hw : IntKind.wrap .i64 ((i:Int) + 1) = ((i + 1 : Nat) : Int) := by rw [wrap64 (by omega) (by omega)]; omega
    have ht := filt_take (p := p) hlt
    simp only [↓eD0, ↓eD1, eC0, eC1, eC2, eC3, eC4, eC5, eC6, wantedE, ↓reduceIte, Nat.reduceEqDiff, Option.map_some, Option.map_none, reread, List.nil_append, List.cons_append, List.map_cons, List.map_nil, List.length_nil, List.length_cons, Value.cells, List.getElem?_cons_zero, List.getElem?_cons_succ, outE, lks, lkR, rdV, neg1, evs, opt, Nat.reduceAdd, Nat.reduceMul, and_self, reduceCtorEq, List.size_toArray, List.all_cons, List.all_nil, Value.oneCell', List.set_cons_zero, List.set_cons_succ, sets, fillL, Nat.reduceLeDiff, List.drop_succ_cons, List.drop_zero, List.take_succ_cons, List.take_zero, List.toList_toArray, argsE, Array.append_empty, Array.empty_append, List.getElem?_toArray, Int.reduceLT, Int.reduceLE, Int.reduceToNat, Int.reduceEq, Nat.reduceLT, hb, Int.toNat_natCast, h5, entV]
    refine appK_of (hp i E[i] _ (ho.trans .ap)) ?_
    rintro _ _ ⟨e2, rfl⟩
    rw [e2]
    clear e2
    by_cases hpi : p i E[i] = true
    · simp only [↓eD0, ↓eD1, eC0, eC1, eC2, eC3, eC4, eC5, eC6, wantedE, ↓reduceIte, Nat.reduceEqDiff, Option.map_some, Option.map_none, reread, List.nil_append, List.cons_append, List.map_cons, List.map_nil, List.length_nil, List.length_cons, Value.cells, List.getElem?_cons_zero, List.getElem?_cons_succ, outE, lks, lkR, rdV, neg1, evs, opt, Nat.reduceAdd, Nat.reduceMul, and_self, reduceCtorEq, List.size_toArray, List.all_cons, List.all_nil, Value.oneCell', List.set_cons_zero, List.set_cons_succ, sets, fillL, Nat.reduceLeDiff, List.drop_succ_cons, List.drop_zero, List.take_succ_cons, List.take_zero, List.toList_toArray, argsE, Array.append_empty, Array.empty_append, List.getElem?_toArray, Int.reduceLT, Int.reduceLE, Int.reduceToNat, Int.reduceEq, Nat.reduceLT, hpi]
      have hl : (filt p (E.take i)).length ≤ i := Nat.le_trans filt_len (by simp; omega)
      obtain ⟨v', τ', ha, hA⟩ := append_grown (σ := ap τ [.cells 1 (entV E[i]) (0, 0), .cells 0 (entV E[i]) (0, 0)]) (xa := .slice (some ⟨τ.size + 1, 0, none⟩) 1 1) (bytes := 48) (m := 1) (new := entV E[i]) (hg.old .ap) (by omega) (Nat.le_trans ho.1 (Old.ap (l := _)).1) (by
        show (rdN (ap τ _) ⟨τ.size + 1, 0, none⟩ (1 * 5)).map (1, ·) = _
        simp only [rdN_ap, List.getElem?_cons_succ, List.getElem?_cons_zero, rdcN_cells]
        rfl) rfl rfl (by omega) (by omega)
      refine onV_of ha ?_
      simp only [↓eD0, ↓eD1, eC0, eC1, eC2, eC3, eC4, eC5, eC6, wantedE, ↓reduceIte, Nat.reduceEqDiff, Option.map_some, Option.map_none, reread, List.nil_append, List.cons_append, List.map_cons, List.map_nil, List.length_nil, List.length_cons, Value.cells, List.getElem?_cons_zero, List.getElem?_cons_succ, outE, lks, lkR, rdV, neg1, evs, opt, Nat.reduceAdd, Nat.reduceMul, and_self, reduceCtorEq, List.size_toArray, List.all_cons, List.all_nil, Value.oneCell', List.set_cons_zero, List.set_cons_succ, sets, fillL, Nat.reduceLeDiff, List.drop_succ_cons, List.drop_zero, List.take_succ_cons, List.take_zero, List.toList_toArray, argsE, Array.append_empty, Array.empty_append, List.getElem?_toArray, Int.reduceLT, Int.reduceLE, Int.reduceToNat, Int.reduceEq, Nat.reduceLT, hw]
      refine ⟨hlt, hA.Old (hg.old .ap) (ho.trans .ap), by omega, v', rfl, ?_⟩
      rw [ht, if_pos hpi]
      simpa using hA.grown
    · simp only [↓eD0, ↓eD1, eC0, eC1, eC2, eC3, eC4, eC5, eC6, wantedE, ↓reduceIte, Nat.reduceEqDiff, Option.map_some, Option.map_none, reread, List.nil_append, List.cons_append, List.map_cons, List.map_nil, List.length_nil, List.length_cons, Value.cells, List.getElem?_cons_zero, List.getElem?_cons_succ, outE, lks, lkR, rdV, neg1, evs, opt, Nat.reduceAdd, Nat.reduceMul, and_self, reduceCtorEq, List.size_toArray, List.all_cons, List.all_nil, Value.oneCell', List.set_cons_zero, List.set_cons_succ, sets, fillL, Nat.reduceLeDiff, List.drop_succ_cons, List.drop_zero, List.take_succ_cons, List.take_zero, List.toList_toArray, argsE, Array.append_empty, Array.empty_append, List.getElem?_toArray, Int.reduceLT, Int.reduceLE, Int.reduceToNat, Int.reduceEq, Nat.reduceLT, hpi, hw]
      refine ⟨hlt, ho.trans .ap, by omega, v, rfl, ?_⟩
      rw [ht, if_neg hpi, List.append_nil]
      exact hg.old .ap
  · have : i = E.length := by omega
    subst this
    simp only [↓eD0, ↓eD1, eC0, eC1, eC2, eC3, eC4, eC5, eC6, wantedE, ↓reduceIte, Nat.reduceEqDiff, Option.map_some, Option.map_none, reread, List.nil_append, List.cons_append, List.map_cons, List.map_nil, List.length_nil, List.length_cons, Value.cells, List.getElem?_cons_zero, List.getElem?_cons_succ, outE, lks, lkR, rdV, neg1, evs, opt, Nat.reduceAdd, Nat.reduceMul, and_self, reduceCtorEq, List.size_toArray, List.all_cons, List.all_nil, Value.oneCell', List.set_cons_zero, List.set_cons_succ, sets, fillL, Nat.reduceLeDiff, List.drop_succ_cons, List.drop_zero, List.take_succ_cons, List.take_zero, List.toList_toArray, argsE, Array.append_empty, Array.empty_append, List.getElem?_toArray, Int.reduceLT, Int.reduceLE, Int.reduceToNat, Int.reduceEq, Nat.reduceLT, List.take_length] at hg ⊢
    exact ⟨ho.trans .ap, hg.old .ap⟩

theorem filterS_app {σ : H} {E : List Sea} {sl : Value} {cap : Array Value} {p : Nat → Sea → Bool} (hr : Row σ 33 sl (E.map seaV)) (hE : ∀ e ∈ E, e.ok) (hlen : E.length < 2000000000000)
    (hp : ∀ (k : Nat) (e : Sea) (τ : H), Old σ τ → App Tryd.prog (.func 30) cap #[.int .i64 k, .agg (seaV e).toArray] τ fun v σ' => σ' = τ ∧ v = .bool (p k e)) :
    App Tryd.prog (.func 29) #[] #[sl, .func (.func 30) #[] cap] σ fun v σ' => Old σ σ' ∧ Grown σ σ' 33 v ((filt p E).map seaV).flatten (filt p E).length := by
  refine App.of_sem mixed Tryd.func29 t29 k29 r29 (Nat.le_of_ble_eq_true rfl) ?_
  obtain ⟨base, cp, rfl⟩ := hr.slice
  simp only [List.length_map] at hr ⊢
  unfold s29
  simp only [↓eD0, ↓eD1, eC0, eC1, eC2, eC3, eC4, eC5, eC6, wantedE, ↓reduceIte, Nat.reduceEqDiff, Option.map_some, Option.map_none, reread, List.nil_append, List.cons_append, List.map_cons, List.map_nil, List.length_nil, List.length_cons, Value.cells, List.getElem?_cons_zero, List.getElem?_cons_succ, outE, lks, lkR, rdV, neg1, evs, opt, Nat.reduceAdd, Nat.reduceMul, and_self, reduceCtorEq, List.size_toArray, List.all_cons, List.all_nil, Value.oneCell', List.set_cons_zero, List.set_cons_succ, sets, fillL, Nat.reduceLeDiff, List.drop_succ_cons, List.drop_zero, List.take_succ_cons, List.take_zero, List.toList_toArray, argsE, Array.append_empty, Array.empty_append, List.getElem?_toArray, Int.reduceLT, Int.reduceLE, Int.reduceToNat, Int.reduceEq, Nat.reduceLT]
  refine loop_for (J := fun i e τ => Old σ τ ∧ i ≤ E.length ∧ ∃ v, e = [(1, .func (.func 30) #[] cap), (5, v), (8, .slice base E.length cp), (9, .int .i64 E.length), (10, .int .i64 i)] ∧ Grown σ τ 33 v ((filt p (E.take i)).map seaV).flatten (filt p (E.take i)).length) E.length ⟨.refl, by omega, _, rfl, .nil⟩ ?_
  rintro i e τ hi ⟨ho, _, v, rfl, hg⟩
  have e1 : ap τ [] = τ := ap_nil
  rw [← e1]
  simp only [↓eD0, ↓eD1, eC0, eC1, eC2, eC3, eC4, eC5, eC6, wantedE, ↓reduceIte, Nat.reduceEqDiff, Option.map_some, Option.map_none, reread, List.nil_append, List.cons_append, List.map_cons, List.map_nil, List.length_nil, List.length_cons, Value.cells, List.getElem?_cons_zero, List.getElem?_cons_succ, outE, lks, lkR, rdV, neg1, evs, opt, Nat.reduceAdd, Nat.reduceMul, and_self, reduceCtorEq, List.size_toArray, List.all_cons, List.all_nil, Value.oneCell', List.set_cons_zero, List.set_cons_succ, sets, fillL, Nat.reduceLeDiff, List.drop_succ_cons, List.drop_zero, List.take_succ_cons, List.take_zero, List.toList_toArray, argsE, Array.append_empty, Array.empty_append, List.getElem?_toArray, Int.reduceLT, Int.reduceLE, Int.reduceToNat, Int.reduceEq, Nat.reduceLT]
  refine onI_dec (fun hlt => ?_) (fun hge => ?_)
  · have hlt : i < E.length := by simpa using hlt
    have hx : (E.map seaV)[i]? = some (seaV E[i]) := by simp [hlt]
    obtain ⟨b, off, rfl, h1⟩ := hr.at hx
    have h5 : ∀ l, rdN (ap τ l) ⟨b, off + i * 33, none⟩ 33 = some (seaV E[i]) := fun l => rdN_Old (ho.trans .ap) h1
    have hb : (0:Int) ≤ (i:Int) ∧ (i:Int) < (E.length : Int) := by omega
    have hw : IntKind.wrap .i64 ((i:Int) + 1) = ((i + 1 : Nat) : Int) := by rw [wrap64 (by omega) (by omega)]; omega
    have ht := filt_take (p := p) hlt
    have hsl := seaV_len (hE E[i] (by simp))
    have hso := seaV_one (s := E[i])
    have hsf : ∀ z : List Value, z.length = 33 → sets z 0 (seaV E[i]) = seaV E[i] := fun z hz => by
      rw [sets_all (by omega)]; simp [hsl, hz]
    have hst : (seaV E[i]).take 33 = seaV E[i] := List.take_of_length_le (by omega)
    have hne : seaV E[i] ≠ [] := by simp [seaV]
    simp only [↓eD0, ↓eD1, eC0, eC1, eC2, eC3, eC4, eC5, eC6, wantedE, ↓reduceIte, Nat.reduceEqDiff, Option.map_some, Option.map_none, reread, List.nil_append, List.cons_append, List.map_cons, List.map_nil, List.length_nil, List.length_cons, Value.cells, List.getElem?_cons_zero, List.getElem?_cons_succ, outE, lks, lkR, rdV, neg1, evs, opt, Nat.reduceAdd, Nat.reduceMul, and_self, reduceCtorEq, List.size_toArray, List.all_cons, List.all_nil, Value.oneCell', List.set_cons_zero, List.set_cons_succ, sets, fillL, Nat.reduceLeDiff, List.drop_succ_cons, List.drop_zero, List.take_succ_cons, List.take_zero, List.toList_toArray, argsE, Array.append_empty, Array.empty_append, List.getElem?_toArray, Int.reduceLT, Int.reduceLE, Int.reduceToNat, Int.reduceEq, Nat.reduceLT, hb, Int.toNat_natCast, h5, hsl, hso, hsf, hst, hne]
    refine appK_of (hp i E[i] _ (ho.trans .ap)) ?_
    rintro _ _ ⟨e2, rfl⟩
    rw [e2]
    clear e2
    by_cases hpi : p i E[i] = true
    · simp only [↓eD0, ↓eD1, eC0, eC1, eC2, eC3, eC4, eC5, eC6, wantedE, ↓reduceIte, Nat.reduceEqDiff, Option.map_some, Option.map_none, reread, List.nil_append, List.cons_append, List.map_cons, List.map_nil, List.length_nil, List.length_cons, Value.cells, List.getElem?_cons_zero, List.getElem?_cons_succ, outE, lks, lkR, rdV, neg1, evs, opt, Nat.reduceAdd, Nat.reduceMul, and_self, reduceCtorEq, List.size_toArray, List.all_cons, List.all_nil, Value.oneCell', List.set_cons_zero, List.set_cons_succ, sets, fillL, Nat.reduceLeDiff, List.drop_succ_cons, List.drop_zero, List.take_succ_cons, List.take_zero, List.toList_toArray, argsE, Array.append_empty, Array.empty_append, List.getElem?_toArray, Int.reduceLT, Int.reduceLE, Int.reduceToNat, Int.reduceEq, Nat.reduceLT, hpi, hsl, hso, hsf, hst, hne]
      have hl : (filt p (E.take i)).length ≤ i := Nat.le_trans filt_len (by simp; omega)
      obtain ⟨v', τ', ha, hA⟩ := append_grown (σ := ap τ [.cells 1 (seaV E[i]) (0, 0), .cells 0 (seaV E[i]) (0, 0)]) (xa := .slice (some ⟨τ.size + 1, 0, none⟩) 1 1) (bytes := 40) (m := 1) (new := seaV E[i]) (hg.old .ap) (by omega) (Nat.le_trans ho.1 (Old.ap (l := _)).1) (by
        show (rdN (ap τ _) ⟨τ.size + 1, 0, none⟩ (1 * 33)).map (1, ·) = _
        simp only [rdN_ap, List.getElem?_cons_succ, List.getElem?_cons_zero, rdcN_cells, hsl]
        simp [hst]) hsl hso (by omega) (by omega)
      refine onV_of ha ?_
      simp only [↓eD0, ↓eD1, eC0, eC1, eC2, eC3, eC4, eC5, eC6, wantedE, ↓reduceIte, Nat.reduceEqDiff, Option.map_some, Option.map_none, reread, List.nil_append, List.cons_append, List.map_cons, List.map_nil, List.length_nil, List.length_cons, Value.cells, List.getElem?_cons_zero, List.getElem?_cons_succ, outE, lks, lkR, rdV, neg1, evs, opt, Nat.reduceAdd, Nat.reduceMul, and_self, reduceCtorEq, List.size_toArray, List.all_cons, List.all_nil, Value.oneCell', List.set_cons_zero, List.set_cons_succ, sets, fillL, Nat.reduceLeDiff, List.drop_succ_cons, List.drop_zero, List.take_succ_cons, List.take_zero, List.toList_toArray, argsE, Array.append_empty, Array.empty_append, List.getElem?_toArray, Int.reduceLT, Int.reduceLE, Int.reduceToNat, Int.reduceEq, Nat.reduceLT, hw]
      refine ⟨hlt, hA.Old (hg.old .ap) (ho.trans .ap), by omega, v', rfl, ?_⟩
      rw [ht, if_pos hpi]
      simpa using hA.grown
    · simp only [↓eD0, ↓eD1, eC0, eC1, eC2, eC3, eC4, eC5, eC6, wantedE, ↓reduceIte, Nat.reduceEqDiff, Option.map_some, Option.map_none, reread, List.nil_append, List.cons_append, List.map_cons, List.map_nil, List.length_nil, List.length_cons, Value.cells, List.getElem?_cons_zero, List.getElem?_cons_succ, outE, lks, lkR, rdV, neg1, evs, opt, Nat.reduceAdd, Nat.reduceMul, and_self, reduceCtorEq, List.size_toArray, List.all_cons, List.all_nil, Value.oneCell', List.set_cons_zero, List.set_cons_succ, sets, fillL, Nat.reduceLeDiff, List.drop_succ_cons, List.drop_zero, List.take_succ_cons, List.take_zero, List.toList_toArray, argsE, Array.append_empty, Array.empty_append, List.getElem?_toArray, Int.reduceLT, Int.reduceLE, Int.reduceToNat, Int.reduceEq, Nat.reduceLT, hpi, hw]
      refine ⟨hlt, ho.trans .ap, by omega, v, rfl, ?_⟩
      rw [ht, if_neg hpi, List.append_nil]
      exact hg.old .ap
  · have : i = E.length := by omega
    subst this
    simp only [↓eD0, ↓eD1, eC0, eC1, eC2, eC3, eC4, eC5, eC6, wantedE, ↓reduceIte, Nat.reduceEqDiff, Option.map_some, Option.map_none, reread, List.nil_append, List.cons_append, List.map_cons, List.map_nil, List.length_nil, List.length_cons, Value.cells, List.getElem?_cons_zero, List.getElem?_cons_succ, outE, lks, lkR, rdV, neg1, evs, opt, Nat.reduceAdd, Nat.reduceMul, and_self, reduceCtorEq, List.size_toArray, List.all_cons, List.all_nil, Value.oneCell', List.set_cons_zero, List.set_cons_succ, sets, fillL, Nat.reduceLeDiff, List.drop_succ_cons, List.drop_zero, List.take_succ_cons, List.take_zero, List.toList_toArray, argsE, Array.append_empty, Array.empty_append, List.getElem?_toArray, Int.reduceLT, Int.reduceLE, Int.reduceToNat, Int.reduceEq, Nat.reduceLT, List.take_length] at hg ⊢
    exact ⟨ho.trans .ap, hg.old .ap⟩
end Go.Proofs.YtljmjkpmkpchoaaDoor

set_option linter.unusedSimpArgs false
set_option maxRecDepth 10000
set_option maxHeartbeats 4000000
namespace Go.Proofs.YtljmjkpmkpchoaaDoor
open Go Go.Cn Go.RowKit

/-- A log: image, processors, entries, seals. -/
structure Lg where
  d : List Int
  c : Int
  E : List Ent
  S : List Sea

structure IsLg (σ : H) (l : List Value) (L : Lg) : Prop where
  log : IsLog σ l L.d L.c L.E
  seals : ∃ sl, l[18]? = some sl ∧ Row σ 33 sl (L.S.map seaV)
  ok : ∀ s ∈ L.S, s.ok
  fewE : L.E.length < 2000000000000
  fewS : L.S.length < 2000000000000
  cap : ∃ sl, l[17]? = some sl ∧ CapOk 5 sl

theorem IsLg.Old {σ τ : H} {l : List Value} {L : Lg} (h : IsLg σ l L) (ho : Old σ τ) : IsLg τ l L :=
  ⟨h.log.Old ho, let ⟨sl, h1, h2⟩ := h.seals; ⟨sl, h1, h2.Old ho⟩, h.ok, h.fewE, h.fewS, h.cap⟩

def zeroL : List Value := [.int .u8 0, .int .u8 0, .int .u8 0, .int .u8 0, .int .u8 0, .int .u8 0, .int .u8 0, .int .u8 0, .int .u8 0, .int .u8 0, .int .u8 0, .int .u8 0, .int .u8 0, .int .u8 0, .int .u8 0, .int .u8 0, .int .i64 0, .slice none 0 0, .slice none 0 0]
def Lg.zero : Lg := ⟨List.replicate 16 0, 0, [], []⟩
theorem isLg_zero {σ : H} : IsLg σ zeroL .zero :=
  ⟨⟨rfl, rfl, rfl, rfl, ⟨_, rfl, none, 0, rfl, fun i x h => by simp [Lg.zero] at h⟩, by decide⟩, ⟨_, rfl, none, 0, rfl, fun i x h => by simp [Lg.zero] at h⟩, fun s h => by simp [Lg.zero] at h, by decide, by decide, _, rfl, _, _, _, rfl, by decide, .inl rfl⟩

theorem IsLg.mk' {σ : H} {d : List Int} {c : Int} {v w : Value} {E : List Ent} {S : List Sea} (hd : d.length = 16) (hv : Row σ 5 v (E.map entV)) (hw : Row σ 33 w (S.map seaV)) (hS : ∀ s ∈ S, s.ok) (h1 : E.length < 2000000000000) (h2 : S.length < 2000000000000) (hc : CapOk 5 v) :
    IsLg σ (digC d ++ [.int .i64 c, v, w]) ⟨d, c, E, S⟩ := by
  have hl : (digC d).length = 16 := by simp [digC, hd]
  refine ⟨⟨by simp [hl], ?_, hd, ?_, ⟨v, ?_, hv⟩, by simp only; omega⟩, ⟨w, ?_, hw⟩, hS, h1, h2, v, ?_, hc⟩
  · rw [List.take_left' hl]
  · rw [List.getElem?_append_right (by omega), hl]; rfl
  · rw [List.getElem?_append_right (by omega), hl]; rfl
  · rw [List.getElem?_append_right (by omega), hl]; rfl
  · rw [List.getElem?_append_right (by omega), hl]; rfl

theorem IsLg.eq {σ : H} {l : List Value} {L : Lg} (h : IsLg σ l L) : ∃ v w, l = digC L.d ++ [Value.int .i64 L.c, v, w] ∧ Row σ 5 v (L.E.map entV) ∧ Row σ 33 w (L.S.map seaV) := by
  obtain ⟨v, h1, h2⟩ := h.log.ents
  obtain ⟨w, h3, h4⟩ := h.seals
  refine ⟨v, w, ?_, h2, h4⟩
  rw [← h.log.dig]
  have hl := h.log.len
  conv => lhs; rw [← List.take_append_drop 16 l]
  congr 1
  rw [List.drop_eq_getElem_cons (by omega), List.drop_eq_getElem_cons (by omega), List.drop_eq_getElem_cons (by omega), List.drop_of_length_le (by omega)]
  have e1 := h.log.cpus
  rw [List.getElem?_eq_getElem (by omega)] at e1 h1 h3
  injection e1 with e1
  injection h1 with h1
  injection h3 with h3
  rw [e1, h1, h3]

/-- Drop. -/
def dropF (L : Lg) (i : Int) : Lg × Int :=
  if i < 0 ∨ (L.E.length : Int) ≤ i ∨ (L.E.getD i.toNat zeroE).kind = 1 then (.zero, 1)
  else (⟨L.d, L.c, filt (fun k _ => !decide ((k : Int) = i)) L.E, filt (fun _ s => decide (s.end_ ≤ i)) L.S⟩, 0)

theorem filt_ok {p : Nat → Sea → Bool} {S : List Sea} (h : ∀ s ∈ S, s.ok) : ∀ s ∈ filt p S, s.ok := by
  intro s hs
  unfold filt at hs
  obtain ⟨q, hq, rfl⟩ := List.mem_map.1 hs
  have h1 := (List.mem_filter.1 hq).1
  obtain ⟨g1, g2⟩ := List.mem_zipIdx' h1
  exact h _ (g2 ▸ List.getElem_mem g1)

theorem drop_app {σ : H} {l : List Value} {L : Lg} {i : Int} (h : IsLg σ l L) :
    App Tryd.prog (.func 11) #[] #[.agg l.toArray, .int .i64 i] σ fun v σ' => Old σ σ' ∧ ∃ l', v = .tuple #[.agg l'.toArray, .int .i64 (dropF L i).2] ∧ IsLg σ' l' (dropF L i).1 := by
  refine App.of_sem mixed Tryd.func11 t11 k11 r11 (Nat.le_of_ble_eq_true rfl) ?_
  obtain ⟨v, w, rfl, hv, hw⟩ := h.eq
  have hd16 : (digC L.d).length = 16 := by simp [digC, h.log.d16]
  have c17 : ∀ v, (digC L.d ++ [Value.int .i64 L.c, v, w])[17]? = some v := fun v => by rw [List.getElem?_append_right (by omega), hd16]; rfl
  have c18 : ∀ v, (digC L.d ++ [Value.int .i64 L.c, v, w])[18]? = some w := fun v => by rw [List.getElem?_append_right (by omega), hd16]; rfl
  obtain ⟨base, cp, rfl⟩ := hv.slice
  simp only [List.length_map] at hv ⊢
  have e0 : ap σ [] = σ := ap_nil
  rw [← e0]
  unfold s11
  simp only [↓eD0, ↓eD1, eC0, eC1, eC2, eC3, eC4, eC5, eC6, wantedE, ↓reduceIte, Nat.reduceEqDiff, Option.map_some, Option.map_none, reread, List.nil_append, List.cons_append, List.map_cons, List.map_nil, List.length_nil, List.length_cons, Value.cells, List.getElem?_cons_zero, List.getElem?_cons_succ, outE, lks, lkR, rdV, neg1, evs, opt, Nat.reduceAdd, Nat.reduceMul, and_self, reduceCtorEq, List.size_toArray, List.all_cons, List.all_nil, Value.oneCell', List.set_cons_zero, List.set_cons_succ, sets, fillL, Nat.reduceLeDiff, List.drop_succ_cons, List.drop_zero, List.take_succ_cons, List.take_zero, List.toList_toArray, argsE, Array.append_empty, Array.empty_append, List.getElem?_toArray, Int.reduceLT, Int.reduceLE, Int.reduceToNat, Int.reduceEq, Nat.reduceLT, c17]
  by_cases h0 : i < 0
  · simp only [↓eD0, ↓eD1, eC0, eC1, eC2, eC3, eC4, eC5, eC6, wantedE, ↓reduceIte, Nat.reduceEqDiff, Option.map_some, Option.map_none, reread, List.nil_append, List.cons_append, List.map_cons, List.map_nil, List.length_nil, List.length_cons, Value.cells, List.getElem?_cons_zero, List.getElem?_cons_succ, outE, lks, lkR, rdV, neg1, evs, opt, Nat.reduceAdd, Nat.reduceMul, and_self, reduceCtorEq, List.size_toArray, List.all_cons, List.all_nil, Value.oneCell', List.set_cons_zero, List.set_cons_succ, sets, fillL, Nat.reduceLeDiff, List.drop_succ_cons, List.drop_zero, List.take_succ_cons, List.take_zero, List.toList_toArray, argsE, Array.append_empty, Array.empty_append, List.getElem?_toArray, Int.reduceLT, Int.reduceLE, Int.reduceToNat, Int.reduceEq, Nat.reduceLT, h0, c17]
    exact ⟨.ap, zeroL, by simp [dropF, h0, zeroL], by simp only [dropF, h0, true_or, if_true]; exact isLg_zero⟩
  · by_cases h1 : (L.E.length : Int) ≤ i
    · simp only [↓eD0, ↓eD1, eC0, eC1, eC2, eC3, eC4, eC5, eC6, wantedE, ↓reduceIte, Nat.reduceEqDiff, Option.map_some, Option.map_none, reread, List.nil_append, List.cons_append, List.map_cons, List.map_nil, List.length_nil, List.length_cons, Value.cells, List.getElem?_cons_zero, List.getElem?_cons_succ, outE, lks, lkR, rdV, neg1, evs, opt, Nat.reduceAdd, Nat.reduceMul, and_self, reduceCtorEq, List.size_toArray, List.all_cons, List.all_nil, Value.oneCell', List.set_cons_zero, List.set_cons_succ, sets, fillL, Nat.reduceLeDiff, List.drop_succ_cons, List.drop_zero, List.take_succ_cons, List.take_zero, List.toList_toArray, argsE, Array.append_empty, Array.empty_append, List.getElem?_toArray, Int.reduceLT, Int.reduceLE, Int.reduceToNat, Int.reduceEq, Nat.reduceLT, h0, h1, c17]
      exact ⟨.ap, zeroL, by simp [dropF, h0, h1, zeroL], by simp only [dropF, h1, true_or, or_true, if_true]; exact isLg_zero⟩
    · obtain ⟨k, rfl⟩ : ∃ k : Nat, i = k := ⟨i.toNat, by omega⟩
      have hk : k < L.E.length := by omega
      obtain ⟨b', off, rfl, hx⟩ := hv.at (i := k) (x := entV L.E[k]) (by simp [hk])
      have hx5 : ∀ l, rdN (ap σ l) ⟨b', off + k * 5, none⟩ 5 = some (entV L.E[k]) := fun l => rdN_old hx
      have bi : (0:Int) ≤ (k:Int) ∧ (k:Int) < (L.E.length : Int) := by omega
      simp only [↓eD0, ↓eD1, eC0, eC1, eC2, eC3, eC4, eC5, eC6, wantedE, ↓reduceIte, Nat.reduceEqDiff, Option.map_some, Option.map_none, reread, List.nil_append, List.cons_append, List.map_cons, List.map_nil, List.length_nil, List.length_cons, Value.cells, List.getElem?_cons_zero, List.getElem?_cons_succ, outE, lks, lkR, rdV, neg1, evs, opt, Nat.reduceAdd, Nat.reduceMul, and_self, reduceCtorEq, List.size_toArray, List.all_cons, List.all_nil, Value.oneCell', List.set_cons_zero, List.set_cons_succ, sets, fillL, Nat.reduceLeDiff, List.drop_succ_cons, List.drop_zero, List.take_succ_cons, List.take_zero, List.toList_toArray, argsE, Array.append_empty, Array.empty_append, List.getElem?_toArray, Int.reduceLT, Int.reduceLE, Int.reduceToNat, Int.reduceEq, Nat.reduceLT, h0, h1, c17, bi, Int.toNat_natCast, hx5, entV]
      refine appK_of isSlice_lit ?_
      rintro _ _ ⟨e2, rfl⟩
      rw [e2]
      clear e2
      have hg : L.E.getD k zeroE = L.E[k] := by simp [List.getD_eq_getElem?_getD, hk]
      by_cases h2 : L.E[k].kind = 1
      · simp only [↓eD0, ↓eD1, eC0, eC1, eC2, eC3, eC4, eC5, eC6, wantedE, ↓reduceIte, Nat.reduceEqDiff, Option.map_some, Option.map_none, reread, List.nil_append, List.cons_append, List.map_cons, List.map_nil, List.length_nil, List.length_cons, Value.cells, List.getElem?_cons_zero, List.getElem?_cons_succ, outE, lks, lkR, rdV, neg1, evs, opt, Nat.reduceAdd, Nat.reduceMul, and_self, reduceCtorEq, List.size_toArray, List.all_cons, List.all_nil, Value.oneCell', List.set_cons_zero, List.set_cons_succ, sets, fillL, Nat.reduceLeDiff, List.drop_succ_cons, List.drop_zero, List.take_succ_cons, List.take_zero, List.toList_toArray, argsE, Array.append_empty, Array.empty_append, List.getElem?_toArray, Int.reduceLT, Int.reduceLE, Int.reduceToNat, Int.reduceEq, Nat.reduceLT, h0, h1, c17, h2]
        exact ⟨.ap, zeroL, by simp only [dropF, Int.toNat_natCast, hg, h2, or_true, if_true, zeroL], by simp only [dropF, Int.toNat_natCast, hg, h2, or_true, if_true]; exact isLg_zero⟩
      · simp only [↓eD0, ↓eD1, eC0, eC1, eC2, eC3, eC4, eC5, eC6, wantedE, ↓reduceIte, Nat.reduceEqDiff, Option.map_some, Option.map_none, reread, List.nil_append, List.cons_append, List.map_cons, List.map_nil, List.length_nil, List.length_cons, Value.cells, List.getElem?_cons_zero, List.getElem?_cons_succ, outE, lks, lkR, rdV, neg1, evs, opt, Nat.reduceAdd, Nat.reduceMul, and_self, reduceCtorEq, List.size_toArray, List.all_cons, List.all_nil, Value.oneCell', List.set_cons_zero, List.set_cons_succ, sets, fillL, Nat.reduceLeDiff, List.drop_succ_cons, List.drop_zero, List.take_succ_cons, List.take_zero, List.toList_toArray, argsE, Array.append_empty, Array.empty_append, List.getElem?_toArray, Int.reduceLT, Int.reduceLE, Int.reduceToNat, Int.reduceEq, Nat.reduceLT, h0, h1, c17, h2]
        refine appK_of (filterE_app (hv.Old .ap) h.fewE (p := fun j _ => !decide ((j : Int) = k)) fun j e τ ho => keepE_app (rd1_Old ho (by rw [rd1_ap]; rfl))) ?_
        rintro v' σ1 ⟨ho, hG⟩
        obtain ⟨bs1, cp1, rfl⟩ := hG.slice
        have hs2 : σ1[σ.size]? = some (.cells 0 _ (0, 0)) := (ho.2 _ (by simp [ap_size])).trans ap_new0
        have hs3 : σ1[σ.size + 1]? = some (.cells 0 _ (0, 0)) := (ho.2 _ (by simp [ap_size])).trans ap_new
        have hs4 : σ1[σ.size + 2]? = some (.cells 0 _ (0, 0)) := (ho.2 _ (by simp [ap_size])).trans ap_new
        have len : ∀ a b, (digC L.d ++ [Value.int .i64 L.c, a, b]).length = 19 := fun a b => by simp [hd16]
        have s17 : ∀ a b x, (digC L.d ++ [Value.int .i64 L.c, a, b]).set 17 x = digC L.d ++ [Value.int .i64 L.c, x, b] := fun a b x => by simp [List.set_append, hd16]
        have s18 : ∀ a b x, (digC L.d ++ [Value.int .i64 L.c, a, b]).set 18 x = digC L.d ++ [Value.int .i64 L.c, a, x] := fun a b x => by simp [List.set_append, hd16]
        have one := hG.one
        have gb : ∀ k, (σ1.setIfInBounds σ.size k)[σ.size]? = some k := fun k => get_set hs2
        simp only [↓eD0, ↓eD1, eC0, eC1, eC2, eC3, eC4, eC5, eC6, wantedE, ↓reduceIte, Nat.reduceEqDiff, Option.map_some, Option.map_none, reread, List.nil_append, List.cons_append, List.map_cons, List.map_nil, List.length_nil, List.length_cons, Value.cells, List.getElem?_cons_zero, List.getElem?_cons_succ, outE, lks, lkR, rdV, neg1, evs, opt, Nat.reduceAdd, Nat.reduceMul, and_self, reduceCtorEq, List.size_toArray, List.all_cons, List.all_nil, Value.oneCell', List.set_cons_zero, List.set_cons_succ, sets, fillL, Nat.reduceLeDiff, List.drop_succ_cons, List.drop_zero, List.take_succ_cons, List.take_zero, List.toList_toArray, argsE, Array.append_empty, Array.empty_append, List.getElem?_toArray, Int.reduceLT, Int.reduceLE, Int.reduceToNat, Int.reduceEq, Nat.reduceLT, rd1_eq, wrN_eq, hs2, hs3, gb, len, s17, c17, c18, one]
        have hoσ : Old σ (σ1.setIfInBounds σ.size (.cells 1 (digC L.d ++ [Value.int .i64 L.c, (.slice bs1 (filt (fun j _ => !decide ((j : Int) = k)) L.E).length cp1), w]) (0, 0))) := (Old.trans .ap ho).set (Nat.le_refl _)
        refine appK_of (filterS_app (hw.Old hoσ) h.ok h.fewS (p := fun _ s => decide (s.end_ ≤ (k : Int))) fun j e τ ho' => keepS_app (rd1_Old ho' (by rw [rd1_eq, get_set_ne (b := σ.size) (c := σ.size + 1) (by omega), hs3]; rfl))) ?_
        rintro w' σ2 ⟨ho2, hG2⟩
        obtain ⟨bs2, cp2, rfl⟩ := hG2.slice
        have one2 := hG2.one
        have hz2 : σ.size < σ1.size := (Array.getElem?_eq_some_iff.1 hs2).1
        have hz4 : σ.size + 2 < σ1.size := (Array.getElem?_eq_some_iff.1 hs4).1
        have ht2 : σ2[σ.size]? = some (.cells 1 (digC L.d ++ [Value.int .i64 L.c, (.slice bs1 (filt (fun j _ => !decide ((j : Int) = k)) L.E).length cp1), w]) (0, 0)) := (ho2.2 _ (by simpa using hz2)).trans (gb _)
        have ht4 : σ2[σ.size + 2]? = some (.cells 0 _ (0, 0)) := (ho2.2 _ (by simpa using hz4)).trans ((get_set_ne (by omega)).trans hs4)
        have gb2 : ∀ k, (σ2.setIfInBounds σ.size k)[σ.size]? = some k := fun k => get_set ht2
        have gb4 : ∀ k, (σ2.setIfInBounds σ.size k)[σ.size + 2]? = some (.cells 0 _ (0, 0)) := fun k => (get_set_ne (by omega)).trans ht4
        have gb5 : ∀ k k', ((σ2.setIfInBounds σ.size k).setIfInBounds (σ.size + 2) k')[σ.size + 2]? = some k' := fun k k' => get_set (gb4 k)
        have tk : ∀ a b, (digC L.d ++ [Value.int .i64 L.c, a, b]).take 19 = digC L.d ++ [Value.int .i64 L.c, a, b] := fun a b => List.take_of_length_le (by rw [len]; omega)
        have sf : ∀ a b z, z.length = 19 → sets z 0 (digC L.d ++ [Value.int .i64 L.c, a, b]) = digC L.d ++ [Value.int .i64 L.c, a, b] := fun a b z hz => by
          rw [sets_all (by rw [len]; omega), len]; simp [hz]
        have al : ∀ a b c d e f, (digC L.d ++ [Value.int .i64 L.c, .slice a b c, .slice d e f]).all Value.oneCell' = true := fun a b c d e f => by
          simp only [List.all_append, digC_one, List.all_cons, List.all_nil]; rfl
        have ne : ∀ a b, (digC L.d ++ [Value.int .i64 L.c, a, b] = []) = False := fun a b => by simp
        simp only [↓eD0, ↓eD1, eC0, eC1, eC2, eC3, eC4, eC5, eC6, wantedE, ↓reduceIte, Nat.reduceEqDiff, Option.map_some, Option.map_none, reread, List.nil_append, List.cons_append, List.map_cons, List.map_nil, List.length_nil, List.length_cons, Value.cells, List.getElem?_cons_zero, List.getElem?_cons_succ, outE, lks, lkR, rdV, neg1, evs, opt, Nat.reduceAdd, Nat.reduceMul, and_self, reduceCtorEq, List.size_toArray, List.all_cons, List.all_nil, Value.oneCell', List.set_cons_zero, List.set_cons_succ, sets, fillL, Nat.reduceLeDiff, List.drop_succ_cons, List.drop_zero, List.take_succ_cons, List.take_zero, List.toList_toArray, argsE, Array.append_empty, Array.empty_append, List.getElem?_toArray, Int.reduceLT, Int.reduceLE, Int.reduceToNat, Int.reduceEq, Nat.reduceLT, rd1_eq, wrN_eq, rdN_eq, ht2, gb2, gb4, gb5, len, s17, s18, c17, c18, one, one2, tk, sf, al, ne]
        have hsz : σ.size + 3 ≤ σ1.size := ho.1 |> fun h => by simpa [ap_size] using h
        have hsz2 : σ1.size ≤ σ2.size := by simpa using ho2.1
        refine ⟨((Old.trans hoσ ho2).set (Nat.le_refl _)).set (by omega), digC L.d ++ [Value.int .i64 L.c, (.slice bs1 (filt (fun j _ => !decide ((j : Int) = k)) L.E).length cp1), (.slice bs2 (filt (fun _ s => decide (s.end_ ≤ (k : Int))) L.S).length cp2)], ?_, ?_⟩
        · have hd : dropF L k = (⟨L.d, L.c, filt (fun j _ => !decide ((j : Int) = k)) L.E, filt (fun _ s => decide (s.end_ ≤ (k : Int))) L.S⟩, 0) := by
            unfold dropF; rw [if_neg]; simp only [Int.toNat_natCast, hg]; omega
          rw [hd]
        · have hd : dropF L k = (⟨L.d, L.c, filt (fun j _ => !decide ((j : Int) = k)) L.E, filt (fun _ s => decide (s.end_ ≤ (k : Int))) L.S⟩, 0) := by
            unfold dropF; rw [if_neg]; simp only [Int.toNat_natCast, hg]; omega
          rw [hd]
          have fE : (filt (fun j (_ : Ent) => !decide ((j : Int) = k)) L.E).length ≤ L.E.length := filt_len
          have fS : (filt (fun _ (s : Sea) => decide (s.end_ ≤ (k : Int))) L.S).length ≤ L.S.length := filt_len
          have := h.fewE
          have := h.fewS
          have hok := filt_ok (p := fun _ s => decide (s.end_ ≤ (k : Int))) h.ok
          refine IsLg.mk' h.log.d16 ?_ ?_ hok (by omega) (by omega) hG.cap
          · have g1 := (((hG.set (k := .cells 1 (digC L.d ++ [Value.int .i64 L.c, (.slice bs1 (filt (fun j _ => !decide ((j : Int) = k)) L.E).length cp1), w]) (0, 0)) (by simp [ap_size])).old ho2).set (b := σ.size) (k := .cells 2 (digC L.d ++ [Value.int .i64 L.c, (.slice bs1 (filt (fun j _ => !decide ((j : Int) = k)) L.E).length cp1), (.slice bs2 (filt (fun _ s => decide (s.end_ ≤ (k : Int))) L.S).length cp2)]) (0, 0)) (by simp [ap_size])).set (b := σ.size + 2) (k := .cells 1 (digC L.d ++ [Value.int .i64 L.c, (.slice bs1 (filt (fun j _ => !decide ((j : Int) = k)) L.E).length cp1), (.slice bs2 (filt (fun _ s => decide (s.end_ ≤ (k : Int))) L.S).length cp2)]) (0, 0)) (by simp [ap_size])
            refine Grown.Row (σ0 := ap σ _) (by simpa using g1) ?_
            intro r hr
            obtain ⟨e, _, rfl⟩ := List.mem_map.1 hr
            rfl
          · have g1 := (hG2.set (b := σ.size) (k := .cells 2 (digC L.d ++ [Value.int .i64 L.c, (.slice bs1 (filt (fun j _ => !decide ((j : Int) = k)) L.E).length cp1), (.slice bs2 (filt (fun _ s => decide (s.end_ ≤ (k : Int))) L.S).length cp2)]) (0, 0)) (by simpa using hz2)).set (b := σ.size + 2) (k := .cells 1 (digC L.d ++ [Value.int .i64 L.c, (.slice bs1 (filt (fun j _ => !decide ((j : Int) = k)) L.E).length cp1), (.slice bs2 (filt (fun _ s => decide (s.end_ ≤ (k : Int))) L.S).length cp2)]) (0, 0)) (by simpa using hz4)
            refine Grown.Row (by simpa using g1) ?_
            intro r hr
            obtain ⟨e, he, rfl⟩ := List.mem_map.1 hr
            exact seaV_len (hok e he)
end Go.Proofs.YtljmjkpmkpchoaaDoor
