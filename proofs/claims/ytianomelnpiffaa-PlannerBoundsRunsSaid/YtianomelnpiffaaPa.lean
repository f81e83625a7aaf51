/- Walks of the functions that the claim reaches. Conditions: none. -/
import Derived.Test.YtianomelnpiffaaBodies
set_option linter.all false
set_option linter.unusedSimpArgs false
set_option linter.unusedVariables false
set_option maxRecDepth 10000
set_option maxHeartbeats 1000000
namespace Go.Proofs.Ytianomelnpiffaa
open Go Go.Cn Go.RowKit
attribute [local irreducible] evL sem onG onI onV

theorem mixed : Try.prog.follows .mixedOrders = true := by kernel_rfl
theorem undef_eq : undef = Value.tuple #[] := _root_.id rfl
def mn (x y : Int) : Int := if y < x then y else x
theorem mn_eq {x y : Int} : (if y < x then y else x) = mn x y := rfl
theorem mn_le (x y : Int) : mn x y ≤ x ∧ mn x y ≤ y ∧ (mn x y = x ∨ mn x y = y) := by unfold mn; split <;> omega

structure Ld where
  p : Int
  h : Int
  r : Int
  s : Int
structure Ln where
  p : Int
  d : Int
structure Pl where
  m : Int
  r : Int
  deriving DecidableEq
structure Bd where
  d : Int
  v : Int
  s : Int
  deriving DecidableEq
def ldV (g : Ld) : List Value := [.int .i64 g.p, .int .i64 g.h, .int .i64 g.r, .int .i64 g.s]
def lnV (l : Ln) : List Value := [.int .i64 l.p, .int .i64 l.d]
def mvV (g : Ld) (l : Ln) : List Value := [.int .i64 g.p, .int .i64 g.h, .int .i64 g.r, .int .i64 g.s, .int .i64 l.p, .int .i64 l.d]
def plV (p : Pl) : List Value := [.int .i64 p.m, .int .i64 p.r]
def bdV (b : Bd) : List Value := [.int .i64 b.d, .int .i64 b.v, .int .i64 b.s]
def OkF (g : Ld) (l : Ln) : Prop := ((1 ≤ g.p ∧ g.p ≤ 64) ∧ (0 ≤ g.h ∧ g.h ≤ g.p) ∧ (0 ≤ g.r ∧ g.r ≤ 1048576) ∧ (0 ≤ g.s ∧ g.s ≤ 1048576)) ∧ (1 ≤ l.p ∧ l.p ≤ 1048576) ∧ (0 ≤ l.d ∧ l.d ≤ 1048576)
instance {g : Ld} {l : Ln} : Decidable (OkF g l) := by unfold OkF; exact inferInstance
def chk (g : Ld) (l : Ln) : Int := if OkF g l then 0 else 7

theorem iw22_app {n lo hi : Int} {σ : H} : App Try.prog (.func 22) #[] #[.int .i64 n, .int .i64 lo, .int .i64 hi] σ fun v σ' => σ' = σ ∧ v = .bool (decide (lo ≤ n ∧ n ≤ hi)) := by
  refine App.forget (App.of_sem mixed Try.func22 t22 k22 r22 (Nat.le_of_ble_eq_true rfl) ?_)
  unfold s22
  by_cases h1 : lo ≤ n <;> by_cases h2 : n ≤ hi <;> simp [↓eD0, ↓eD1, eC0, eC1, eC2, eC3, eC4, eC5, eC6, wantedE, ↓reduceIte, Nat.reduceEqDiff, Option.map_some, Option.map_none, reread, List.nil_append, List.cons_append, List.map_cons, List.map_nil, List.length_nil, List.length_cons, Value.cells, List.getElem?_cons_zero, List.getElem?_cons_succ, outE, lks, lkR, rdV, neg1, evs, opt, Nat.reduceAdd, Nat.reduceMul, and_self, reduceCtorEq, List.size_toArray, List.all_cons, List.all_nil, Value.oneCell', List.set_cons_zero, List.set_cons_succ, sets, fillL, Nat.reduceLeDiff, List.drop_succ_cons, List.drop_zero, List.take_succ_cons, List.take_zero, List.toList_toArray, argsE, Array.append_empty, Array.empty_append, List.getElem?_toArray, Int.reduceLT, Int.reduceLE, Int.reduceToNat, Int.reduceEq, Nat.reduceLT, h1, h2, undef_eq] <;> exact ⟨Old.refl, rfl⟩

theorem iw26_app {n lo hi : Int} {σ : H} : App Try.prog (.func 26) #[] #[.int .i64 n, .int .i64 lo, .int .i64 hi] σ fun v σ' => σ' = σ ∧ v = .bool (decide (lo ≤ n ∧ n ≤ hi)) := by
  refine App.forget (App.of_sem mixed Try.func26 t26 k26 r26 (Nat.le_of_ble_eq_true rfl) ?_)
  unfold s26
  by_cases h1 : lo ≤ n <;> by_cases h2 : n ≤ hi <;> simp [↓eD0, ↓eD1, eC0, eC1, eC2, eC3, eC4, eC5, eC6, wantedE, ↓reduceIte, Nat.reduceEqDiff, Option.map_some, Option.map_none, reread, List.nil_append, List.cons_append, List.map_cons, List.map_nil, List.length_nil, List.length_cons, Value.cells, List.getElem?_cons_zero, List.getElem?_cons_succ, outE, lks, lkR, rdV, neg1, evs, opt, Nat.reduceAdd, Nat.reduceMul, and_self, reduceCtorEq, List.size_toArray, List.all_cons, List.all_nil, Value.oneCell', List.set_cons_zero, List.set_cons_succ, sets, fillL, Nat.reduceLeDiff, List.drop_succ_cons, List.drop_zero, List.take_succ_cons, List.take_zero, List.toList_toArray, argsE, Array.append_empty, Array.empty_append, List.getElem?_toArray, Int.reduceLT, Int.reduceLE, Int.reduceToNat, Int.reduceEq, Nat.reduceLT, h1, h2, undef_eq] <;> exact ⟨Old.refl, rfl⟩

theorem check14_app {g : Ld} {l : Ln} {σ : H} : App Try.prog (.func 14) #[] #[.agg (ldV g).toArray, .agg (lnV l).toArray] σ fun v σ' => σ' = σ ∧ v = .int .i64 (chk g l) := by
  refine App.forget (App.of_sem mixed Try.func14 t14 k14 r14 (Nat.le_of_ble_eq_true rfl) ?_)
  rw [← ap_nil (σ := σ)]
  unfold s14
  simp only [↓eD0, ↓eD1, eC0, eC1, eC2, eC3, eC4, eC5, eC6, wantedE, ↓reduceIte, Nat.reduceEqDiff, Option.map_some, Option.map_none, reread, List.nil_append, List.cons_append, List.map_cons, List.map_nil, List.length_nil, List.length_cons, Value.cells, List.getElem?_cons_zero, List.getElem?_cons_succ, outE, lks, lkR, rdV, neg1, evs, opt, Nat.reduceAdd, Nat.reduceMul, and_self, reduceCtorEq, List.size_toArray, List.all_cons, List.all_nil, Value.oneCell', List.set_cons_zero, List.set_cons_succ, sets, fillL, Nat.reduceLeDiff, List.drop_succ_cons, List.drop_zero, List.take_succ_cons, List.take_zero, List.toList_toArray, argsE, Array.append_empty, Array.empty_append, List.getElem?_toArray, Int.reduceLT, Int.reduceLE, Int.reduceToNat, Int.reduceEq, Nat.reduceLT, ldV, lnV, undef_eq]
  refine appK_of iw22_app ?_
  rintro _ _ ⟨e2, rfl⟩
  rw [e2]
  clear e2
  by_cases h1 : 1 ≤ g.p ∧ g.p ≤ 64
  case neg =>
    have d1 : decide (1 ≤ g.p ∧ g.p ≤ 64) = false := decide_eq_false h1
    simp only [↓eD0, ↓eD1, eC0, eC1, eC2, eC3, eC4, eC5, eC6, wantedE, ↓reduceIte, Nat.reduceEqDiff, Option.map_some, Option.map_none, reread, List.nil_append, List.cons_append, List.map_cons, List.map_nil, List.length_nil, List.length_cons, Value.cells, List.getElem?_cons_zero, List.getElem?_cons_succ, outE, lks, lkR, rdV, neg1, evs, opt, Nat.reduceAdd, Nat.reduceMul, and_self, reduceCtorEq, List.size_toArray, List.all_cons, List.all_nil, Value.oneCell', List.set_cons_zero, List.set_cons_succ, sets, fillL, Nat.reduceLeDiff, List.drop_succ_cons, List.drop_zero, List.take_succ_cons, List.take_zero, List.toList_toArray, argsE, Array.append_empty, Array.empty_append, List.getElem?_toArray, Int.reduceLT, Int.reduceLE, Int.reduceToNat, Int.reduceEq, Nat.reduceLT, d1, undef_eq]
    have : chk g l = 7 := if_neg fun h => h1 h.1.1
    exact ⟨.ap, by rw [this]; exact ⟨rfl, rfl⟩⟩
  have d1 : decide (1 ≤ g.p ∧ g.p ≤ 64) = true := decide_eq_true h1
  simp only [↓eD0, ↓eD1, eC0, eC1, eC2, eC3, eC4, eC5, eC6, wantedE, ↓reduceIte, Nat.reduceEqDiff, Option.map_some, Option.map_none, reread, List.nil_append, List.cons_append, List.map_cons, List.map_nil, List.length_nil, List.length_cons, Value.cells, List.getElem?_cons_zero, List.getElem?_cons_succ, outE, lks, lkR, rdV, neg1, evs, opt, Nat.reduceAdd, Nat.reduceMul, and_self, reduceCtorEq, List.size_toArray, List.all_cons, List.all_nil, Value.oneCell', List.set_cons_zero, List.set_cons_succ, sets, fillL, Nat.reduceLeDiff, List.drop_succ_cons, List.drop_zero, List.take_succ_cons, List.take_zero, List.toList_toArray, argsE, Array.append_empty, Array.empty_append, List.getElem?_toArray, Int.reduceLT, Int.reduceLE, Int.reduceToNat, Int.reduceEq, Nat.reduceLT, d1, undef_eq]
  refine appK_of iw22_app ?_
  rintro _ _ ⟨e2, rfl⟩
  rw [e2]
  clear e2
  by_cases h2 : 0 ≤ g.h ∧ g.h ≤ g.p
  case neg =>
    have d2 : decide (0 ≤ g.h ∧ g.h ≤ g.p) = false := decide_eq_false h2
    simp only [↓eD0, ↓eD1, eC0, eC1, eC2, eC3, eC4, eC5, eC6, wantedE, ↓reduceIte, Nat.reduceEqDiff, Option.map_some, Option.map_none, reread, List.nil_append, List.cons_append, List.map_cons, List.map_nil, List.length_nil, List.length_cons, Value.cells, List.getElem?_cons_zero, List.getElem?_cons_succ, outE, lks, lkR, rdV, neg1, evs, opt, Nat.reduceAdd, Nat.reduceMul, and_self, reduceCtorEq, List.size_toArray, List.all_cons, List.all_nil, Value.oneCell', List.set_cons_zero, List.set_cons_succ, sets, fillL, Nat.reduceLeDiff, List.drop_succ_cons, List.drop_zero, List.take_succ_cons, List.take_zero, List.toList_toArray, argsE, Array.append_empty, Array.empty_append, List.getElem?_toArray, Int.reduceLT, Int.reduceLE, Int.reduceToNat, Int.reduceEq, Nat.reduceLT, d2, undef_eq]
    have : chk g l = 7 := if_neg fun h => h2 h.1.2.1
    exact ⟨.ap, by rw [this]; exact ⟨rfl, rfl⟩⟩
  have d2 : decide (0 ≤ g.h ∧ g.h ≤ g.p) = true := decide_eq_true h2
  simp only [↓eD0, ↓eD1, eC0, eC1, eC2, eC3, eC4, eC5, eC6, wantedE, ↓reduceIte, Nat.reduceEqDiff, Option.map_some, Option.map_none, reread, List.nil_append, List.cons_append, List.map_cons, List.map_nil, List.length_nil, List.length_cons, Value.cells, List.getElem?_cons_zero, List.getElem?_cons_succ, outE, lks, lkR, rdV, neg1, evs, opt, Nat.reduceAdd, Nat.reduceMul, and_self, reduceCtorEq, List.size_toArray, List.all_cons, List.all_nil, Value.oneCell', List.set_cons_zero, List.set_cons_succ, sets, fillL, Nat.reduceLeDiff, List.drop_succ_cons, List.drop_zero, List.take_succ_cons, List.take_zero, List.toList_toArray, argsE, Array.append_empty, Array.empty_append, List.getElem?_toArray, Int.reduceLT, Int.reduceLE, Int.reduceToNat, Int.reduceEq, Nat.reduceLT, d2, undef_eq]
  refine appK_of iw22_app ?_
  rintro _ _ ⟨e2, rfl⟩
  rw [e2]
  clear e2
  by_cases h3 : 0 ≤ g.r ∧ g.r ≤ 1048576
  case neg =>
    have d3 : decide (0 ≤ g.r ∧ g.r ≤ 1048576) = false := decide_eq_false h3
    simp only [↓eD0, ↓eD1, eC0, eC1, eC2, eC3, eC4, eC5, eC6, wantedE, ↓reduceIte, Nat.reduceEqDiff, Option.map_some, Option.map_none, reread, List.nil_append, List.cons_append, List.map_cons, List.map_nil, List.length_nil, List.length_cons, Value.cells, List.getElem?_cons_zero, List.getElem?_cons_succ, outE, lks, lkR, rdV, neg1, evs, opt, Nat.reduceAdd, Nat.reduceMul, and_self, reduceCtorEq, List.size_toArray, List.all_cons, List.all_nil, Value.oneCell', List.set_cons_zero, List.set_cons_succ, sets, fillL, Nat.reduceLeDiff, List.drop_succ_cons, List.drop_zero, List.take_succ_cons, List.take_zero, List.toList_toArray, argsE, Array.append_empty, Array.empty_append, List.getElem?_toArray, Int.reduceLT, Int.reduceLE, Int.reduceToNat, Int.reduceEq, Nat.reduceLT, d3, undef_eq]
    have : chk g l = 7 := if_neg fun h => h3 h.1.2.2.1
    exact ⟨.ap, by rw [this]; exact ⟨rfl, rfl⟩⟩
  have d3 : decide (0 ≤ g.r ∧ g.r ≤ 1048576) = true := decide_eq_true h3
  simp only [↓eD0, ↓eD1, eC0, eC1, eC2, eC3, eC4, eC5, eC6, wantedE, ↓reduceIte, Nat.reduceEqDiff, Option.map_some, Option.map_none, reread, List.nil_append, List.cons_append, List.map_cons, List.map_nil, List.length_nil, List.length_cons, Value.cells, List.getElem?_cons_zero, List.getElem?_cons_succ, outE, lks, lkR, rdV, neg1, evs, opt, Nat.reduceAdd, Nat.reduceMul, and_self, reduceCtorEq, List.size_toArray, List.all_cons, List.all_nil, Value.oneCell', List.set_cons_zero, List.set_cons_succ, sets, fillL, Nat.reduceLeDiff, List.drop_succ_cons, List.drop_zero, List.take_succ_cons, List.take_zero, List.toList_toArray, argsE, Array.append_empty, Array.empty_append, List.getElem?_toArray, Int.reduceLT, Int.reduceLE, Int.reduceToNat, Int.reduceEq, Nat.reduceLT, d3, undef_eq]
  refine appK_of iw22_app ?_
  rintro _ _ ⟨e2, rfl⟩
  rw [e2]
  clear e2
  by_cases h4 : 0 ≤ g.s ∧ g.s ≤ 1048576
  case neg =>
    have d4 : decide (0 ≤ g.s ∧ g.s ≤ 1048576) = false := decide_eq_false h4
    simp only [↓eD0, ↓eD1, eC0, eC1, eC2, eC3, eC4, eC5, eC6, wantedE, ↓reduceIte, Nat.reduceEqDiff, Option.map_some, Option.map_none, reread, List.nil_append, List.cons_append, List.map_cons, List.map_nil, List.length_nil, List.length_cons, Value.cells, List.getElem?_cons_zero, List.getElem?_cons_succ, outE, lks, lkR, rdV, neg1, evs, opt, Nat.reduceAdd, Nat.reduceMul, and_self, reduceCtorEq, List.size_toArray, List.all_cons, List.all_nil, Value.oneCell', List.set_cons_zero, List.set_cons_succ, sets, fillL, Nat.reduceLeDiff, List.drop_succ_cons, List.drop_zero, List.take_succ_cons, List.take_zero, List.toList_toArray, argsE, Array.append_empty, Array.empty_append, List.getElem?_toArray, Int.reduceLT, Int.reduceLE, Int.reduceToNat, Int.reduceEq, Nat.reduceLT, d4, undef_eq]
    have : chk g l = 7 := if_neg fun h => h4 h.1.2.2.2
    exact ⟨.ap, by rw [this]; exact ⟨rfl, rfl⟩⟩
  have d4 : decide (0 ≤ g.s ∧ g.s ≤ 1048576) = true := decide_eq_true h4
  simp only [↓eD0, ↓eD1, eC0, eC1, eC2, eC3, eC4, eC5, eC6, wantedE, ↓reduceIte, Nat.reduceEqDiff, Option.map_some, Option.map_none, reread, List.nil_append, List.cons_append, List.map_cons, List.map_nil, List.length_nil, List.length_cons, Value.cells, List.getElem?_cons_zero, List.getElem?_cons_succ, outE, lks, lkR, rdV, neg1, evs, opt, Nat.reduceAdd, Nat.reduceMul, and_self, reduceCtorEq, List.size_toArray, List.all_cons, List.all_nil, Value.oneCell', List.set_cons_zero, List.set_cons_succ, sets, fillL, Nat.reduceLeDiff, List.drop_succ_cons, List.drop_zero, List.take_succ_cons, List.take_zero, List.toList_toArray, argsE, Array.append_empty, Array.empty_append, List.getElem?_toArray, Int.reduceLT, Int.reduceLE, Int.reduceToNat, Int.reduceEq, Nat.reduceLT, d4, undef_eq]
  refine appK_of iw22_app ?_
  rintro _ _ ⟨e2, rfl⟩
  rw [e2]
  clear e2
  by_cases h5 : 1 ≤ l.p ∧ l.p ≤ 1048576
  case neg =>
    have d5 : decide (1 ≤ l.p ∧ l.p ≤ 1048576) = false := decide_eq_false h5
    simp only [↓eD0, ↓eD1, eC0, eC1, eC2, eC3, eC4, eC5, eC6, wantedE, ↓reduceIte, Nat.reduceEqDiff, Option.map_some, Option.map_none, reread, List.nil_append, List.cons_append, List.map_cons, List.map_nil, List.length_nil, List.length_cons, Value.cells, List.getElem?_cons_zero, List.getElem?_cons_succ, outE, lks, lkR, rdV, neg1, evs, opt, Nat.reduceAdd, Nat.reduceMul, and_self, reduceCtorEq, List.size_toArray, List.all_cons, List.all_nil, Value.oneCell', List.set_cons_zero, List.set_cons_succ, sets, fillL, Nat.reduceLeDiff, List.drop_succ_cons, List.drop_zero, List.take_succ_cons, List.take_zero, List.toList_toArray, argsE, Array.append_empty, Array.empty_append, List.getElem?_toArray, Int.reduceLT, Int.reduceLE, Int.reduceToNat, Int.reduceEq, Nat.reduceLT, d5, undef_eq]
    have : chk g l = 7 := if_neg fun h => h5 h.2.1
    exact ⟨.ap, by rw [this]; exact ⟨rfl, rfl⟩⟩
  have d5 : decide (1 ≤ l.p ∧ l.p ≤ 1048576) = true := decide_eq_true h5
  simp only [↓eD0, ↓eD1, eC0, eC1, eC2, eC3, eC4, eC5, eC6, wantedE, ↓reduceIte, Nat.reduceEqDiff, Option.map_some, Option.map_none, reread, List.nil_append, List.cons_append, List.map_cons, List.map_nil, List.length_nil, List.length_cons, Value.cells, List.getElem?_cons_zero, List.getElem?_cons_succ, outE, lks, lkR, rdV, neg1, evs, opt, Nat.reduceAdd, Nat.reduceMul, and_self, reduceCtorEq, List.size_toArray, List.all_cons, List.all_nil, Value.oneCell', List.set_cons_zero, List.set_cons_succ, sets, fillL, Nat.reduceLeDiff, List.drop_succ_cons, List.drop_zero, List.take_succ_cons, List.take_zero, List.toList_toArray, argsE, Array.append_empty, Array.empty_append, List.getElem?_toArray, Int.reduceLT, Int.reduceLE, Int.reduceToNat, Int.reduceEq, Nat.reduceLT, d5, undef_eq]
  refine appK_of iw22_app ?_
  rintro _ _ ⟨e2, rfl⟩
  rw [e2]
  clear e2
  by_cases h6 : 0 ≤ l.d ∧ l.d ≤ 1048576
  case neg =>
    have d6 : decide (0 ≤ l.d ∧ l.d ≤ 1048576) = false := decide_eq_false h6
    simp only [↓eD0, ↓eD1, eC0, eC1, eC2, eC3, eC4, eC5, eC6, wantedE, ↓reduceIte, Nat.reduceEqDiff, Option.map_some, Option.map_none, reread, List.nil_append, List.cons_append, List.map_cons, List.map_nil, List.length_nil, List.length_cons, Value.cells, List.getElem?_cons_zero, List.getElem?_cons_succ, outE, lks, lkR, rdV, neg1, evs, opt, Nat.reduceAdd, Nat.reduceMul, and_self, reduceCtorEq, List.size_toArray, List.all_cons, List.all_nil, Value.oneCell', List.set_cons_zero, List.set_cons_succ, sets, fillL, Nat.reduceLeDiff, List.drop_succ_cons, List.drop_zero, List.take_succ_cons, List.take_zero, List.toList_toArray, argsE, Array.append_empty, Array.empty_append, List.getElem?_toArray, Int.reduceLT, Int.reduceLE, Int.reduceToNat, Int.reduceEq, Nat.reduceLT, d6, undef_eq]
    have : chk g l = 7 := if_neg fun h => h6 h.2.2
    exact ⟨.ap, by rw [this]; exact ⟨rfl, rfl⟩⟩
  have d6 : decide (0 ≤ l.d ∧ l.d ≤ 1048576) = true := decide_eq_true h6
  simp only [↓eD0, ↓eD1, eC0, eC1, eC2, eC3, eC4, eC5, eC6, wantedE, ↓reduceIte, Nat.reduceEqDiff, Option.map_some, Option.map_none, reread, List.nil_append, List.cons_append, List.map_cons, List.map_nil, List.length_nil, List.length_cons, Value.cells, List.getElem?_cons_zero, List.getElem?_cons_succ, outE, lks, lkR, rdV, neg1, evs, opt, Nat.reduceAdd, Nat.reduceMul, and_self, reduceCtorEq, List.size_toArray, List.all_cons, List.all_nil, Value.oneCell', List.set_cons_zero, List.set_cons_succ, sets, fillL, Nat.reduceLeDiff, List.drop_succ_cons, List.drop_zero, List.take_succ_cons, List.take_zero, List.toList_toArray, argsE, Array.append_empty, Array.empty_append, List.getElem?_toArray, Int.reduceLT, Int.reduceLE, Int.reduceToNat, Int.reduceEq, Nat.reduceLT, d6, undef_eq]
  have : chk g l = 0 := if_pos ⟨⟨h1, h2, h3, h4⟩, h5, h6⟩
  exact ⟨.ap, by rw [this]; exact ⟨rfl, rfl⟩⟩

theorem check15_app {g : Ld} {l : Ln} {σ : H} : App Try.prog (.func 15) #[] #[.agg (ldV g).toArray, .agg (lnV l).toArray] σ fun v σ' => σ' = σ ∧ v = .int .i64 (chk g l) := by
  refine App.forget (App.of_sem mixed Try.func15 t15 k15 r15 (Nat.le_of_ble_eq_true rfl) ?_)
  rw [← ap_nil (σ := σ)]
  unfold s15
  simp only [↓eD0, ↓eD1, eC0, eC1, eC2, eC3, eC4, eC5, eC6, wantedE, ↓reduceIte, Nat.reduceEqDiff, Option.map_some, Option.map_none, reread, List.nil_append, List.cons_append, List.map_cons, List.map_nil, List.length_nil, List.length_cons, Value.cells, List.getElem?_cons_zero, List.getElem?_cons_succ, outE, lks, lkR, rdV, neg1, evs, opt, Nat.reduceAdd, Nat.reduceMul, and_self, reduceCtorEq, List.size_toArray, List.all_cons, List.all_nil, Value.oneCell', List.set_cons_zero, List.set_cons_succ, sets, fillL, Nat.reduceLeDiff, List.drop_succ_cons, List.drop_zero, List.take_succ_cons, List.take_zero, List.toList_toArray, argsE, Array.append_empty, Array.empty_append, List.getElem?_toArray, Int.reduceLT, Int.reduceLE, Int.reduceToNat, Int.reduceEq, Nat.reduceLT, ldV, lnV, undef_eq]
  refine appK_of iw26_app ?_
  rintro _ _ ⟨e2, rfl⟩
  rw [e2]
  clear e2
  by_cases h1 : 1 ≤ g.p ∧ g.p ≤ 64
  case neg =>
    have d1 : decide (1 ≤ g.p ∧ g.p ≤ 64) = false := decide_eq_false h1
    simp only [↓eD0, ↓eD1, eC0, eC1, eC2, eC3, eC4, eC5, eC6, wantedE, ↓reduceIte, Nat.reduceEqDiff, Option.map_some, Option.map_none, reread, List.nil_append, List.cons_append, List.map_cons, List.map_nil, List.length_nil, List.length_cons, Value.cells, List.getElem?_cons_zero, List.getElem?_cons_succ, outE, lks, lkR, rdV, neg1, evs, opt, Nat.reduceAdd, Nat.reduceMul, and_self, reduceCtorEq, List.size_toArray, List.all_cons, List.all_nil, Value.oneCell', List.set_cons_zero, List.set_cons_succ, sets, fillL, Nat.reduceLeDiff, List.drop_succ_cons, List.drop_zero, List.take_succ_cons, List.take_zero, List.toList_toArray, argsE, Array.append_empty, Array.empty_append, List.getElem?_toArray, Int.reduceLT, Int.reduceLE, Int.reduceToNat, Int.reduceEq, Nat.reduceLT, d1, undef_eq]
    have : chk g l = 7 := if_neg fun h => h1 h.1.1
    exact ⟨.ap, by rw [this]; exact ⟨rfl, rfl⟩⟩
  have d1 : decide (1 ≤ g.p ∧ g.p ≤ 64) = true := decide_eq_true h1
  simp only [↓eD0, ↓eD1, eC0, eC1, eC2, eC3, eC4, eC5, eC6, wantedE, ↓reduceIte, Nat.reduceEqDiff, Option.map_some, Option.map_none, reread, List.nil_append, List.cons_append, List.map_cons, List.map_nil, List.length_nil, List.length_cons, Value.cells, List.getElem?_cons_zero, List.getElem?_cons_succ, outE, lks, lkR, rdV, neg1, evs, opt, Nat.reduceAdd, Nat.reduceMul, and_self, reduceCtorEq, List.size_toArray, List.all_cons, List.all_nil, Value.oneCell', List.set_cons_zero, List.set_cons_succ, sets, fillL, Nat.reduceLeDiff, List.drop_succ_cons, List.drop_zero, List.take_succ_cons, List.take_zero, List.toList_toArray, argsE, Array.append_empty, Array.empty_append, List.getElem?_toArray, Int.reduceLT, Int.reduceLE, Int.reduceToNat, Int.reduceEq, Nat.reduceLT, d1, undef_eq]
  refine appK_of iw26_app ?_
  rintro _ _ ⟨e2, rfl⟩
  rw [e2]
  clear e2
  by_cases h2 : 0 ≤ g.h ∧ g.h ≤ g.p
  case neg =>
    have d2 : decide (0 ≤ g.h ∧ g.h ≤ g.p) = false := decide_eq_false h2
    simp only [↓eD0, ↓eD1, eC0, eC1, eC2, eC3, eC4, eC5, eC6, wantedE, ↓reduceIte, Nat.reduceEqDiff, Option.map_some, Option.map_none, reread, List.nil_append, List.cons_append, List.map_cons, List.map_nil, List.length_nil, List.length_cons, Value.cells, List.getElem?_cons_zero, List.getElem?_cons_succ, outE, lks, lkR, rdV, neg1, evs, opt, Nat.reduceAdd, Nat.reduceMul, and_self, reduceCtorEq, List.size_toArray, List.all_cons, List.all_nil, Value.oneCell', List.set_cons_zero, List.set_cons_succ, sets, fillL, Nat.reduceLeDiff, List.drop_succ_cons, List.drop_zero, List.take_succ_cons, List.take_zero, List.toList_toArray, argsE, Array.append_empty, Array.empty_append, List.getElem?_toArray, Int.reduceLT, Int.reduceLE, Int.reduceToNat, Int.reduceEq, Nat.reduceLT, d2, undef_eq]
    have : chk g l = 7 := if_neg fun h => h2 h.1.2.1
    exact ⟨.ap, by rw [this]; exact ⟨rfl, rfl⟩⟩
  have d2 : decide (0 ≤ g.h ∧ g.h ≤ g.p) = true := decide_eq_true h2
  simp only [↓eD0, ↓eD1, eC0, eC1, eC2, eC3, eC4, eC5, eC6, wantedE, ↓reduceIte, Nat.reduceEqDiff, Option.map_some, Option.map_none, reread, List.nil_append, List.cons_append, List.map_cons, List.map_nil, List.length_nil, List.length_cons, Value.cells, List.getElem?_cons_zero, List.getElem?_cons_succ, outE, lks, lkR, rdV, neg1, evs, opt, Nat.reduceAdd, Nat.reduceMul, and_self, reduceCtorEq, List.size_toArray, List.all_cons, List.all_nil, Value.oneCell', List.set_cons_zero, List.set_cons_succ, sets, fillL, Nat.reduceLeDiff, List.drop_succ_cons, List.drop_zero, List.take_succ_cons, List.take_zero, List.toList_toArray, argsE, Array.append_empty, Array.empty_append, List.getElem?_toArray, Int.reduceLT, Int.reduceLE, Int.reduceToNat, Int.reduceEq, Nat.reduceLT, d2, undef_eq]
  refine appK_of iw26_app ?_
  rintro _ _ ⟨e2, rfl⟩
  rw [e2]
  clear e2
  by_cases h3 : 0 ≤ g.r ∧ g.r ≤ 1048576
  case neg =>
    have d3 : decide (0 ≤ g.r ∧ g.r ≤ 1048576) = false := decide_eq_false h3
    simp only [↓eD0, ↓eD1, eC0, eC1, eC2, eC3, eC4, eC5, eC6, wantedE, ↓reduceIte, Nat.reduceEqDiff, Option.map_some, Option.map_none, reread, List.nil_append, List.cons_append, List.map_cons, List.map_nil, List.length_nil, List.length_cons, Value.cells, List.getElem?_cons_zero, List.getElem?_cons_succ, outE, lks, lkR, rdV, neg1, evs, opt, Nat.reduceAdd, Nat.reduceMul, and_self, reduceCtorEq, List.size_toArray, List.all_cons, List.all_nil, Value.oneCell', List.set_cons_zero, List.set_cons_succ, sets, fillL, Nat.reduceLeDiff, List.drop_succ_cons, List.drop_zero, List.take_succ_cons, List.take_zero, List.toList_toArray, argsE, Array.append_empty, Array.empty_append, List.getElem?_toArray, Int.reduceLT, Int.reduceLE, Int.reduceToNat, Int.reduceEq, Nat.reduceLT, d3, undef_eq]
    have : chk g l = 7 := if_neg fun h => h3 h.1.2.2.1
    exact ⟨.ap, by rw [this]; exact ⟨rfl, rfl⟩⟩
  have d3 : decide (0 ≤ g.r ∧ g.r ≤ 1048576) = true := decide_eq_true h3
  simp only [↓eD0, ↓eD1, eC0, eC1, eC2, eC3, eC4, eC5, eC6, wantedE, ↓reduceIte, Nat.reduceEqDiff, Option.map_some, Option.map_none, reread, List.nil_append, List.cons_append, List.map_cons, List.map_nil, List.length_nil, List.length_cons, Value.cells, List.getElem?_cons_zero, List.getElem?_cons_succ, outE, lks, lkR, rdV, neg1, evs, opt, Nat.reduceAdd, Nat.reduceMul, and_self, reduceCtorEq, List.size_toArray, List.all_cons, List.all_nil, Value.oneCell', List.set_cons_zero, List.set_cons_succ, sets, fillL, Nat.reduceLeDiff, List.drop_succ_cons, List.drop_zero, List.take_succ_cons, List.take_zero, List.toList_toArray, argsE, Array.append_empty, Array.empty_append, List.getElem?_toArray, Int.reduceLT, Int.reduceLE, Int.reduceToNat, Int.reduceEq, Nat.reduceLT, d3, undef_eq]
  refine appK_of iw26_app ?_
  rintro _ _ ⟨e2, rfl⟩
  rw [e2]
  clear e2
  by_cases h4 : 0 ≤ g.s ∧ g.s ≤ 1048576
  case neg =>
    have d4 : decide (0 ≤ g.s ∧ g.s ≤ 1048576) = false := decide_eq_false h4
    simp only [↓eD0, ↓eD1, eC0, eC1, eC2, eC3, eC4, eC5, eC6, wantedE, ↓reduceIte, Nat.reduceEqDiff, Option.map_some, Option.map_none, reread, List.nil_append, List.cons_append, List.map_cons, List.map_nil, List.length_nil, List.length_cons, Value.cells, List.getElem?_cons_zero, List.getElem?_cons_succ, outE, lks, lkR, rdV, neg1, evs, opt, Nat.reduceAdd, Nat.reduceMul, and_self, reduceCtorEq, List.size_toArray, List.all_cons, List.all_nil, Value.oneCell', List.set_cons_zero, List.set_cons_succ, sets, fillL, Nat.reduceLeDiff, List.drop_succ_cons, List.drop_zero, List.take_succ_cons, List.take_zero, List.toList_toArray, argsE, Array.append_empty, Array.empty_append, List.getElem?_toArray, Int.reduceLT, Int.reduceLE, Int.reduceToNat, Int.reduceEq, Nat.reduceLT, d4, undef_eq]
    have : chk g l = 7 := if_neg fun h => h4 h.1.2.2.2
    exact ⟨.ap, by rw [this]; exact ⟨rfl, rfl⟩⟩
  have d4 : decide (0 ≤ g.s ∧ g.s ≤ 1048576) = true := decide_eq_true h4
  simp only [↓eD0, ↓eD1, eC0, eC1, eC2, eC3, eC4, eC5, eC6, wantedE, ↓reduceIte, Nat.reduceEqDiff, Option.map_some, Option.map_none, reread, List.nil_append, List.cons_append, List.map_cons, List.map_nil, List.length_nil, List.length_cons, Value.cells, List.getElem?_cons_zero, List.getElem?_cons_succ, outE, lks, lkR, rdV, neg1, evs, opt, Nat.reduceAdd, Nat.reduceMul, and_self, reduceCtorEq, List.size_toArray, List.all_cons, List.all_nil, Value.oneCell', List.set_cons_zero, List.set_cons_succ, sets, fillL, Nat.reduceLeDiff, List.drop_succ_cons, List.drop_zero, List.take_succ_cons, List.take_zero, List.toList_toArray, argsE, Array.append_empty, Array.empty_append, List.getElem?_toArray, Int.reduceLT, Int.reduceLE, Int.reduceToNat, Int.reduceEq, Nat.reduceLT, d4, undef_eq]
  refine appK_of iw26_app ?_
  rintro _ _ ⟨e2, rfl⟩
  rw [e2]
  clear e2
  by_cases h5 : 1 ≤ l.p ∧ l.p ≤ 1048576
  case neg =>
    have d5 : decide (1 ≤ l.p ∧ l.p ≤ 1048576) = false := decide_eq_false h5
    simp only [↓eD0, ↓eD1, eC0, eC1, eC2, eC3, eC4, eC5, eC6, wantedE, ↓reduceIte, Nat.reduceEqDiff, Option.map_some, Option.map_none, reread, List.nil_append, List.cons_append, List.map_cons, List.map_nil, List.length_nil, List.length_cons, Value.cells, List.getElem?_cons_zero, List.getElem?_cons_succ, outE, lks, lkR, rdV, neg1, evs, opt, Nat.reduceAdd, Nat.reduceMul, and_self, reduceCtorEq, List.size_toArray, List.all_cons, List.all_nil, Value.oneCell', List.set_cons_zero, List.set_cons_succ, sets, fillL, Nat.reduceLeDiff, List.drop_succ_cons, List.drop_zero, List.take_succ_cons, List.take_zero, List.toList_toArray, argsE, Array.append_empty, Array.empty_append, List.getElem?_toArray, Int.reduceLT, Int.reduceLE, Int.reduceToNat, Int.reduceEq, Nat.reduceLT, d5, undef_eq]
    have : chk g l = 7 := if_neg fun h => h5 h.2.1
    exact ⟨.ap, by rw [this]; exact ⟨rfl, rfl⟩⟩
  have d5 : decide (1 ≤ l.p ∧ l.p ≤ 1048576) = true := decide_eq_true h5
  simp only [↓eD0, ↓eD1, eC0, eC1, eC2, eC3, eC4, eC5, eC6, wantedE, ↓reduceIte, Nat.reduceEqDiff, Option.map_some, Option.map_none, reread, List.nil_append, List.cons_append, List.map_cons, List.map_nil, List.length_nil, List.length_cons, Value.cells, List.getElem?_cons_zero, List.getElem?_cons_succ, outE, lks, lkR, rdV, neg1, evs, opt, Nat.reduceAdd, Nat.reduceMul, and_self, reduceCtorEq, List.size_toArray, List.all_cons, List.all_nil, Value.oneCell', List.set_cons_zero, List.set_cons_succ, sets, fillL, Nat.reduceLeDiff, List.drop_succ_cons, List.drop_zero, List.take_succ_cons, List.take_zero, List.toList_toArray, argsE, Array.append_empty, Array.empty_append, List.getElem?_toArray, Int.reduceLT, Int.reduceLE, Int.reduceToNat, Int.reduceEq, Nat.reduceLT, d5, undef_eq]
  refine appK_of iw26_app ?_
  rintro _ _ ⟨e2, rfl⟩
  rw [e2]
  clear e2
  by_cases h6 : 0 ≤ l.d ∧ l.d ≤ 1048576
  case neg =>
    have d6 : decide (0 ≤ l.d ∧ l.d ≤ 1048576) = false := decide_eq_false h6
    simp only [↓eD0, ↓eD1, eC0, eC1, eC2, eC3, eC4, eC5, eC6, wantedE, ↓reduceIte, Nat.reduceEqDiff, Option.map_some, Option.map_none, reread, List.nil_append, List.cons_append, List.map_cons, List.map_nil, List.length_nil, List.length_cons, Value.cells, List.getElem?_cons_zero, List.getElem?_cons_succ, outE, lks, lkR, rdV, neg1, evs, opt, Nat.reduceAdd, Nat.reduceMul, and_self, reduceCtorEq, List.size_toArray, List.all_cons, List.all_nil, Value.oneCell', List.set_cons_zero, List.set_cons_succ, sets, fillL, Nat.reduceLeDiff, List.drop_succ_cons, List.drop_zero, List.take_succ_cons, List.take_zero, List.toList_toArray, argsE, Array.append_empty, Array.empty_append, List.getElem?_toArray, Int.reduceLT, Int.reduceLE, Int.reduceToNat, Int.reduceEq, Nat.reduceLT, d6, undef_eq]
    have : chk g l = 7 := if_neg fun h => h6 h.2.2
    exact ⟨.ap, by rw [this]; exact ⟨rfl, rfl⟩⟩
  have d6 : decide (0 ≤ l.d ∧ l.d ≤ 1048576) = true := decide_eq_true h6
  simp only [↓eD0, ↓eD1, eC0, eC1, eC2, eC3, eC4, eC5, eC6, wantedE, ↓reduceIte, Nat.reduceEqDiff, Option.map_some, Option.map_none, reread, List.nil_append, List.cons_append, List.map_cons, List.map_nil, List.length_nil, List.length_cons, Value.cells, List.getElem?_cons_zero, List.getElem?_cons_succ, outE, lks, lkR, rdV, neg1, evs, opt, Nat.reduceAdd, Nat.reduceMul, and_self, reduceCtorEq, List.size_toArray, List.all_cons, List.all_nil, Value.oneCell', List.set_cons_zero, List.set_cons_succ, sets, fillL, Nat.reduceLeDiff, List.drop_succ_cons, List.drop_zero, List.take_succ_cons, List.take_zero, List.toList_toArray, argsE, Array.append_empty, Array.empty_append, List.getElem?_toArray, Int.reduceLT, Int.reduceLE, Int.reduceToNat, Int.reduceEq, Nat.reduceLT, d6, undef_eq]
  have : chk g l = 0 := if_pos ⟨⟨h1, h2, h3, h4⟩, h5, h6⟩
  exact ⟨.ap, by rw [this]; exact ⟨rfl, rfl⟩⟩

def within (a b : Bd) : Bool := decide (a.d ≤ b.d) && (decide (a.v ≤ b.v) && decide (a.s ≤ b.s))
theorem within17_app {a b : Bd} {σ : H} : App Try.prog (.func 17) #[] #[.agg (bdV a).toArray, .agg (bdV b).toArray] σ fun v σ' => σ' = σ ∧ v = .bool (within a b) := by
  refine App.forget (App.of_sem mixed Try.func17 t17 k17 r17 (Nat.le_of_ble_eq_true rfl) ?_)
  rw [← ap_nil (σ := σ)]
  unfold s17 within
  by_cases h1 : a.d ≤ b.d
  case neg =>
    have d1 : decide (a.d ≤ b.d) = false := decide_eq_false h1
    simp only [↓eD0, ↓eD1, eC0, eC1, eC2, eC3, eC4, eC5, eC6, wantedE, ↓reduceIte, Nat.reduceEqDiff, Option.map_some, Option.map_none, reread, List.nil_append, List.cons_append, List.map_cons, List.map_nil, List.length_nil, List.length_cons, Value.cells, List.getElem?_cons_zero, List.getElem?_cons_succ, outE, lks, lkR, rdV, neg1, evs, opt, Nat.reduceAdd, Nat.reduceMul, and_self, reduceCtorEq, List.size_toArray, List.all_cons, List.all_nil, Value.oneCell', List.set_cons_zero, List.set_cons_succ, sets, fillL, Nat.reduceLeDiff, List.drop_succ_cons, List.drop_zero, List.take_succ_cons, List.take_zero, List.toList_toArray, argsE, Array.append_empty, Array.empty_append, List.getElem?_toArray, Int.reduceLT, Int.reduceLE, Int.reduceToNat, Int.reduceEq, Nat.reduceLT, bdV, d1, undef_eq]
    exact ⟨.ap, by first | exact ⟨rfl, rfl⟩ | rfl⟩
  have d1 : decide (a.d ≤ b.d) = true := decide_eq_true h1
  by_cases h2 : a.v ≤ b.v
  case neg =>
    have d2 : decide (a.v ≤ b.v) = false := decide_eq_false h2
    simp only [↓eD0, ↓eD1, eC0, eC1, eC2, eC3, eC4, eC5, eC6, wantedE, ↓reduceIte, Nat.reduceEqDiff, Option.map_some, Option.map_none, reread, List.nil_append, List.cons_append, List.map_cons, List.map_nil, List.length_nil, List.length_cons, Value.cells, List.getElem?_cons_zero, List.getElem?_cons_succ, outE, lks, lkR, rdV, neg1, evs, opt, Nat.reduceAdd, Nat.reduceMul, and_self, reduceCtorEq, List.size_toArray, List.all_cons, List.all_nil, Value.oneCell', List.set_cons_zero, List.set_cons_succ, sets, fillL, Nat.reduceLeDiff, List.drop_succ_cons, List.drop_zero, List.take_succ_cons, List.take_zero, List.toList_toArray, argsE, Array.append_empty, Array.empty_append, List.getElem?_toArray, Int.reduceLT, Int.reduceLE, Int.reduceToNat, Int.reduceEq, Nat.reduceLT, bdV, d1, d2, undef_eq]
    exact ⟨.ap, by first | exact ⟨rfl, rfl⟩ | rfl⟩
  have d2 : decide (a.v ≤ b.v) = true := decide_eq_true h2
  simp only [↓eD0, ↓eD1, eC0, eC1, eC2, eC3, eC4, eC5, eC6, wantedE, ↓reduceIte, Nat.reduceEqDiff, Option.map_some, Option.map_none, reread, List.nil_append, List.cons_append, List.map_cons, List.map_nil, List.length_nil, List.length_cons, Value.cells, List.getElem?_cons_zero, List.getElem?_cons_succ, outE, lks, lkR, rdV, neg1, evs, opt, Nat.reduceAdd, Nat.reduceMul, and_self, reduceCtorEq, List.size_toArray, List.all_cons, List.all_nil, Value.oneCell', List.set_cons_zero, List.set_cons_succ, sets, fillL, Nat.reduceLeDiff, List.drop_succ_cons, List.drop_zero, List.take_succ_cons, List.take_zero, List.toList_toArray, argsE, Array.append_empty, Array.empty_append, List.getElem?_toArray, Int.reduceLT, Int.reduceLE, Int.reduceToNat, Int.reduceEq, Nat.reduceLT, bdV, d1, d2, undef_eq]
  exact ⟨.ap, by simp [flat]⟩

theorem within18_app {a b : Bd} {σ : H} : App Try.prog (.func 18) #[] #[.agg (bdV a).toArray, .agg (bdV b).toArray] σ fun v σ' => σ' = σ ∧ v = .bool (within a b) := by
  refine App.forget (App.of_sem mixed Try.func18 t18 k18 r18 (Nat.le_of_ble_eq_true rfl) ?_)
  rw [← ap_nil (σ := σ)]
  unfold s18 within
  by_cases h1 : a.d ≤ b.d
  case neg =>
    have d1 : decide (a.d ≤ b.d) = false := decide_eq_false h1
    simp only [↓eD0, ↓eD1, eC0, eC1, eC2, eC3, eC4, eC5, eC6, wantedE, ↓reduceIte, Nat.reduceEqDiff, Option.map_some, Option.map_none, reread, List.nil_append, List.cons_append, List.map_cons, List.map_nil, List.length_nil, List.length_cons, Value.cells, List.getElem?_cons_zero, List.getElem?_cons_succ, outE, lks, lkR, rdV, neg1, evs, opt, Nat.reduceAdd, Nat.reduceMul, and_self, reduceCtorEq, List.size_toArray, List.all_cons, List.all_nil, Value.oneCell', List.set_cons_zero, List.set_cons_succ, sets, fillL, Nat.reduceLeDiff, List.drop_succ_cons, List.drop_zero, List.take_succ_cons, List.take_zero, List.toList_toArray, argsE, Array.append_empty, Array.empty_append, List.getElem?_toArray, Int.reduceLT, Int.reduceLE, Int.reduceToNat, Int.reduceEq, Nat.reduceLT, bdV, d1, undef_eq]
    exact ⟨.ap, by first | exact ⟨rfl, rfl⟩ | rfl⟩
  have d1 : decide (a.d ≤ b.d) = true := decide_eq_true h1
  by_cases h2 : a.v ≤ b.v
  case neg =>
    have d2 : decide (a.v ≤ b.v) = false := decide_eq_false h2
    simp only [↓eD0, ↓eD1, eC0, eC1, eC2, eC3, eC4, eC5, eC6, wantedE, ↓reduceIte, Nat.reduceEqDiff, Option.map_some, Option.map_none, reread, List.nil_append, List.cons_append, List.map_cons, List.map_nil, List.length_nil, List.length_cons, Value.cells, List.getElem?_cons_zero, List.getElem?_cons_succ, outE, lks, lkR, rdV, neg1, evs, opt, Nat.reduceAdd, Nat.reduceMul, and_self, reduceCtorEq, List.size_toArray, List.all_cons, List.all_nil, Value.oneCell', List.set_cons_zero, List.set_cons_succ, sets, fillL, Nat.reduceLeDiff, List.drop_succ_cons, List.drop_zero, List.take_succ_cons, List.take_zero, List.toList_toArray, argsE, Array.append_empty, Array.empty_append, List.getElem?_toArray, Int.reduceLT, Int.reduceLE, Int.reduceToNat, Int.reduceEq, Nat.reduceLT, bdV, d1, d2, undef_eq]
    exact ⟨.ap, by first | exact ⟨rfl, rfl⟩ | rfl⟩
  have d2 : decide (a.v ≤ b.v) = true := decide_eq_true h2
  simp only [↓eD0, ↓eD1, eC0, eC1, eC2, eC3, eC4, eC5, eC6, wantedE, ↓reduceIte, Nat.reduceEqDiff, Option.map_some, Option.map_none, reread, List.nil_append, List.cons_append, List.map_cons, List.map_nil, List.length_nil, List.length_cons, Value.cells, List.getElem?_cons_zero, List.getElem?_cons_succ, outE, lks, lkR, rdV, neg1, evs, opt, Nat.reduceAdd, Nat.reduceMul, and_self, reduceCtorEq, List.size_toArray, List.all_cons, List.all_nil, Value.oneCell', List.set_cons_zero, List.set_cons_succ, sets, fillL, Nat.reduceLeDiff, List.drop_succ_cons, List.drop_zero, List.take_succ_cons, List.take_zero, List.toList_toArray, argsE, Array.append_empty, Array.empty_append, List.getElem?_toArray, Int.reduceLT, Int.reduceLE, Int.reduceToNat, Int.reduceEq, Nat.reduceLT, bdV, d1, d2, undef_eq]
  exact ⟨.ap, by simp [flat]⟩

def timeF (l : Ln) (n : Int) : Int := (n + l.p - 1) / l.p + l.d
theorem wrap64' {n : Int} (h1 : -1000000000000000000 ≤ n) (h2 : n ≤ 1000000000000000000) : IntKind.wrap .i64 n = n := wrap64 (by omega) (by omega)
structure Pos (l : Ln) : Prop where
  p1 : 1 ≤ l.p
  p2 : l.p ≤ 1048576
  d1 : 0 ≤ l.d
  d2 : l.d ≤ 1048576
theorem OkF.pos {g : Ld} {l : Ln} (h : OkF g l) : Pos l := ⟨h.2.1.1, h.2.1.2, h.2.2.1, h.2.2.2⟩
theorem time_le {l : Ln} {n : Int} (h : Pos l) (h0 : 0 ≤ n) (h1 : n ≤ 1000) : 0 ≤ timeF l n ∧ timeF l n ≤ 1050000 ∧ 0 ≤ (n + l.p - 1) / l.p ∧ (n + l.p - 1) / l.p ≤ 1049600 ∧ (n + l.p - 1).tdiv l.p = (n + l.p - 1) / l.p := by
  obtain ⟨a, b, c, d⟩ := h
  have h2 : 0 ≤ (n + l.p - 1) / l.p := Int.ediv_nonneg (by omega) (by omega)
  have h3 : (n + l.p - 1) / l.p ≤ n + 1 := by
    have : (n + l.p - 1) / l.p < n + 2 := Int.ediv_lt_of_lt_mul (by omega) (by
      have : (n + 2) * 1 ≤ (n + 2) * l.p := Int.mul_le_mul_of_nonneg_left a (by omega)
      have h5 : (n + 2) * l.p = n * l.p + 2 * l.p := by rw [Int.add_mul]
      have h6 : n * 1 ≤ n * l.p := Int.mul_le_mul_of_nonneg_left a h0
      omega)
    omega
  unfold timeF
  refine ⟨by omega, by omega, h2, by omega, Int.tdiv_eq_ediv_of_nonneg (by omega)⟩

theorem time32_app {g : Ld} {l : Ln} {n : Int} {σ : H} (h : Pos l) (h0 : 0 ≤ n) (h1 : n ≤ 1000) : App Try.prog (.func 32) #[] #[.agg (mvV g l).toArray, .int .i64 n] σ fun v σ' => σ' = σ ∧ v = .int .i64 (timeF l n) := by
  refine App.forget (App.of_sem mixed Try.func32 t32 k32 r32 (Nat.le_of_ble_eq_true rfl) ?_)
  obtain ⟨q1, q2, q3, q4, q5⟩ := time_le h h0 h1
  obtain ⟨a, b, c, d⟩ := h
  have w1 : IntKind.wrap .i64 (n + l.p) = n + l.p := wrap64' (by omega) (by omega)
  have w2 : IntKind.wrap .i64 (n + l.p - 1) = n + l.p - 1 := wrap64' (by omega) (by omega)
  have w3 : IntKind.wrap .i64 ((n + l.p - 1) / l.p) = (n + l.p - 1) / l.p := wrap64' (by omega) (by omega)
  have w4 : IntKind.wrap .i64 ((n + l.p - 1) / l.p + l.d) = (n + l.p - 1) / l.p + l.d := wrap64' (by unfold timeF at q1 q2; omega) (by unfold timeF at q1 q2; omega)
  have hz : ¬ l.p = 0 := by omega
  rw [← ap_nil (σ := σ)]
  unfold s32
  simp only [↓eD0, ↓eD1, eC0, eC1, eC2, eC3, eC4, eC5, eC6, wantedE, ↓reduceIte, Nat.reduceEqDiff, Option.map_some, Option.map_none, reread, List.nil_append, List.cons_append, List.map_cons, List.map_nil, List.length_nil, List.length_cons, Value.cells, List.getElem?_cons_zero, List.getElem?_cons_succ, outE, lks, lkR, rdV, neg1, evs, opt, Nat.reduceAdd, Nat.reduceMul, and_self, reduceCtorEq, List.size_toArray, List.all_cons, List.all_nil, Value.oneCell', List.set_cons_zero, List.set_cons_succ, sets, fillL, Nat.reduceLeDiff, List.drop_succ_cons, List.drop_zero, List.take_succ_cons, List.take_zero, List.toList_toArray, argsE, Array.append_empty, Array.empty_append, List.getElem?_toArray, Int.reduceLT, Int.reduceLE, Int.reduceToNat, Int.reduceEq, Nat.reduceLT, mvV, w1, w2, hz, q5, w3, w4]
  exact ⟨.ap, by first | exact ⟨rfl, rfl⟩ | rfl⟩
theorem time21_app {l : Ln} {n : Int} {σ : H} (h : Pos l) (h0 : 0 ≤ n) (h1 : n ≤ 1000) : App Try.prog (.func 21) #[] #[.agg (lnV l).toArray, .int .i64 n] σ fun v σ' => σ' = σ ∧ v = .int .i64 (timeF l n) := by
  refine App.forget (App.of_sem mixed Try.func21 t21 k21 r21 (Nat.le_of_ble_eq_true rfl) ?_)
  obtain ⟨q1, q2, q3, q4, q5⟩ := time_le h h0 h1
  obtain ⟨a, b, c, d⟩ := h
  have w1 : IntKind.wrap .i64 (n + l.p) = n + l.p := wrap64' (by omega) (by omega)
  have w2 : IntKind.wrap .i64 (n + l.p - 1) = n + l.p - 1 := wrap64' (by omega) (by omega)
  have w3 : IntKind.wrap .i64 ((n + l.p - 1) / l.p) = (n + l.p - 1) / l.p := wrap64' (by omega) (by omega)
  have w4 : IntKind.wrap .i64 ((n + l.p - 1) / l.p + l.d) = (n + l.p - 1) / l.p + l.d := wrap64' (by unfold timeF at q1 q2; omega) (by unfold timeF at q1 q2; omega)
  have hz : ¬ l.p = 0 := by omega
  rw [← ap_nil (σ := σ)]
  unfold s21
  simp only [↓eD0, ↓eD1, eC0, eC1, eC2, eC3, eC4, eC5, eC6, wantedE, ↓reduceIte, Nat.reduceEqDiff, Option.map_some, Option.map_none, reread, List.nil_append, List.cons_append, List.map_cons, List.map_nil, List.length_nil, List.length_cons, Value.cells, List.getElem?_cons_zero, List.getElem?_cons_succ, outE, lks, lkR, rdV, neg1, evs, opt, Nat.reduceAdd, Nat.reduceMul, and_self, reduceCtorEq, List.size_toArray, List.all_cons, List.all_nil, Value.oneCell', List.set_cons_zero, List.set_cons_succ, sets, fillL, Nat.reduceLeDiff, List.drop_succ_cons, List.drop_zero, List.take_succ_cons, List.take_zero, List.toList_toArray, argsE, Array.append_empty, Array.empty_append, List.getElem?_toArray, Int.reduceLT, Int.reduceLE, Int.reduceToNat, Int.reduceEq, Nat.reduceLT, lnV, w1, w2, hz, q5, w3, w4]
  exact ⟨.ap, by first | exact ⟨rfl, rfl⟩ | rfl⟩

/-! ### Comparisons -/
theorem nan_app {n : Int} {σ : H} : App Try.prog (.func 40) #[] #[.int .i64 n] σ fun v σ' => σ' = σ ∧ v = .bool false := by
  refine App.forget (App.of_sem mixed Try.func40 t40 k40 r40 (Nat.le_of_ble_eq_true rfl) ?_)
  have d1 : decide (n = n) = true := by simp
  rw [← ap_nil (σ := σ)]
  unfold s40
  simp only [↓eD0, ↓eD1, eC0, eC1, eC2, eC3, eC4, eC5, eC6, wantedE, ↓reduceIte, Nat.reduceEqDiff, Option.map_some, Option.map_none, reread, List.nil_append, List.cons_append, List.map_cons, List.map_nil, List.length_nil, List.length_cons, Value.cells, List.getElem?_cons_zero, List.getElem?_cons_succ, outE, lks, lkR, rdV, neg1, evs, opt, Nat.reduceAdd, Nat.reduceMul, and_self, reduceCtorEq, List.size_toArray, List.all_cons, List.all_nil, Value.oneCell', List.set_cons_zero, List.set_cons_succ, sets, fillL, Nat.reduceLeDiff, List.drop_succ_cons, List.drop_zero, List.take_succ_cons, List.take_zero, List.toList_toArray, argsE, Array.append_empty, Array.empty_append, List.getElem?_toArray, Int.reduceLT, Int.reduceLE, Int.reduceToNat, Int.reduceEq, Nat.reduceLT, d1]
  exact ⟨.ap, by first | exact ⟨rfl, rfl⟩ | rfl⟩
def cmp (a b : Int) : Int := if a < b then -1 else if b < a then 1 else 0
theorem cmp_app {a b : Int} {σ : H} : App Try.prog (.func 39) #[] #[.int .i64 a, .int .i64 b] σ fun v σ' => σ' = σ ∧ v = .int .i64 (cmp a b) := by
  refine App.forget (App.of_sem mixed Try.func39 t39 k39 r39 (Nat.le_of_ble_eq_true rfl) ?_)
  rw [← ap_nil (σ := σ)]
  unfold s39
  simp only [↓eD0, ↓eD1, eC0, eC1, eC2, eC3, eC4, eC5, eC6, wantedE, ↓reduceIte, Nat.reduceEqDiff, Option.map_some, Option.map_none, reread, List.nil_append, List.cons_append, List.map_cons, List.map_nil, List.length_nil, List.length_cons, Value.cells, List.getElem?_cons_zero, List.getElem?_cons_succ, outE, lks, lkR, rdV, neg1, evs, opt, Nat.reduceAdd, Nat.reduceMul, and_self, reduceCtorEq, List.size_toArray, List.all_cons, List.all_nil, Value.oneCell', List.set_cons_zero, List.set_cons_succ, sets, fillL, Nat.reduceLeDiff, List.drop_succ_cons, List.drop_zero, List.take_succ_cons, List.take_zero, List.toList_toArray, argsE, Array.append_empty, Array.empty_append, List.getElem?_toArray, Int.reduceLT, Int.reduceLE, Int.reduceToNat, Int.reduceEq, Nat.reduceLT]
  refine appK_of nan_app ?_
  rintro _ _ ⟨e2, rfl⟩
  rw [e2]
  clear e2
  simp only [↓eD0, ↓eD1, eC0, eC1, eC2, eC3, eC4, eC5, eC6, wantedE, ↓reduceIte, Nat.reduceEqDiff, Option.map_some, Option.map_none, reread, List.nil_append, List.cons_append, List.map_cons, List.map_nil, List.length_nil, List.length_cons, Value.cells, List.getElem?_cons_zero, List.getElem?_cons_succ, outE, lks, lkR, rdV, neg1, evs, opt, Nat.reduceAdd, Nat.reduceMul, and_self, reduceCtorEq, List.size_toArray, List.all_cons, List.all_nil, Value.oneCell', List.set_cons_zero, List.set_cons_succ, sets, fillL, Nat.reduceLeDiff, List.drop_succ_cons, List.drop_zero, List.take_succ_cons, List.take_zero, List.toList_toArray, argsE, Array.append_empty, Array.empty_append, List.getElem?_toArray, Int.reduceLT, Int.reduceLE, Int.reduceToNat, Int.reduceEq, Nat.reduceLT]
  refine appK_of nan_app ?_
  rintro _ _ ⟨e2, rfl⟩
  rw [e2]
  clear e2
  unfold cmp
  by_cases h1 : a < b
  · have d1 : decide (a < b) = true := by simpa using h1
    simp only [↓eD0, ↓eD1, eC0, eC1, eC2, eC3, eC4, eC5, eC6, wantedE, ↓reduceIte, Nat.reduceEqDiff, Option.map_some, Option.map_none, reread, List.nil_append, List.cons_append, List.map_cons, List.map_nil, List.length_nil, List.length_cons, Value.cells, List.getElem?_cons_zero, List.getElem?_cons_succ, outE, lks, lkR, rdV, neg1, evs, opt, Nat.reduceAdd, Nat.reduceMul, and_self, reduceCtorEq, List.size_toArray, List.all_cons, List.all_nil, Value.oneCell', List.set_cons_zero, List.set_cons_succ, sets, fillL, Nat.reduceLeDiff, List.drop_succ_cons, List.drop_zero, List.take_succ_cons, List.take_zero, List.toList_toArray, argsE, Array.append_empty, Array.empty_append, List.getElem?_toArray, Int.reduceLT, Int.reduceLE, Int.reduceToNat, Int.reduceEq, Nat.reduceLT, d1]
    exact ⟨.ap, by rw [if_pos h1]; exact ⟨rfl, rfl⟩⟩
  · have d1 : decide (a < b) = false := by simpa using h1
    by_cases h2 : b < a
    · have d2 : decide (b < a) = true := by simpa using h2
      simp only [↓eD0, ↓eD1, eC0, eC1, eC2, eC3, eC4, eC5, eC6, wantedE, ↓reduceIte, Nat.reduceEqDiff, Option.map_some, Option.map_none, reread, List.nil_append, List.cons_append, List.map_cons, List.map_nil, List.length_nil, List.length_cons, Value.cells, List.getElem?_cons_zero, List.getElem?_cons_succ, outE, lks, lkR, rdV, neg1, evs, opt, Nat.reduceAdd, Nat.reduceMul, and_self, reduceCtorEq, List.size_toArray, List.all_cons, List.all_nil, Value.oneCell', List.set_cons_zero, List.set_cons_succ, sets, fillL, Nat.reduceLeDiff, List.drop_succ_cons, List.drop_zero, List.take_succ_cons, List.take_zero, List.toList_toArray, argsE, Array.append_empty, Array.empty_append, List.getElem?_toArray, Int.reduceLT, Int.reduceLE, Int.reduceToNat, Int.reduceEq, Nat.reduceLT, d1, d2]
      exact ⟨.ap, by rw [if_neg h1, if_pos h2]; exact ⟨rfl, rfl⟩⟩
    · have d2 : decide (b < a) = false := by simpa using h2
      simp only [↓eD0, ↓eD1, eC0, eC1, eC2, eC3, eC4, eC5, eC6, wantedE, ↓reduceIte, Nat.reduceEqDiff, Option.map_some, Option.map_none, reread, List.nil_append, List.cons_append, List.map_cons, List.map_nil, List.length_nil, List.length_cons, Value.cells, List.getElem?_cons_zero, List.getElem?_cons_succ, outE, lks, lkR, rdV, neg1, evs, opt, Nat.reduceAdd, Nat.reduceMul, and_self, reduceCtorEq, List.size_toArray, List.all_cons, List.all_nil, Value.oneCell', List.set_cons_zero, List.set_cons_succ, sets, fillL, Nat.reduceLeDiff, List.drop_succ_cons, List.drop_zero, List.take_succ_cons, List.take_zero, List.toList_toArray, argsE, Array.append_empty, Array.empty_append, List.getElem?_toArray, Int.reduceLT, Int.reduceLE, Int.reduceToNat, Int.reduceEq, Nat.reduceLT, d1, d2]
      exact ⟨.ap, by rw [if_neg h1, if_neg h2]; exact ⟨rfl, rfl⟩⟩
end Go.Proofs.Ytianomelnpiffaa

set_option linter.unusedSimpArgs false
set_option linter.unusedVariables false
set_option maxRecDepth 10000
set_option maxHeartbeats 1000000
namespace Go.Proofs.Ytianomelnpiffaa
open Go Go.Cn Go.RowKit
attribute [local irreducible] evL sem onG onI onV

def intV (n : Int) : List Value := [.int .i64 n]
theorem intV_rows {L : List Int} : ∀ r ∈ L.map intV, r.length = 1 := by intro r hr; obtain ⟨c, _, rfl⟩ := List.mem_map.1 hr; rfl
def dirtyF (g : Ld) (l : Ln) : Nat → Int
  | 0 => g.p
  | i + 1 => mn g.h (g.r * timeF l (dirtyF g l i))
def dirtyL (g : Ld) (l : Ln) (k : Nat) : List Int := (List.range (k + 1)).map (dirtyF g l)
theorem dirtyL_len {g : Ld} {l : Ln} {k : Nat} : (dirtyL g l k).length = k + 1 := by simp [dirtyL]
theorem dirtyL_get {g : Ld} {l : Ln} {k i : Nat} (h : i < k + 1) : (dirtyL g l k)[i]? = some (dirtyF g l i) := by simp [dirtyL, h]
theorem dirtyL_succ {g : Ld} {l : Ln} {k : Nat} : dirtyL g l (k + 1) = dirtyL g l k ++ [dirtyF g l (k + 1)] := by
  unfold dirtyL
  rw [List.range_succ, List.map_append]; rfl
theorem mul_le' {r t : Int} (h0 : 0 ≤ r) (h1 : r ≤ 1048576) (h2 : 0 ≤ t) (h3 : t ≤ 1050000) : 0 ≤ r * t ∧ r * t ≤ 1101004800000 := by
  refine ⟨Int.mul_nonneg h0 h2, ?_⟩
  have : r * t ≤ 1048576 * 1050000 := Int.le_trans (Int.mul_le_mul_of_nonneg_right h1 h2) (Int.mul_le_mul_of_nonneg_left h3 (by omega))
  omega
theorem dirty_le {g : Ld} {l : Ln} (h : OkF g l) : ∀ i, 0 ≤ dirtyF g l i ∧ dirtyF g l i ≤ 64
  | 0 => by have := h.1.1; unfold dirtyF; omega
  | i + 1 => by
    have ih := dirty_le h i
    have ht := time_le h.pos ih.1 (by omega)
    have hm := mul_le' (r := g.r) h.1.2.2.1.1 h.1.2.2.1.2 ht.1 ht.2.1
    have hmn := mn_le g.h (g.r * timeF l (dirtyF g l i))
    have := h.1.1
    have := h.1.2.1
    show 0 ≤ mn _ _ ∧ mn _ _ ≤ 64
    omega
def sumI : List Int → Int
  | [] => 0
  | x :: r => x + sumI r
theorem sumI_app {a b : List Int} : sumI (a ++ b) = sumI a + sumI b := by
  induction a with
  | nil => simp [sumI]
  | cons x a ih => simp only [List.cons_append, sumI, ih]; omega
theorem sumI_take {L : List Int} {i : Nat} (h : i < L.length) : sumI (L.take (i + 1)) = sumI (L.take i) + L[i] := by
  rw [List.take_succ_eq_append_getElem h, sumI_app]; simp [sumI]
theorem sumI_le : ∀ {L : List Int} {m : Int}, (∀ x ∈ L, 0 ≤ x ∧ x ≤ m) → 0 ≤ sumI L ∧ sumI L ≤ L.length * m
  | [], m, _ => by simp [sumI]
  | x :: r, m, h => by
    have h1 := h x (by simp)
    have h2 := sumI_le (L := r) (m := m) fun y hy => h y (by simp [hy])
    simp only [sumI, List.length_cons, Int.natCast_add, Int.add_mul]
    omega
theorem sumI_small {L : List Int} {i : Nat} (h : ∀ x ∈ L, 0 ≤ x ∧ x ≤ 64) (hn : L.length ≤ 1000) : 0 ≤ sumI (L.take i) ∧ sumI (L.take i) ≤ 64000 := by
  have := sumI_le (L := L.take i) (m := 64) fun x hx => h x (List.mem_of_mem_take hx)
  have h2 : (L.take i).length ≤ 1000 := by simp; omega
  omega
theorem sum35_app {σ : H} {L : List Int} {lv : Value} (hr : Row σ 1 lv (L.map intV)) (h : ∀ x ∈ L, 0 ≤ x ∧ x ≤ 64) (hn : L.length ≤ 1000) :
    App Try.prog (.func 35) #[] #[lv] σ fun v σ' => σ' = σ ∧ v = .int .i64 (sumI L) := by
  refine App.forget (App.of_sem mixed Try.func35 t35 k35 r35 (Nat.le_of_ble_eq_true rfl) ?_)
  obtain ⟨base, cp, rfl⟩ := hr.slice
  simp only [List.length_map] at hr ⊢
  rw [← ap_nil (σ := σ)]
  unfold s35
  simp only [↓eD0, ↓eD1, eC0, eC1, eC2, eC3, eC4, eC5, eC6, wantedE, ↓reduceIte, Nat.reduceEqDiff, Option.map_some, Option.map_none, reread, List.nil_append, List.cons_append, List.map_cons, List.map_nil, List.length_nil, List.length_cons, Value.cells, List.getElem?_cons_zero, List.getElem?_cons_succ, outE, lks, lkR, rdV, neg1, evs, opt, Nat.reduceAdd, Nat.reduceMul, and_self, reduceCtorEq, List.size_toArray, List.all_cons, List.all_nil, Value.oneCell', List.set_cons_zero, List.set_cons_succ, sets, fillL, Nat.reduceLeDiff, List.drop_succ_cons, List.drop_zero, List.take_succ_cons, List.take_zero, List.toList_toArray, argsE, Array.append_empty, Array.empty_append, List.getElem?_toArray, Int.reduceLT, Int.reduceLE, Int.reduceToNat, Int.reduceEq, Nat.reduceLT]
  refine loop_for (J := fun i e τ => i ≤ L.length ∧ Old σ τ ∧ e = [(3, .int .i64 (sumI (L.take i))), (6, .slice base L.length cp), (7, .int .i64 L.length), (8, .int .i64 i)]) L.length ⟨by omega, .ap, rfl⟩ ?_
  rintro i e τ hi ⟨_, ho, rfl⟩
  rw [← ap_nil (σ := τ)]
  by_cases hlt : i < L.length
  · have dl : decide ((i:Int) < (L.length : Int)) = true := by simpa using hlt
    obtain ⟨b, off, rfl, h1⟩ := hr.at (i := i) (x := intV L[i]) (by simp [hlt])
    have g3 : ∀ l, rd1 (ap τ l) ⟨b, off + i, none⟩ = some (.int .i64 L[i]) := fun l => rd1_Old (ho.trans .ap) (by simpa using rd1_row h1 (j := 0) rfl)
    have hb : (0:Int) ≤ (i:Int) ∧ (i:Int) < (L.length : Int) := by omega
    have hw : IntKind.wrap .i64 ((i:Int) + 1) = ((i + 1 : Nat) : Int) := by rw [wrap64' (by omega) (by omega)]; omega
    have hs1 := sumI_small (i := i) h hn
    have hx := h L[i] (by simp)
    have ws : IntKind.wrap .i64 (sumI (L.take i) + L[i]) = sumI (L.take (i + 1)) := by rw [wrap64' (by omega) (by omega), sumI_take hlt]
    simp only [↓eD0, ↓eD1, eC0, eC1, eC2, eC3, eC4, eC5, eC6, wantedE, ↓reduceIte, Nat.reduceEqDiff, Option.map_some, Option.map_none, reread, List.nil_append, List.cons_append, List.map_cons, List.map_nil, List.length_nil, List.length_cons, Value.cells, List.getElem?_cons_zero, List.getElem?_cons_succ, outE, lks, lkR, rdV, neg1, evs, opt, Nat.reduceAdd, Nat.reduceMul, and_self, reduceCtorEq, List.size_toArray, List.all_cons, List.all_nil, Value.oneCell', List.set_cons_zero, List.set_cons_succ, sets, fillL, Nat.reduceLeDiff, List.drop_succ_cons, List.drop_zero, List.take_succ_cons, List.take_zero, List.toList_toArray, argsE, Array.append_empty, Array.empty_append, List.getElem?_toArray, Int.reduceLT, Int.reduceLE, Int.reduceToNat, Int.reduceEq, Nat.reduceLT, dl, hb, Int.toNat_natCast, g3, ws, hw]
    exact ⟨hlt, by omega, ho.trans .ap⟩
  · have : i = L.length := by omega
    subst this
    have dl : decide ((L.length:Int) < (L.length : Int)) = false := by simp
    simp only [↓eD0, ↓eD1, eC0, eC1, eC2, eC3, eC4, eC5, eC6, wantedE, ↓reduceIte, Nat.reduceEqDiff, Option.map_some, Option.map_none, reread, List.nil_append, List.cons_append, List.map_cons, List.map_nil, List.length_nil, List.length_cons, Value.cells, List.getElem?_cons_zero, List.getElem?_cons_succ, outE, lks, lkR, rdV, neg1, evs, opt, Nat.reduceAdd, Nat.reduceMul, and_self, reduceCtorEq, List.size_toArray, List.all_cons, List.all_nil, Value.oneCell', List.set_cons_zero, List.set_cons_succ, sets, fillL, Nat.reduceLeDiff, List.drop_succ_cons, List.drop_zero, List.take_succ_cons, List.take_zero, List.toList_toArray, argsE, Array.append_empty, Array.empty_append, List.getElem?_toArray, Int.reduceLT, Int.reduceLE, Int.reduceToNat, Int.reduceEq, Nat.reduceLT, dl, List.take_length]
    exact ⟨ho.trans .ap, by first | exact ⟨rfl, rfl⟩ | rfl⟩

theorem sum28_app {σ : H} {L : List Int} {lv : Value} (hr : Row σ 1 lv (L.map intV)) (h : ∀ x ∈ L, 0 ≤ x ∧ x ≤ 64) (hn : L.length ≤ 1000) :
    App Try.prog (.func 28) #[] #[lv] σ fun v σ' => σ' = σ ∧ v = .int .i64 (sumI L) := by
  refine App.forget (App.of_sem mixed Try.func28 t28 k28 r28 (Nat.le_of_ble_eq_true rfl) ?_)
  obtain ⟨base, cp, rfl⟩ := hr.slice
  simp only [List.length_map] at hr ⊢
  rw [← ap_nil (σ := σ)]
  unfold s28
  simp only [↓eD0, ↓eD1, eC0, eC1, eC2, eC3, eC4, eC5, eC6, wantedE, ↓reduceIte, Nat.reduceEqDiff, Option.map_some, Option.map_none, reread, List.nil_append, List.cons_append, List.map_cons, List.map_nil, List.length_nil, List.length_cons, Value.cells, List.getElem?_cons_zero, List.getElem?_cons_succ, outE, lks, lkR, rdV, neg1, evs, opt, Nat.reduceAdd, Nat.reduceMul, and_self, reduceCtorEq, List.size_toArray, List.all_cons, List.all_nil, Value.oneCell', List.set_cons_zero, List.set_cons_succ, sets, fillL, Nat.reduceLeDiff, List.drop_succ_cons, List.drop_zero, List.take_succ_cons, List.take_zero, List.toList_toArray, argsE, Array.append_empty, Array.empty_append, List.getElem?_toArray, Int.reduceLT, Int.reduceLE, Int.reduceToNat, Int.reduceEq, Nat.reduceLT]
  refine loop_for (J := fun i e τ => i ≤ L.length ∧ Old σ τ ∧ e = [(0, .slice base L.length cp), (3, .int .i64 (sumI (L.take i))), (4, .int .i64 i)]) L.length ⟨by omega, .ap, rfl⟩ ?_
  rintro i e τ hi ⟨_, ho, rfl⟩
  rw [← ap_nil (σ := τ)]
  by_cases hlt : i < L.length
  · have dl : decide ((i:Int) < (L.length : Int)) = true := by simpa using hlt
    obtain ⟨b, off, rfl, h1⟩ := hr.at (i := i) (x := intV L[i]) (by simp [hlt])
    have g3 : ∀ l, rd1 (ap τ l) ⟨b, off + i, none⟩ = some (.int .i64 L[i]) := fun l => rd1_Old (ho.trans .ap) (by simpa using rd1_row h1 (j := 0) rfl)
    have hb : (0:Int) ≤ (i:Int) ∧ (i:Int) < (L.length : Int) := by omega
    have hw : IntKind.wrap .i64 ((i:Int) + 1) = ((i + 1 : Nat) : Int) := by rw [wrap64' (by omega) (by omega)]; omega
    have hs1 := sumI_small (i := i) h hn
    have hx := h L[i] (by simp)
    have ws : IntKind.wrap .i64 (sumI (L.take i) + L[i]) = sumI (L.take (i + 1)) := by rw [wrap64' (by omega) (by omega), sumI_take hlt]
    simp only [↓eD0, ↓eD1, eC0, eC1, eC2, eC3, eC4, eC5, eC6, wantedE, ↓reduceIte, Nat.reduceEqDiff, Option.map_some, Option.map_none, reread, List.nil_append, List.cons_append, List.map_cons, List.map_nil, List.length_nil, List.length_cons, Value.cells, List.getElem?_cons_zero, List.getElem?_cons_succ, outE, lks, lkR, rdV, neg1, evs, opt, Nat.reduceAdd, Nat.reduceMul, and_self, reduceCtorEq, List.size_toArray, List.all_cons, List.all_nil, Value.oneCell', List.set_cons_zero, List.set_cons_succ, sets, fillL, Nat.reduceLeDiff, List.drop_succ_cons, List.drop_zero, List.take_succ_cons, List.take_zero, List.toList_toArray, argsE, Array.append_empty, Array.empty_append, List.getElem?_toArray, Int.reduceLT, Int.reduceLE, Int.reduceToNat, Int.reduceEq, Nat.reduceLT, dl, hb, Int.toNat_natCast, g3, ws, hw]
    exact ⟨hlt, by omega, ho.trans .ap⟩
  · have : i = L.length := by omega
    subst this
    have dl : decide ((L.length:Int) < (L.length : Int)) = false := by simp
    simp only [↓eD0, ↓eD1, eC0, eC1, eC2, eC3, eC4, eC5, eC6, wantedE, ↓reduceIte, Nat.reduceEqDiff, Option.map_some, Option.map_none, reread, List.nil_append, List.cons_append, List.map_cons, List.map_nil, List.length_nil, List.length_cons, Value.cells, List.getElem?_cons_zero, List.getElem?_cons_succ, outE, lks, lkR, rdV, neg1, evs, opt, Nat.reduceAdd, Nat.reduceMul, and_self, reduceCtorEq, List.size_toArray, List.all_cons, List.all_nil, Value.oneCell', List.set_cons_zero, List.set_cons_succ, sets, fillL, Nat.reduceLeDiff, List.drop_succ_cons, List.drop_zero, List.take_succ_cons, List.take_zero, List.toList_toArray, argsE, Array.append_empty, Array.empty_append, List.getElem?_toArray, Int.reduceLT, Int.reduceLE, Int.reduceToNat, Int.reduceEq, Nat.reduceLT, dl, List.take_length]
    exact ⟨ho.trans .ap, by first | exact ⟨rfl, rfl⟩ | rfl⟩

theorem written_app {g : Ld} {t : Int} {σ : H} (h0 : 0 ≤ g.r) (h1 : g.r ≤ 1048576) (h2 : 0 ≤ t) (h3 : t ≤ 1050000) : App Try.prog (.func 27) #[] #[.agg (ldV g).toArray, .int .i64 t] σ fun v σ' => σ' = σ ∧ v = .int .i64 (mn g.h (g.r * t)) := by
  refine App.forget (App.of_sem mixed Try.func27 t27 k27 r27 (Nat.le_of_ble_eq_true rfl) ?_)
  have hm := mul_le' h0 h1 h2 h3
  have w1 : IntKind.wrap .i64 (g.r * t) = g.r * t := wrap64' (by omega) (by omega)
  rw [← ap_nil (σ := σ)]
  unfold s27
  simp only [↓eD0, ↓eD1, eC0, eC1, eC2, eC3, eC4, eC5, eC6, wantedE, ↓reduceIte, Nat.reduceEqDiff, Option.map_some, Option.map_none, reread, List.nil_append, List.cons_append, List.map_cons, List.map_nil, List.length_nil, List.length_cons, Value.cells, List.getElem?_cons_zero, List.getElem?_cons_succ, outE, lks, lkR, rdV, neg1, evs, opt, Nat.reduceAdd, Nat.reduceMul, and_self, reduceCtorEq, List.size_toArray, List.all_cons, List.all_nil, Value.oneCell', List.set_cons_zero, List.set_cons_succ, sets, fillL, Nat.reduceLeDiff, List.drop_succ_cons, List.drop_zero, List.take_succ_cons, List.take_zero, List.toList_toArray, argsE, Array.append_empty, Array.empty_append, List.getElem?_toArray, Int.reduceLT, Int.reduceLE, Int.reduceToNat, Int.reduceEq, Nat.reduceLT, ldV, w1, mn_eq]
  exact ⟨.ap, by first | exact ⟨rfl, rfl⟩ | rfl⟩

theorem dirty23_app {g : Ld} {l : Ln} {k : Nat} {σ : H} (h : OkF g l) (hk : k ≤ 1000) : App Try.prog (.func 23) #[] #[.agg (mvV g l).toArray, .int .i64 k] σ fun v σ' => Old σ σ' ∧ Row σ' 1 v ((dirtyL g l k).map intV) := by
  refine App.of_sem mixed Try.func23 t23 k23 r23 (Nat.le_of_ble_eq_true rfl) ?_
  rw [← ap_nil (σ := σ)]
  unfold s23
  simp only [↓eD0, ↓eD1, eC0, eC1, eC2, eC3, eC4, eC5, eC6, wantedE, ↓reduceIte, Nat.reduceEqDiff, Option.map_some, Option.map_none, reread, List.nil_append, List.cons_append, List.map_cons, List.map_nil, List.length_nil, List.length_cons, Value.cells, List.getElem?_cons_zero, List.getElem?_cons_succ, outE, lks, lkR, rdV, neg1, evs, opt, Nat.reduceAdd, Nat.reduceMul, and_self, reduceCtorEq, List.size_toArray, List.all_cons, List.all_nil, Value.oneCell', List.set_cons_zero, List.set_cons_succ, sets, fillL, Nat.reduceLeDiff, List.drop_succ_cons, List.drop_zero, List.take_succ_cons, List.take_zero, List.toList_toArray, argsE, Array.append_empty, Array.empty_append, List.getElem?_toArray, Int.reduceLT, Int.reduceLE, Int.reduceToNat, Int.reduceEq, Nat.reduceLT, mvV]
  refine loop_for (J := fun i e τ => i ≤ k ∧ ∃ v, e = [(2, .pointer (some ⟨σ.size, 0, none⟩)), (5, v), (11, .int .i64 k), (12, .int .i64 i)] ∧ Old σ τ ∧ σ.size + 1 ≤ τ.size ∧ τ[σ.size]? = some (.cells 0 (mvV g l) (0, 0)) ∧ Grown (sized (σ.size + 1)) τ 1 v ((dirtyL g l i).map intV).flatten (dirtyL g l i).length) k
    ⟨by omega, _, rfl, .ap, by rw [ap_size]; simp, ap_new0, Grown.lit (n := 1) rfl (by decide) (by rw [sized_size]; exact Nat.le_refl _) ap_new⟩ ?_
  rintro i e τ hi ⟨_, v, rfl, ho, hsz, q0, hg⟩
  have hs : (sized (σ.size + 1)).size = σ.size + 1 := sized_size
  rw [← ap_nil (σ := τ)]
  by_cases hlt : i < k
  · have dl : decide ((i:Int) < (k : Int)) = true := by simpa using hlt
    have z0 := (Array.getElem?_eq_some_iff.1 q0).1
    have f0 : ∀ L, rdN (ap τ L) ⟨σ.size, 0, none⟩ 6 = some (mvV g l) := fun L => rdN_all ((ap_old z0).trans q0) rfl
    have f1 : ∀ L, rd1 (ap τ L) ⟨σ.size, 1, none⟩ = some (.int .i64 g.h) := fun L => by rw [rd1_eq, ap_old z0, q0]; rfl
    have f2 : ∀ L, rd1 (ap τ L) ⟨σ.size, 2, none⟩ = some (.int .i64 g.r) := fun L => by rw [rd1_eq, ap_old z0, q0]; rfl
    have hrow := Grown.Row (rows := (dirtyL g l i).map intV) (by simpa using hg) intV_rows
    obtain ⟨vb, vc, rfl⟩ := hg.slice
    rw [dirtyL_len] at hg hrow
    obtain ⟨b, off, hbe, h1⟩ := hrow.at (i := i) (x := intV (dirtyF g l i)) (by simp [dirtyL_get])
    subst hbe
    have g3 : ∀ l', rd1 (ap τ l') ⟨b, off + i, none⟩ = some (.int .i64 (dirtyF g l i)) := fun l' => rd1_old (by simpa using rd1_row h1 (j := 0) rfl)
    have hb : (0:Int) ≤ (i:Int) ∧ (i:Int) < ((i + 1 : Nat) : Int) := by omega
    have hw : IntKind.wrap .i64 ((i:Int) + 1) = ((i + 1 : Nat) : Int) := by rw [wrap64' (by omega) (by omega)]; omega
    have hd := dirty_le h i
    have ht := time_le h.pos hd.1 (by omega)
    have hm := mul_le' (r := g.r) h.1.2.2.1.1 h.1.2.2.1.2 ht.1 ht.2.1
    have wm : IntKind.wrap .i64 (g.r * timeF l (dirtyF g l i)) = g.r * timeF l (dirtyF g l i) := wrap64' (by omega) (by omega)
    obtain ⟨v', τ', ha1, hA⟩ := append_grown (σ := ap τ [.cells 0 (intV (dirtyF g l (i + 1))) (0, 0)]) (xa := .slice (some ⟨τ.size, 0, none⟩) 1 1) (bytes := 8) (m := 1) (new := intV (dirtyF g l (i + 1))) (hg.old .ap) (by omega) (by rw [hs, ap_size]; omega) (by
      show (rdN (ap τ _) ⟨τ.size, 0, none⟩ 1).map (1, ·) = _
      rw [rdN_ap0]; rfl) rfl rfl (by omega) (by omega)
    rw [dirtyL_len]
    simp only [↓eD0, ↓eD1, eC0, eC1, eC2, eC3, eC4, eC5, eC6, wantedE, ↓reduceIte, Nat.reduceEqDiff, Option.map_some, Option.map_none, reread, List.nil_append, List.cons_append, List.map_cons, List.map_nil, List.length_nil, List.length_cons, Value.cells, List.getElem?_cons_zero, List.getElem?_cons_succ, outE, lks, lkR, rdV, neg1, evs, opt, Nat.reduceAdd, Nat.reduceMul, and_self, reduceCtorEq, List.size_toArray, List.all_cons, List.all_nil, Value.oneCell', List.set_cons_zero, List.set_cons_succ, sets, fillL, Nat.reduceLeDiff, List.drop_succ_cons, List.drop_zero, List.take_succ_cons, List.take_zero, List.toList_toArray, argsE, Array.append_empty, Array.empty_append, List.getElem?_toArray, Int.reduceLT, Int.reduceLE, Int.reduceToNat, Int.reduceEq, Nat.reduceLT, dl, hb, Int.toNat_natCast, g3, f0, f1, f2, mvV]
    refine appK_of (time32_app (g := g) h.pos hd.1 (by omega)) ?_
    rintro _ _ ⟨e2, rfl⟩
    rw [e2]
    clear e2
    simp only [↓eD0, ↓eD1, eC0, eC1, eC2, eC3, eC4, eC5, eC6, wantedE, ↓reduceIte, Nat.reduceEqDiff, Option.map_some, Option.map_none, reread, List.nil_append, List.cons_append, List.map_cons, List.map_nil, List.length_nil, List.length_cons, Value.cells, List.getElem?_cons_zero, List.getElem?_cons_succ, outE, lks, lkR, rdV, neg1, evs, opt, Nat.reduceAdd, Nat.reduceMul, and_self, reduceCtorEq, List.size_toArray, List.all_cons, List.all_nil, Value.oneCell', List.set_cons_zero, List.set_cons_succ, sets, fillL, Nat.reduceLeDiff, List.drop_succ_cons, List.drop_zero, List.take_succ_cons, List.take_zero, List.toList_toArray, argsE, Array.append_empty, Array.empty_append, List.getElem?_toArray, Int.reduceLT, Int.reduceLE, Int.reduceToNat, Int.reduceEq, Nat.reduceLT, f1, f2, wm, mn_eq]
    refine onV_of ha1 ?_
    simp only [↓eD0, ↓eD1, eC0, eC1, eC2, eC3, eC4, eC5, eC6, wantedE, ↓reduceIte, Nat.reduceEqDiff, Option.map_some, Option.map_none, reread, List.nil_append, List.cons_append, List.map_cons, List.map_nil, List.length_nil, List.length_cons, Value.cells, List.getElem?_cons_zero, List.getElem?_cons_succ, outE, lks, lkR, rdV, neg1, evs, opt, Nat.reduceAdd, Nat.reduceMul, and_self, reduceCtorEq, List.size_toArray, List.all_cons, List.all_nil, Value.oneCell', List.set_cons_zero, List.set_cons_succ, sets, fillL, Nat.reduceLeDiff, List.drop_succ_cons, List.drop_zero, List.take_succ_cons, List.take_zero, List.toList_toArray, argsE, Array.append_empty, Array.empty_append, List.getElem?_toArray, Int.reduceLT, Int.reduceLE, Int.reduceToNat, Int.reduceEq, Nat.reduceLT, hw]
    refine ⟨hlt, by omega, v', rfl, hA.Old' (hg.old .ap) (by rw [hs]; omega) (ho.trans .ap), ?_, ?_, ?_⟩
    · have := hA.size; rw [ap_size] at this; omega
    · exact hA.low (hg.old .ap) (by rw [hs]; omega) ((ap_old z0).trans q0)
    · rw [dirtyL_succ]
      simpa [dirtyL_len] using hA.grown
  · have : i = k := by omega
    subst this
    have dl : decide ((i:Int) < (i : Int)) = false := by simp
    simp only [↓eD0, ↓eD1, eC0, eC1, eC2, eC3, eC4, eC5, eC6, wantedE, ↓reduceIte, Nat.reduceEqDiff, Option.map_some, Option.map_none, reread, List.nil_append, List.cons_append, List.map_cons, List.map_nil, List.length_nil, List.length_cons, Value.cells, List.getElem?_cons_zero, List.getElem?_cons_succ, outE, lks, lkR, rdV, neg1, evs, opt, Nat.reduceAdd, Nat.reduceMul, and_self, reduceCtorEq, List.size_toArray, List.all_cons, List.all_nil, Value.oneCell', List.set_cons_zero, List.set_cons_succ, sets, fillL, Nat.reduceLeDiff, List.drop_succ_cons, List.drop_zero, List.take_succ_cons, List.take_zero, List.toList_toArray, argsE, Array.append_empty, Array.empty_append, List.getElem?_toArray, Int.reduceLT, Int.reduceLE, Int.reduceToNat, Int.reduceEq, Nat.reduceLT, dl]
    exact ⟨ho.trans .ap, Grown.Row (by simpa using hg.old (Old.ap (l := []))) intV_rows⟩
end Go.Proofs.Ytianomelnpiffaa

set_option linter.unusedSimpArgs false
set_option linter.unusedVariables false
set_option maxRecDepth 10000
set_option maxHeartbeats 1000000
namespace Go.Proofs.Ytianomelnpiffaa
open Go Go.Cn Go.RowKit
attribute [local irreducible] evL sem onG onI onV

theorem row_nil {σ : H} {s : Nat} : Row σ s (.slice none 0 0) [] := ⟨none, 0, rfl, fun i x h => by simp at h⟩
def dirtyR (g : Ld) (l : Ln) (k : Int) : List Int × Int := if OkF g l then (if 1 ≤ k ∧ k ≤ 16 then (dirtyL g l k.toNat, 0) else ([], 1)) else ([], 7)

theorem dirty9_app {g : Ld} {l : Ln} {k : Int} {σ : H} : App Try.prog (.func 9) #[] #[.agg (ldV g).toArray, .agg (lnV l).toArray, .int .i64 k] σ fun v σ' => Old σ σ' ∧ ∃ x, v = .tuple #[x, .int .i64 (dirtyR g l k).2] ∧ Row σ' 1 x ((dirtyR g l k).1.map intV) := by
  refine App.of_sem mixed Try.func9 t9 k9 r9 (Nat.le_of_ble_eq_true rfl) ?_
  rw [← ap_nil (σ := σ)]
  unfold s9 dirtyR
  simp only [↓eD0, ↓eD1, eC0, eC1, eC2, eC3, eC4, eC5, eC6, wantedE, ↓reduceIte, Nat.reduceEqDiff, Option.map_some, Option.map_none, reread, List.nil_append, List.cons_append, List.map_cons, List.map_nil, List.length_nil, List.length_cons, Value.cells, List.getElem?_cons_zero, List.getElem?_cons_succ, outE, lks, lkR, rdV, neg1, evs, opt, Nat.reduceAdd, Nat.reduceMul, and_self, reduceCtorEq, List.size_toArray, List.all_cons, List.all_nil, Value.oneCell', List.set_cons_zero, List.set_cons_succ, sets, fillL, Nat.reduceLeDiff, List.drop_succ_cons, List.drop_zero, List.take_succ_cons, List.take_zero, List.toList_toArray, argsE, Array.append_empty, Array.empty_append, List.getElem?_toArray, Int.reduceLT, Int.reduceLE, Int.reduceToNat, Int.reduceEq, Nat.reduceLT, ldV, lnV]
  refine appK_of check14_app ?_
  rintro _ _ ⟨e2, rfl⟩
  rw [e2]
  clear e2
  by_cases h : OkF g l
  case neg =>
    have d1 : decide (chk g l = 0) = false := by unfold chk; rw [if_neg h]; rfl
    have hc : chk g l = 7 := if_neg h
    simp only [↓eD0, ↓eD1, eC0, eC1, eC2, eC3, eC4, eC5, eC6, wantedE, ↓reduceIte, Nat.reduceEqDiff, Option.map_some, Option.map_none, reread, List.nil_append, List.cons_append, List.map_cons, List.map_nil, List.length_nil, List.length_cons, Value.cells, List.getElem?_cons_zero, List.getElem?_cons_succ, outE, lks, lkR, rdV, neg1, evs, opt, Nat.reduceAdd, Nat.reduceMul, and_self, reduceCtorEq, List.size_toArray, List.all_cons, List.all_nil, Value.oneCell', List.set_cons_zero, List.set_cons_succ, sets, fillL, Nat.reduceLeDiff, List.drop_succ_cons, List.drop_zero, List.take_succ_cons, List.take_zero, List.toList_toArray, argsE, Array.append_empty, Array.empty_append, List.getElem?_toArray, Int.reduceLT, Int.reduceLE, Int.reduceToNat, Int.reduceEq, Nat.reduceLT, d1]
    rw [if_neg h, hc]
    exact ⟨.ap, _, rfl, row_nil⟩
  have d1 : decide (chk g l = 0) = true := by unfold chk; rw [if_pos h]; rfl
  simp only [↓eD0, ↓eD1, eC0, eC1, eC2, eC3, eC4, eC5, eC6, wantedE, ↓reduceIte, Nat.reduceEqDiff, Option.map_some, Option.map_none, reread, List.nil_append, List.cons_append, List.map_cons, List.map_nil, List.length_nil, List.length_cons, Value.cells, List.getElem?_cons_zero, List.getElem?_cons_succ, outE, lks, lkR, rdV, neg1, evs, opt, Nat.reduceAdd, Nat.reduceMul, and_self, reduceCtorEq, List.size_toArray, List.all_cons, List.all_nil, Value.oneCell', List.set_cons_zero, List.set_cons_succ, sets, fillL, Nat.reduceLeDiff, List.drop_succ_cons, List.drop_zero, List.take_succ_cons, List.take_zero, List.toList_toArray, argsE, Array.append_empty, Array.empty_append, List.getElem?_toArray, Int.reduceLT, Int.reduceLE, Int.reduceToNat, Int.reduceEq, Nat.reduceLT, d1]
  rw [if_pos h]
  refine appK_of iw22_app ?_
  rintro _ _ ⟨e2, rfl⟩
  rw [e2]
  clear e2
  by_cases hk : 1 ≤ k ∧ k ≤ 16
  case neg =>
    have d2 : decide (1 ≤ k ∧ k ≤ 16) = false := decide_eq_false hk
    simp only [↓eD0, ↓eD1, eC0, eC1, eC2, eC3, eC4, eC5, eC6, wantedE, ↓reduceIte, Nat.reduceEqDiff, Option.map_some, Option.map_none, reread, List.nil_append, List.cons_append, List.map_cons, List.map_nil, List.length_nil, List.length_cons, Value.cells, List.getElem?_cons_zero, List.getElem?_cons_succ, outE, lks, lkR, rdV, neg1, evs, opt, Nat.reduceAdd, Nat.reduceMul, and_self, reduceCtorEq, List.size_toArray, List.all_cons, List.all_nil, Value.oneCell', List.set_cons_zero, List.set_cons_succ, sets, fillL, Nat.reduceLeDiff, List.drop_succ_cons, List.drop_zero, List.take_succ_cons, List.take_zero, List.toList_toArray, argsE, Array.append_empty, Array.empty_append, List.getElem?_toArray, Int.reduceLT, Int.reduceLE, Int.reduceToNat, Int.reduceEq, Nat.reduceLT, d2]
    rw [if_neg hk]
    exact ⟨.ap, _, rfl, row_nil⟩
  have d2 : decide (1 ≤ k ∧ k ≤ 16) = true := decide_eq_true hk
  have rep6 : List.replicate 6 (Value.int .i64 0) = [.int .i64 0, .int .i64 0, .int .i64 0, .int .i64 0, .int .i64 0, .int .i64 0] := rfl
  simp only [↓eD0, ↓eD1, eC0, eC1, eC2, eC3, eC4, eC5, eC6, wantedE, ↓reduceIte, Nat.reduceEqDiff, Option.map_some, Option.map_none, reread, List.nil_append, List.cons_append, List.map_cons, List.map_nil, List.length_nil, List.length_cons, Value.cells, List.getElem?_cons_zero, List.getElem?_cons_succ, outE, lks, lkR, rdV, neg1, evs, opt, Nat.reduceAdd, Nat.reduceMul, and_self, reduceCtorEq, List.size_toArray, List.all_cons, List.all_nil, Value.oneCell', List.set_cons_zero, List.set_cons_succ, sets, fillL, Nat.reduceLeDiff, List.drop_succ_cons, List.drop_zero, List.take_succ_cons, List.take_zero, List.toList_toArray, argsE, Array.append_empty, Array.empty_append, List.getElem?_toArray, Int.reduceLT, Int.reduceLE, Int.reduceToNat, Int.reduceEq, Nat.reduceLT, d2, rep6]
  rw [if_pos hk]
  obtain ⟨n, rfl⟩ : ∃ n : Nat, k = (n : Int) := ⟨k.toNat, by omega⟩
  refine appK_of (dirty23_app (g := g) (l := l) (k := n) h (by omega)) ?_
  rintro v τ ⟨ho, hr⟩
  simp only [↓eD0, ↓eD1, eC0, eC1, eC2, eC3, eC4, eC5, eC6, wantedE, ↓reduceIte, Nat.reduceEqDiff, Option.map_some, Option.map_none, reread, List.nil_append, List.cons_append, List.map_cons, List.map_nil, List.length_nil, List.length_cons, Value.cells, List.getElem?_cons_zero, List.getElem?_cons_succ, outE, lks, lkR, rdV, neg1, evs, opt, Nat.reduceAdd, Nat.reduceMul, and_self, reduceCtorEq, List.size_toArray, List.all_cons, List.all_nil, Value.oneCell', List.set_cons_zero, List.set_cons_succ, sets, fillL, Nat.reduceLeDiff, List.drop_succ_cons, List.drop_zero, List.take_succ_cons, List.take_zero, List.toList_toArray, argsE, Array.append_empty, Array.empty_append, List.getElem?_toArray, Int.reduceLT, Int.reduceLE, Int.reduceToNat, Int.reduceEq, Nat.reduceLT]
  exact ⟨Old.ap.trans ho, _, rfl, by simpa using hr⟩

theorem dirty11_app {g : Ld} {l : Ln} {k : Int} {σ : H} : App Try.prog (.func 11) #[] #[.agg (ldV g).toArray, .agg (lnV l).toArray, .int .i64 k] σ fun v σ' => Old σ σ' ∧ ∃ x, v = .agg #[x, .int .i64 (dirtyR g l k).2] ∧ Row σ' 1 x ((dirtyR g l k).1.map intV) := by
  refine App.of_sem mixed Try.func11 t11 k11 r11 (Nat.le_of_ble_eq_true rfl) ?_
  rw [← ap_nil (σ := σ)]
  unfold s11 dirtyR
  simp only [↓eD0, ↓eD1, eC0, eC1, eC2, eC3, eC4, eC5, eC6, wantedE, ↓reduceIte, Nat.reduceEqDiff, Option.map_some, Option.map_none, reread, List.nil_append, List.cons_append, List.map_cons, List.map_nil, List.length_nil, List.length_cons, Value.cells, List.getElem?_cons_zero, List.getElem?_cons_succ, outE, lks, lkR, rdV, neg1, evs, opt, Nat.reduceAdd, Nat.reduceMul, and_self, reduceCtorEq, List.size_toArray, List.all_cons, List.all_nil, Value.oneCell', List.set_cons_zero, List.set_cons_succ, sets, fillL, Nat.reduceLeDiff, List.drop_succ_cons, List.drop_zero, List.take_succ_cons, List.take_zero, List.toList_toArray, argsE, Array.append_empty, Array.empty_append, List.getElem?_toArray, Int.reduceLT, Int.reduceLE, Int.reduceToNat, Int.reduceEq, Nat.reduceLT, ldV, lnV]
  refine appK_of check15_app ?_
  rintro _ _ ⟨e2, rfl⟩
  rw [e2]
  clear e2
  by_cases h : OkF g l
  case neg =>
    have d1 : decide (chk g l = 0) = false := by unfold chk; rw [if_neg h]; rfl
    have hc : chk g l = 7 := if_neg h
    simp only [↓eD0, ↓eD1, eC0, eC1, eC2, eC3, eC4, eC5, eC6, wantedE, ↓reduceIte, Nat.reduceEqDiff, Option.map_some, Option.map_none, reread, List.nil_append, List.cons_append, List.map_cons, List.map_nil, List.length_nil, List.length_cons, Value.cells, List.getElem?_cons_zero, List.getElem?_cons_succ, outE, lks, lkR, rdV, neg1, evs, opt, Nat.reduceAdd, Nat.reduceMul, and_self, reduceCtorEq, List.size_toArray, List.all_cons, List.all_nil, Value.oneCell', List.set_cons_zero, List.set_cons_succ, sets, fillL, Nat.reduceLeDiff, List.drop_succ_cons, List.drop_zero, List.take_succ_cons, List.take_zero, List.toList_toArray, argsE, Array.append_empty, Array.empty_append, List.getElem?_toArray, Int.reduceLT, Int.reduceLE, Int.reduceToNat, Int.reduceEq, Nat.reduceLT, d1]
    rw [if_neg h, hc]
    exact ⟨.ap, _, rfl, row_nil⟩
  have d1 : decide (chk g l = 0) = true := by unfold chk; rw [if_pos h]; rfl
  simp only [↓eD0, ↓eD1, eC0, eC1, eC2, eC3, eC4, eC5, eC6, wantedE, ↓reduceIte, Nat.reduceEqDiff, Option.map_some, Option.map_none, reread, List.nil_append, List.cons_append, List.map_cons, List.map_nil, List.length_nil, List.length_cons, Value.cells, List.getElem?_cons_zero, List.getElem?_cons_succ, outE, lks, lkR, rdV, neg1, evs, opt, Nat.reduceAdd, Nat.reduceMul, and_self, reduceCtorEq, List.size_toArray, List.all_cons, List.all_nil, Value.oneCell', List.set_cons_zero, List.set_cons_succ, sets, fillL, Nat.reduceLeDiff, List.drop_succ_cons, List.drop_zero, List.take_succ_cons, List.take_zero, List.toList_toArray, argsE, Array.append_empty, Array.empty_append, List.getElem?_toArray, Int.reduceLT, Int.reduceLE, Int.reduceToNat, Int.reduceEq, Nat.reduceLT, d1]
  rw [if_pos h]
  refine appK_of iw26_app ?_
  rintro _ _ ⟨e2, rfl⟩
  rw [e2]
  clear e2
  by_cases hk : 1 ≤ k ∧ k ≤ 16
  case neg =>
    have d2 : decide (1 ≤ k ∧ k ≤ 16) = false := decide_eq_false hk
    simp only [↓eD0, ↓eD1, eC0, eC1, eC2, eC3, eC4, eC5, eC6, wantedE, ↓reduceIte, Nat.reduceEqDiff, Option.map_some, Option.map_none, reread, List.nil_append, List.cons_append, List.map_cons, List.map_nil, List.length_nil, List.length_cons, Value.cells, List.getElem?_cons_zero, List.getElem?_cons_succ, outE, lks, lkR, rdV, neg1, evs, opt, Nat.reduceAdd, Nat.reduceMul, and_self, reduceCtorEq, List.size_toArray, List.all_cons, List.all_nil, Value.oneCell', List.set_cons_zero, List.set_cons_succ, sets, fillL, Nat.reduceLeDiff, List.drop_succ_cons, List.drop_zero, List.take_succ_cons, List.take_zero, List.toList_toArray, argsE, Array.append_empty, Array.empty_append, List.getElem?_toArray, Int.reduceLT, Int.reduceLE, Int.reduceToNat, Int.reduceEq, Nat.reduceLT, d2]
    rw [if_neg hk]
    exact ⟨.ap, _, rfl, row_nil⟩
  have d2 : decide (1 ≤ k ∧ k ≤ 16) = true := decide_eq_true hk
  simp only [↓eD0, ↓eD1, eC0, eC1, eC2, eC3, eC4, eC5, eC6, wantedE, ↓reduceIte, Nat.reduceEqDiff, Option.map_some, Option.map_none, reread, List.nil_append, List.cons_append, List.map_cons, List.map_nil, List.length_nil, List.length_cons, Value.cells, List.getElem?_cons_zero, List.getElem?_cons_succ, outE, lks, lkR, rdV, neg1, evs, opt, Nat.reduceAdd, Nat.reduceMul, and_self, reduceCtorEq, List.size_toArray, List.all_cons, List.all_nil, Value.oneCell', List.set_cons_zero, List.set_cons_succ, sets, fillL, Nat.reduceLeDiff, List.drop_succ_cons, List.drop_zero, List.take_succ_cons, List.take_zero, List.toList_toArray, argsE, Array.append_empty, Array.empty_append, List.getElem?_toArray, Int.reduceLT, Int.reduceLE, Int.reduceToNat, Int.reduceEq, Nat.reduceLT, d2]
  rw [if_pos hk]
  obtain ⟨n, rfl⟩ : ∃ n : Nat, k = (n : Int) := ⟨k.toNat, by omega⟩
  rw [Int.toNat_natCast]
  refine loop_for (J := fun i e τ => i ≤ n ∧ ∃ v, e = [(2, .int .i64 n), (3, .pointer (some ⟨σ.size, 0, none⟩)), (4, .pointer (some ⟨σ.size + 1, 0, none⟩)), (6, .pointer (some ⟨σ.size + 2, 0, none⟩)), (8, v), (9, .int .i64 i)] ∧ Old σ τ ∧ σ.size + 3 ≤ τ.size ∧
      τ[σ.size]? = some (.cells 0 (ldV g) (0, 0)) ∧ τ[σ.size + 1]? = some (.cells 0 (lnV l) (0, 0)) ∧ τ[σ.size + 2]? = some (.cells 0 [.slice none 0 0, .int .i64 0] (0, 0)) ∧ Grown (sized (σ.size + 3)) τ 1 v ((dirtyL g l i).map intV).flatten (dirtyL g l i).length) n
    ⟨by omega, _, rfl, .ap, by rw [ap_size]; simp, ap_new0, ap_new, ap_new, Grown.lit (n := 1) rfl (by decide) (by rw [sized_size]; exact Nat.le_refl _) ap_new⟩ ?_
  rintro i e τ hi ⟨_, v, rfl, ho, hsz, q0, q1, q2, hg⟩
  have hs : (sized (σ.size + 3)).size = σ.size + 3 := sized_size
  rw [← ap_nil (σ := τ)]
  by_cases hlt : i < n
  · have dl : decide ((i:Int) < (n : Int)) = true := by simpa using hlt
    have z0 := (Array.getElem?_eq_some_iff.1 q0).1
    have z1 := (Array.getElem?_eq_some_iff.1 q1).1
    have z2 := (Array.getElem?_eq_some_iff.1 q2).1
    have f0 : ∀ L, rdN (ap τ L) ⟨σ.size, 0, none⟩ 4 = some (ldV g) := fun L => rdN_all ((ap_old z0).trans q0) rfl
    have f1 : ∀ L, rdN (ap τ L) ⟨σ.size + 1, 0, none⟩ 2 = some (lnV l) := fun L => rdN_all ((ap_old z1).trans q1) rfl
    have hrow := Grown.Row (rows := (dirtyL g l i).map intV) (by simpa using hg) intV_rows
    obtain ⟨vb, vc, rfl⟩ := hg.slice
    rw [dirtyL_len] at hg hrow
    obtain ⟨b, off, hbe, h1⟩ := hrow.at (i := i) (x := intV (dirtyF g l i)) (by simp [dirtyL_get])
    subst hbe
    have g3 : ∀ l', rd1 (ap τ l') ⟨b, off + i, none⟩ = some (.int .i64 (dirtyF g l i)) := fun l' => rd1_old (by simpa using rd1_row h1 (j := 0) rfl)
    have hb : (0:Int) ≤ (i:Int) ∧ (i:Int) < ((i + 1 : Nat) : Int) := by omega
    have hw : IntKind.wrap .i64 ((i:Int) + 1) = ((i + 1 : Nat) : Int) := by rw [wrap64' (by omega) (by omega)]; omega
    have hd := dirty_le h i
    have ht := time_le h.pos hd.1 (by omega)
    obtain ⟨v', τ', ha1, hA⟩ := append_grown (σ := ap τ [.cells 0 (intV (dirtyF g l (i + 1))) (0, 0)]) (xa := .slice (some ⟨τ.size, 0, none⟩) 1 1) (bytes := 8) (m := 1) (new := intV (dirtyF g l (i + 1))) (hg.old .ap) (by omega) (by rw [hs, ap_size]; omega) (by
      show (rdN (ap τ _) ⟨τ.size, 0, none⟩ 1).map (1, ·) = _
      rw [rdN_ap0]; rfl) rfl rfl (by omega) (by omega)
    rw [dirtyL_len]
    simp only [↓eD0, ↓eD1, eC0, eC1, eC2, eC3, eC4, eC5, eC6, wantedE, ↓reduceIte, Nat.reduceEqDiff, Option.map_some, Option.map_none, reread, List.nil_append, List.cons_append, List.map_cons, List.map_nil, List.length_nil, List.length_cons, Value.cells, List.getElem?_cons_zero, List.getElem?_cons_succ, outE, lks, lkR, rdV, neg1, evs, opt, Nat.reduceAdd, Nat.reduceMul, and_self, reduceCtorEq, List.size_toArray, List.all_cons, List.all_nil, Value.oneCell', List.set_cons_zero, List.set_cons_succ, sets, fillL, Nat.reduceLeDiff, List.drop_succ_cons, List.drop_zero, List.take_succ_cons, List.take_zero, List.toList_toArray, argsE, Array.append_empty, Array.empty_append, List.getElem?_toArray, Int.reduceLT, Int.reduceLE, Int.reduceToNat, Int.reduceEq, Nat.reduceLT, dl, hb, Int.toNat_natCast, g3, f0, f1, ldV, lnV]
    refine appK_of (time21_app h.pos hd.1 (by omega)) ?_
    rintro _ _ ⟨e2, rfl⟩
    rw [e2]
    clear e2
    simp only [↓eD0, ↓eD1, eC0, eC1, eC2, eC3, eC4, eC5, eC6, wantedE, ↓reduceIte, Nat.reduceEqDiff, Option.map_some, Option.map_none, reread, List.nil_append, List.cons_append, List.map_cons, List.map_nil, List.length_nil, List.length_cons, Value.cells, List.getElem?_cons_zero, List.getElem?_cons_succ, outE, lks, lkR, rdV, neg1, evs, opt, Nat.reduceAdd, Nat.reduceMul, and_self, reduceCtorEq, List.size_toArray, List.all_cons, List.all_nil, Value.oneCell', List.set_cons_zero, List.set_cons_succ, sets, fillL, Nat.reduceLeDiff, List.drop_succ_cons, List.drop_zero, List.take_succ_cons, List.take_zero, List.toList_toArray, argsE, Array.append_empty, Array.empty_append, List.getElem?_toArray, Int.reduceLT, Int.reduceLE, Int.reduceToNat, Int.reduceEq, Nat.reduceLT, f0, f1, ldV]
    refine appK_of (written_app (g := g) h.1.2.2.1.1 h.1.2.2.1.2 ht.1 ht.2.1) ?_
    rintro _ _ ⟨e2, rfl⟩
    rw [e2]
    clear e2
    simp only [↓eD0, ↓eD1, eC0, eC1, eC2, eC3, eC4, eC5, eC6, wantedE, ↓reduceIte, Nat.reduceEqDiff, Option.map_some, Option.map_none, reread, List.nil_append, List.cons_append, List.map_cons, List.map_nil, List.length_nil, List.length_cons, Value.cells, List.getElem?_cons_zero, List.getElem?_cons_succ, outE, lks, lkR, rdV, neg1, evs, opt, Nat.reduceAdd, Nat.reduceMul, and_self, reduceCtorEq, List.size_toArray, List.all_cons, List.all_nil, Value.oneCell', List.set_cons_zero, List.set_cons_succ, sets, fillL, Nat.reduceLeDiff, List.drop_succ_cons, List.drop_zero, List.take_succ_cons, List.take_zero, List.toList_toArray, argsE, Array.append_empty, Array.empty_append, List.getElem?_toArray, Int.reduceLT, Int.reduceLE, Int.reduceToNat, Int.reduceEq, Nat.reduceLT]
    refine onV_of ha1 ?_
    simp only [↓eD0, ↓eD1, eC0, eC1, eC2, eC3, eC4, eC5, eC6, wantedE, ↓reduceIte, Nat.reduceEqDiff, Option.map_some, Option.map_none, reread, List.nil_append, List.cons_append, List.map_cons, List.map_nil, List.length_nil, List.length_cons, Value.cells, List.getElem?_cons_zero, List.getElem?_cons_succ, outE, lks, lkR, rdV, neg1, evs, opt, Nat.reduceAdd, Nat.reduceMul, and_self, reduceCtorEq, List.size_toArray, List.all_cons, List.all_nil, Value.oneCell', List.set_cons_zero, List.set_cons_succ, sets, fillL, Nat.reduceLeDiff, List.drop_succ_cons, List.drop_zero, List.take_succ_cons, List.take_zero, List.toList_toArray, argsE, Array.append_empty, Array.empty_append, List.getElem?_toArray, Int.reduceLT, Int.reduceLE, Int.reduceToNat, Int.reduceEq, Nat.reduceLT, hw]
    refine ⟨hlt, by omega, v', rfl, hA.Old' (hg.old .ap) (by rw [hs]; omega) (ho.trans .ap), ?_, ?_, ?_, ?_, ?_⟩
    · have := hA.size; rw [ap_size] at this; omega
    · exact hA.low (hg.old .ap) (by rw [hs]; omega) ((ap_old z0).trans q0)
    · exact hA.low (hg.old .ap) (by rw [hs]; omega) ((ap_old z1).trans q1)
    · exact hA.low (hg.old .ap) (by rw [hs]; omega) ((ap_old z2).trans q2)
    · rw [dirtyL_succ]
      simpa [dirtyL_len] using hA.grown
  · have : i = n := by omega
    subst this
    have dl : decide ((i:Int) < (i : Int)) = false := by simp
    have z2 := (Array.getElem?_eq_some_iff.1 q2).1
    obtain ⟨vb, vc, rfl⟩ := hg.slice
    have w2' : ∀ L b n c, wrN (ap τ L) ⟨σ.size + 2, 0, none⟩ [.slice b n c, .int .i64 0] = some ((ap τ L).setIfInBounds (σ.size + 2) (.cells 1 [.slice b n c, .int .i64 0] (0, 0))) := fun L b n c => by
      rw [wrN_eq, if_neg (by simp), ap_old z2, q2, wrc_cells]; rfl
    have f2 : ∀ L x, rdN ((ap τ L).setIfInBounds (σ.size + 2) (.cells 1 [x, .int .i64 0] (0, 0))) ⟨σ.size + 2, 0, none⟩ 2 = some [x, .int .i64 0] := fun L x => rdN_all (get_set ((ap_old z2).trans q2)) rfl
    simp only [↓eD0, ↓eD1, eC0, eC1, eC2, eC3, eC4, eC5, eC6, wantedE, ↓reduceIte, Nat.reduceEqDiff, Option.map_some, Option.map_none, reread, List.nil_append, List.cons_append, List.map_cons, List.map_nil, List.length_nil, List.length_cons, Value.cells, List.getElem?_cons_zero, List.getElem?_cons_succ, outE, lks, lkR, rdV, neg1, evs, opt, Nat.reduceAdd, Nat.reduceMul, and_self, reduceCtorEq, List.size_toArray, List.all_cons, List.all_nil, Value.oneCell', List.set_cons_zero, List.set_cons_succ, sets, fillL, Nat.reduceLeDiff, List.drop_succ_cons, List.drop_zero, List.take_succ_cons, List.take_zero, List.toList_toArray, argsE, Array.append_empty, Array.empty_append, List.getElem?_toArray, Int.reduceLT, Int.reduceLE, Int.reduceToNat, Int.reduceEq, Nat.reduceLT, dl, w2', f2]
    refine ⟨(ho.trans .ap).set (by omega), _, rfl, ?_⟩
    exact Grown.Row (σ0 := sized (σ.size + 3)) (by simpa using (hg.old (Old.ap (l := []))).set (b := σ.size + 2) (by rw [hs]; omega)) intV_rows

theorem same_app {σ : H} {a : List Int} {av bv : Value} (ha : Row σ 1 av (a.map intV)) (hb : Row σ 1 bv (a.map intV)) (hn : a.length < 4000000000000) :
    App Try.prog (.func 16) #[] #[av, bv] σ fun v σ' => σ' = σ ∧ v = .bool true := by
  refine App.forget (App.of_sem mixed Try.func16 t16 k16 r16 (Nat.le_of_ble_eq_true rfl) ?_)
  obtain ⟨base, cp, rfl⟩ := ha.slice
  obtain ⟨base2, cp2, rfl⟩ := hb.slice
  simp only [List.length_map] at ha hb ⊢
  have de : decide ((a.length : Int) = (a.length : Int)) = true := by simp
  rw [← ap_nil (σ := σ)]
  unfold s16
  simp only [↓eD0, ↓eD1, eC0, eC1, eC2, eC3, eC4, eC5, eC6, wantedE, ↓reduceIte, Nat.reduceEqDiff, Option.map_some, Option.map_none, reread, List.nil_append, List.cons_append, List.map_cons, List.map_nil, List.length_nil, List.length_cons, Value.cells, List.getElem?_cons_zero, List.getElem?_cons_succ, outE, lks, lkR, rdV, neg1, evs, opt, Nat.reduceAdd, Nat.reduceMul, and_self, reduceCtorEq, List.size_toArray, List.all_cons, List.all_nil, Value.oneCell', List.set_cons_zero, List.set_cons_succ, sets, fillL, Nat.reduceLeDiff, List.drop_succ_cons, List.drop_zero, List.take_succ_cons, List.take_zero, List.toList_toArray, argsE, Array.append_empty, Array.empty_append, List.getElem?_toArray, Int.reduceLT, Int.reduceLE, Int.reduceToNat, Int.reduceEq, Nat.reduceLT, de]
  refine loop_for (J := fun i e τ => i ≤ a.length ∧ Old σ τ ∧ e = [(0, .slice base a.length cp), (1, .slice base2 a.length cp2), (5, .int .i64 i)]) a.length ⟨by omega, .ap, rfl⟩ ?_
  rintro i e τ hi ⟨_, ho, rfl⟩
  rw [← ap_nil (σ := τ)]
  by_cases hlt : i < a.length
  · have dl : decide ((i:Int) < (a.length : Int)) = true := by simpa using hlt
    obtain ⟨b, off, rfl, h1⟩ := ha.at (i := i) (x := intV a[i]) (by simp [hlt])
    obtain ⟨b2, off2, rfl, h2⟩ := hb.at (i := i) (x := intV a[i]) (by simp [hlt])
    have g3 : ∀ l, rd1 (ap τ l) ⟨b, off + i, none⟩ = some (.int .i64 a[i]) := fun l => rd1_Old (ho.trans .ap) (by simpa using rd1_row h1 (j := 0) rfl)
    have g4 : ∀ l, rd1 (ap τ l) ⟨b2, off2 + i, none⟩ = some (.int .i64 a[i]) := fun l => rd1_Old (ho.trans .ap) (by simpa using rd1_row h2 (j := 0) rfl)
    have hb : (0:Int) ≤ (i:Int) ∧ (i:Int) < (a.length : Int) := by omega
    have hw : IntKind.wrap .i64 ((i:Int) + 1) = ((i + 1 : Nat) : Int) := by rw [wrap64 (by omega) (by omega)]; omega
    have dx : decide (a[i] = a[i]) = true := by simp
    simp only [↓eD0, ↓eD1, eC0, eC1, eC2, eC3, eC4, eC5, eC6, wantedE, ↓reduceIte, Nat.reduceEqDiff, Option.map_some, Option.map_none, reread, List.nil_append, List.cons_append, List.map_cons, List.map_nil, List.length_nil, List.length_cons, Value.cells, List.getElem?_cons_zero, List.getElem?_cons_succ, outE, lks, lkR, rdV, neg1, evs, opt, Nat.reduceAdd, Nat.reduceMul, and_self, reduceCtorEq, List.size_toArray, List.all_cons, List.all_nil, Value.oneCell', List.set_cons_zero, List.set_cons_succ, sets, fillL, Nat.reduceLeDiff, List.drop_succ_cons, List.drop_zero, List.take_succ_cons, List.take_zero, List.toList_toArray, argsE, Array.append_empty, Array.empty_append, List.getElem?_toArray, Int.reduceLT, Int.reduceLE, Int.reduceToNat, Int.reduceEq, Nat.reduceLT, dl, hb, Int.toNat_natCast, g3, g4, dx, hw]
    exact ⟨hlt, by omega, ho.trans .ap⟩
  · have : i = a.length := by omega
    subst this
    have dl : decide ((a.length:Int) < (a.length : Int)) = false := by simp
    simp only [↓eD0, ↓eD1, eC0, eC1, eC2, eC3, eC4, eC5, eC6, wantedE, ↓reduceIte, Nat.reduceEqDiff, Option.map_some, Option.map_none, reread, List.nil_append, List.cons_append, List.map_cons, List.map_nil, List.length_nil, List.length_cons, Value.cells, List.getElem?_cons_zero, List.getElem?_cons_succ, outE, lks, lkR, rdV, neg1, evs, opt, Nat.reduceAdd, Nat.reduceMul, and_self, reduceCtorEq, List.size_toArray, List.all_cons, List.all_nil, Value.oneCell', List.set_cons_zero, List.set_cons_succ, sets, fillL, Nat.reduceLeDiff, List.drop_succ_cons, List.drop_zero, List.take_succ_cons, List.take_zero, List.toList_toArray, argsE, Array.append_empty, Array.empty_append, List.getElem?_toArray, Int.reduceLT, Int.reduceLE, Int.reduceToNat, Int.reduceEq, Nat.reduceLT, dl]
    exact ⟨ho.trans .ap, by first | exact ⟨rfl, rfl⟩ | rfl⟩

/-! ### The order of costs -/
def orF : List Int → Int
  | [] => 0
  | x :: r => if x ≠ 0 then x else orF r
theorem orF_drop {L : List Int} {i : Nat} (h : i < L.length) : orF (L.drop i) = if L[i] ≠ 0 then L[i] else orF (L.drop (i + 1)) := by
  rw [List.drop_eq_getElem_cons h, orF]
theorem or_app {σ : H} {L : List Int} {lv : Value} (hr : Row σ 1 lv (L.map intV)) (hn : L.length ≤ 1000) : App Try.prog (.func 38) #[] #[lv] σ fun v σ' => σ' = σ ∧ v = .int .i64 (orF L) := by
  refine App.forget (App.of_sem mixed Try.func38 t38 k38 r38 (Nat.le_of_ble_eq_true rfl) ?_)
  obtain ⟨base, cp, rfl⟩ := hr.slice
  simp only [List.length_map] at hr ⊢
  rw [← ap_nil (σ := σ)]
  unfold s38
  simp only [↓eD0, ↓eD1, eC0, eC1, eC2, eC3, eC4, eC5, eC6, wantedE, ↓reduceIte, Nat.reduceEqDiff, Option.map_some, Option.map_none, reread, List.nil_append, List.cons_append, List.map_cons, List.map_nil, List.length_nil, List.length_cons, Value.cells, List.getElem?_cons_zero, List.getElem?_cons_succ, outE, lks, lkR, rdV, neg1, evs, opt, Nat.reduceAdd, Nat.reduceMul, and_self, reduceCtorEq, List.size_toArray, List.all_cons, List.all_nil, Value.oneCell', List.set_cons_zero, List.set_cons_succ, sets, fillL, Nat.reduceLeDiff, List.drop_succ_cons, List.drop_zero, List.take_succ_cons, List.take_zero, List.toList_toArray, argsE, Array.append_empty, Array.empty_append, List.getElem?_toArray, Int.reduceLT, Int.reduceLE, Int.reduceToNat, Int.reduceEq, Nat.reduceLT]
  refine loop_for (J := fun i e τ => i ≤ L.length ∧ Old σ τ ∧ orF L = orF (L.drop i) ∧ e = [(3, .int .i64 0), (6, .slice base L.length cp), (7, .int .i64 L.length), (8, .int .i64 i)]) L.length ⟨by omega, .ap, rfl, rfl⟩ ?_
  rintro i e τ hi ⟨_, ho, hor, rfl⟩
  rw [← ap_nil (σ := τ)]
  by_cases hlt : i < L.length
  · have dl : decide ((i:Int) < (L.length : Int)) = true := by simpa using hlt
    obtain ⟨b, off, rfl, h1⟩ := hr.at (i := i) (x := intV L[i]) (by simp [hlt])
    have g3 : ∀ l, rd1 (ap τ l) ⟨b, off + i, none⟩ = some (.int .i64 L[i]) := fun l => rd1_Old (ho.trans .ap) (by simpa using rd1_row h1 (j := 0) rfl)
    have hb : (0:Int) ≤ (i:Int) ∧ (i:Int) < (L.length : Int) := by omega
    have hw : IntKind.wrap .i64 ((i:Int) + 1) = ((i + 1 : Nat) : Int) := by rw [wrap64' (by omega) (by omega)]; omega
    have hd := orF_drop hlt
    by_cases hx : L[i] = 0
    · have dx : decide (L[i] = 0) = true := by simpa using hx
      rw [if_neg (by simpa using hx)] at hd
      simp only [↓eD0, ↓eD1, eC0, eC1, eC2, eC3, eC4, eC5, eC6, wantedE, ↓reduceIte, Nat.reduceEqDiff, Option.map_some, Option.map_none, reread, List.nil_append, List.cons_append, List.map_cons, List.map_nil, List.length_nil, List.length_cons, Value.cells, List.getElem?_cons_zero, List.getElem?_cons_succ, outE, lks, lkR, rdV, neg1, evs, opt, Nat.reduceAdd, Nat.reduceMul, and_self, reduceCtorEq, List.size_toArray, List.all_cons, List.all_nil, Value.oneCell', List.set_cons_zero, List.set_cons_succ, sets, fillL, Nat.reduceLeDiff, List.drop_succ_cons, List.drop_zero, List.take_succ_cons, List.take_zero, List.toList_toArray, argsE, Array.append_empty, Array.empty_append, List.getElem?_toArray, Int.reduceLT, Int.reduceLE, Int.reduceToNat, Int.reduceEq, Nat.reduceLT, dl, hb, Int.toNat_natCast, g3, dx, hw]
      exact ⟨hlt, by omega, ho.trans .ap, hor.trans hd⟩
    · have dx : decide (L[i] = 0) = false := by simpa using hx
      rw [if_pos hx] at hd
      simp only [↓eD0, ↓eD1, eC0, eC1, eC2, eC3, eC4, eC5, eC6, wantedE, ↓reduceIte, Nat.reduceEqDiff, Option.map_some, Option.map_none, reread, List.nil_append, List.cons_append, List.map_cons, List.map_nil, List.length_nil, List.length_cons, Value.cells, List.getElem?_cons_zero, List.getElem?_cons_succ, outE, lks, lkR, rdV, neg1, evs, opt, Nat.reduceAdd, Nat.reduceMul, and_self, reduceCtorEq, List.size_toArray, List.all_cons, List.all_nil, Value.oneCell', List.set_cons_zero, List.set_cons_succ, sets, fillL, Nat.reduceLeDiff, List.drop_succ_cons, List.drop_zero, List.take_succ_cons, List.take_zero, List.toList_toArray, argsE, Array.append_empty, Array.empty_append, List.getElem?_toArray, Int.reduceLT, Int.reduceLE, Int.reduceToNat, Int.reduceEq, Nat.reduceLT, dl, hb, Int.toNat_natCast, g3, dx]
      exact ⟨ho.trans .ap, by rw [hor, hd]; exact ⟨rfl, rfl⟩⟩
  · have : i = L.length := by omega
    subst this
    have dl : decide ((L.length:Int) < (L.length : Int)) = false := by simp
    rw [List.drop_length] at hor
    simp only [↓eD0, ↓eD1, eC0, eC1, eC2, eC3, eC4, eC5, eC6, wantedE, ↓reduceIte, Nat.reduceEqDiff, Option.map_some, Option.map_none, reread, List.nil_append, List.cons_append, List.map_cons, List.map_nil, List.length_nil, List.length_cons, Value.cells, List.getElem?_cons_zero, List.getElem?_cons_succ, outE, lks, lkR, rdV, neg1, evs, opt, Nat.reduceAdd, Nat.reduceMul, and_self, reduceCtorEq, List.size_toArray, List.all_cons, List.all_nil, Value.oneCell', List.set_cons_zero, List.set_cons_succ, sets, fillL, Nat.reduceLeDiff, List.drop_succ_cons, List.drop_zero, List.take_succ_cons, List.take_zero, List.toList_toArray, argsE, Array.append_empty, Array.empty_append, List.getElem?_toArray, Int.reduceLT, Int.reduceLE, Int.reduceToNat, Int.reduceEq, Nat.reduceLT, dl]
    exact ⟨ho.trans .ap, by rw [hor]; exact ⟨rfl, rfl⟩⟩
def better (a b : Bd) : Bool := if a.s = b.s then (if a.v = b.v then decide (a.d < b.d) else decide (a.v < b.v)) else decide (a.s < b.s)
theorem better_or {a b : Bd} : decide (orF [cmp a.s b.s, cmp a.v b.v, cmp a.d b.d] < 0) = better a b := by
  have key : ∀ x y : Int, (x = y ∧ cmp x y = 0) ∨ (x < y ∧ cmp x y = -1) ∨ (y < x ∧ cmp x y = 1) := by
    intro x y
    unfold cmp
    rcases Int.lt_trichotomy x y with h | h | h
    · exact .inr (.inl ⟨h, if_pos h⟩)
    · exact .inl ⟨h, by rw [if_neg (by omega), if_neg (by omega)]⟩
    · exact .inr (.inr ⟨h, by rw [if_neg (by omega), if_pos h]⟩)
  simp only [better, orF]
  rcases key a.s b.s with ⟨h1, e1⟩ | ⟨h1, e1⟩ | ⟨h1, e1⟩
  · rcases key a.v b.v with ⟨h2, e2⟩ | ⟨h2, e2⟩ | ⟨h2, e2⟩
    · rcases key a.d b.d with ⟨h3, e3⟩ | ⟨h3, e3⟩ | ⟨h3, e3⟩
      · simp [h1, h2, h3, e1, e2, e3, cmp]
      · have n3 : a.d < b.d := h3
        rw [if_pos h1, if_pos h2]
        simp [e1, e2, e3, h3]
      · rw [if_pos h1, if_pos h2]
        have : ¬ a.d < b.d := by omega
        simp [e1, e2, e3, this]
    · have n2 : ¬ a.v = b.v := by omega
      rw [if_pos h1, if_neg n2]
      simp [e1, e2, h2]
    · have n2 : ¬ a.v = b.v := by omega
      have : ¬ a.v < b.v := by omega
      rw [if_pos h1, if_neg n2]
      simp [e1, e2, this]
  · have n1 : ¬ a.s = b.s := by omega
    rw [if_neg n1]
    simp [e1, h1]
  · have n1 : ¬ a.s = b.s := by omega
    have : ¬ a.s < b.s := by omega
    rw [if_neg n1]
    simp [e1, this]
theorem compare_app {a b : Bd} {σ : H} : App Try.prog (.func 29) #[] #[.agg (bdV a).toArray, .agg (bdV b).toArray] σ fun v σ' => σ' = σ ∧ v = .int .i64 (orF [cmp a.s b.s, cmp a.v b.v, cmp a.d b.d]) := by
  refine App.forget (App.of_sem mixed Try.func29 t29 k29 r29 (Nat.le_of_ble_eq_true rfl) ?_)
  rw [← ap_nil (σ := σ)]
  unfold s29
  simp only [↓eD0, ↓eD1, eC0, eC1, eC2, eC3, eC4, eC5, eC6, wantedE, ↓reduceIte, Nat.reduceEqDiff, Option.map_some, Option.map_none, reread, List.nil_append, List.cons_append, List.map_cons, List.map_nil, List.length_nil, List.length_cons, Value.cells, List.getElem?_cons_zero, List.getElem?_cons_succ, outE, lks, lkR, rdV, neg1, evs, opt, Nat.reduceAdd, Nat.reduceMul, and_self, reduceCtorEq, List.size_toArray, List.all_cons, List.all_nil, Value.oneCell', List.set_cons_zero, List.set_cons_succ, sets, fillL, Nat.reduceLeDiff, List.drop_succ_cons, List.drop_zero, List.take_succ_cons, List.take_zero, List.toList_toArray, argsE, Array.append_empty, Array.empty_append, List.getElem?_toArray, Int.reduceLT, Int.reduceLE, Int.reduceToNat, Int.reduceEq, Nat.reduceLT, bdV]
  refine appK_of cmp_app ?_
  rintro _ _ ⟨e2, rfl⟩
  rw [e2]
  clear e2
  simp only [↓eD0, ↓eD1, eC0, eC1, eC2, eC3, eC4, eC5, eC6, wantedE, ↓reduceIte, Nat.reduceEqDiff, Option.map_some, Option.map_none, reread, List.nil_append, List.cons_append, List.map_cons, List.map_nil, List.length_nil, List.length_cons, Value.cells, List.getElem?_cons_zero, List.getElem?_cons_succ, outE, lks, lkR, rdV, neg1, evs, opt, Nat.reduceAdd, Nat.reduceMul, and_self, reduceCtorEq, List.size_toArray, List.all_cons, List.all_nil, Value.oneCell', List.set_cons_zero, List.set_cons_succ, sets, fillL, Nat.reduceLeDiff, List.drop_succ_cons, List.drop_zero, List.take_succ_cons, List.take_zero, List.toList_toArray, argsE, Array.append_empty, Array.empty_append, List.getElem?_toArray, Int.reduceLT, Int.reduceLE, Int.reduceToNat, Int.reduceEq, Nat.reduceLT]
  refine appK_of cmp_app ?_
  rintro _ _ ⟨e2, rfl⟩
  rw [e2]
  clear e2
  simp only [↓eD0, ↓eD1, eC0, eC1, eC2, eC3, eC4, eC5, eC6, wantedE, ↓reduceIte, Nat.reduceEqDiff, Option.map_some, Option.map_none, reread, List.nil_append, List.cons_append, List.map_cons, List.map_nil, List.length_nil, List.length_cons, Value.cells, List.getElem?_cons_zero, List.getElem?_cons_succ, outE, lks, lkR, rdV, neg1, evs, opt, Nat.reduceAdd, Nat.reduceMul, and_self, reduceCtorEq, List.size_toArray, List.all_cons, List.all_nil, Value.oneCell', List.set_cons_zero, List.set_cons_succ, sets, fillL, Nat.reduceLeDiff, List.drop_succ_cons, List.drop_zero, List.take_succ_cons, List.take_zero, List.toList_toArray, argsE, Array.append_empty, Array.empty_append, List.getElem?_toArray, Int.reduceLT, Int.reduceLE, Int.reduceToNat, Int.reduceEq, Nat.reduceLT]
  refine appK_of cmp_app ?_
  rintro _ _ ⟨e2, rfl⟩
  rw [e2]
  clear e2
  simp only [↓eD0, ↓eD1, eC0, eC1, eC2, eC3, eC4, eC5, eC6, wantedE, ↓reduceIte, Nat.reduceEqDiff, Option.map_some, Option.map_none, reread, List.nil_append, List.cons_append, List.map_cons, List.map_nil, List.length_nil, List.length_cons, Value.cells, List.getElem?_cons_zero, List.getElem?_cons_succ, outE, lks, lkR, rdV, neg1, evs, opt, Nat.reduceAdd, Nat.reduceMul, and_self, reduceCtorEq, List.size_toArray, List.all_cons, List.all_nil, Value.oneCell', List.set_cons_zero, List.set_cons_succ, sets, fillL, Nat.reduceLeDiff, List.drop_succ_cons, List.drop_zero, List.take_succ_cons, List.take_zero, List.toList_toArray, argsE, Array.append_empty, Array.empty_append, List.getElem?_toArray, Int.reduceLT, Int.reduceLE, Int.reduceToNat, Int.reduceEq, Nat.reduceLT]
  generalize cmp a.s b.s = x
  generalize cmp a.v b.v = y
  generalize cmp a.d b.d = z
  refine appK_of (or_app (L := [x, y, z]) ?_ (by simp)) ?_
  · exact Grown.Row (σ0 := σ) (rows := [x, y, z].map intV) (Grown.lit (n := 3) rfl (by decide) (by omega) (ap_new (i := 2))) intV_rows
  rintro _ _ ⟨e2, rfl⟩
  rw [e2]
  clear e2
  simp only [↓eD0, ↓eD1, eC0, eC1, eC2, eC3, eC4, eC5, eC6, wantedE, ↓reduceIte, Nat.reduceEqDiff, Option.map_some, Option.map_none, reread, List.nil_append, List.cons_append, List.map_cons, List.map_nil, List.length_nil, List.length_cons, Value.cells, List.getElem?_cons_zero, List.getElem?_cons_succ, outE, lks, lkR, rdV, neg1, evs, opt, Nat.reduceAdd, Nat.reduceMul, and_self, reduceCtorEq, List.size_toArray, List.all_cons, List.all_nil, Value.oneCell', List.set_cons_zero, List.set_cons_succ, sets, fillL, Nat.reduceLeDiff, List.drop_succ_cons, List.drop_zero, List.take_succ_cons, List.take_zero, List.toList_toArray, argsE, Array.append_empty, Array.empty_append, List.getElem?_toArray, Int.reduceLT, Int.reduceLE, Int.reduceToNat, Int.reduceEq, Nat.reduceLT]
  exact ⟨.ap, by first | exact ⟨rfl, rfl⟩ | rfl⟩
theorem better_app {a b : Bd} {σ : H} : App Try.prog (.func 31) #[] #[.agg (bdV a).toArray, .agg (bdV b).toArray] σ fun v σ' => σ' = σ ∧ v = .bool (better a b) := by
  refine App.forget (App.of_sem mixed Try.func31 t31 k31 r31 (Nat.le_of_ble_eq_true rfl) ?_)
  rw [← ap_nil (σ := σ)]
  unfold s31 better
  by_cases h1 : a.s = b.s
  case neg =>
    have d1 : decide (a.s = b.s) = false := by simpa using h1
    simp only [↓eD0, ↓eD1, eC0, eC1, eC2, eC3, eC4, eC5, eC6, wantedE, ↓reduceIte, Nat.reduceEqDiff, Option.map_some, Option.map_none, reread, List.nil_append, List.cons_append, List.map_cons, List.map_nil, List.length_nil, List.length_cons, Value.cells, List.getElem?_cons_zero, List.getElem?_cons_succ, outE, lks, lkR, rdV, neg1, evs, opt, Nat.reduceAdd, Nat.reduceMul, and_self, reduceCtorEq, List.size_toArray, List.all_cons, List.all_nil, Value.oneCell', List.set_cons_zero, List.set_cons_succ, sets, fillL, Nat.reduceLeDiff, List.drop_succ_cons, List.drop_zero, List.take_succ_cons, List.take_zero, List.toList_toArray, argsE, Array.append_empty, Array.empty_append, List.getElem?_toArray, Int.reduceLT, Int.reduceLE, Int.reduceToNat, Int.reduceEq, Nat.reduceLT, bdV, d1]
    exact ⟨.ap, by rw [if_neg h1]; exact ⟨rfl, rfl⟩⟩
  have d1 : decide (a.s = b.s) = true := by simpa using h1
  by_cases h2 : a.v = b.v
  case neg =>
    have d2 : decide (a.v = b.v) = false := by simpa using h2
    simp only [↓eD0, ↓eD1, eC0, eC1, eC2, eC3, eC4, eC5, eC6, wantedE, ↓reduceIte, Nat.reduceEqDiff, Option.map_some, Option.map_none, reread, List.nil_append, List.cons_append, List.map_cons, List.map_nil, List.length_nil, List.length_cons, Value.cells, List.getElem?_cons_zero, List.getElem?_cons_succ, outE, lks, lkR, rdV, neg1, evs, opt, Nat.reduceAdd, Nat.reduceMul, and_self, reduceCtorEq, List.size_toArray, List.all_cons, List.all_nil, Value.oneCell', List.set_cons_zero, List.set_cons_succ, sets, fillL, Nat.reduceLeDiff, List.drop_succ_cons, List.drop_zero, List.take_succ_cons, List.take_zero, List.toList_toArray, argsE, Array.append_empty, Array.empty_append, List.getElem?_toArray, Int.reduceLT, Int.reduceLE, Int.reduceToNat, Int.reduceEq, Nat.reduceLT, bdV, d1, d2]
    exact ⟨.ap, by rw [if_pos h1, if_neg h2]; exact ⟨rfl, rfl⟩⟩
  have d2 : decide (a.v = b.v) = true := by simpa using h2
  simp only [↓eD0, ↓eD1, eC0, eC1, eC2, eC3, eC4, eC5, eC6, wantedE, ↓reduceIte, Nat.reduceEqDiff, Option.map_some, Option.map_none, reread, List.nil_append, List.cons_append, List.map_cons, List.map_nil, List.length_nil, List.length_cons, Value.cells, List.getElem?_cons_zero, List.getElem?_cons_succ, outE, lks, lkR, rdV, neg1, evs, opt, Nat.reduceAdd, Nat.reduceMul, and_self, reduceCtorEq, List.size_toArray, List.all_cons, List.all_nil, Value.oneCell', List.set_cons_zero, List.set_cons_succ, sets, fillL, Nat.reduceLeDiff, List.drop_succ_cons, List.drop_zero, List.take_succ_cons, List.take_zero, List.toList_toArray, argsE, Array.append_empty, Array.empty_append, List.getElem?_toArray, Int.reduceLT, Int.reduceLE, Int.reduceToNat, Int.reduceEq, Nat.reduceLT, bdV, d1, d2]
  exact ⟨.ap, by rw [if_pos h1, if_pos h2]; exact ⟨rfl, rfl⟩⟩
end Go.Proofs.Ytianomelnpiffaa
