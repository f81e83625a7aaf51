/- Walks of the functions that the claim reaches. Conditions: none. -/
import Derived.Test.YtimcgoghjebalaaBodies
set_option linter.all false
set_option linter.unusedSimpArgs false
set_option linter.unusedVariables false
set_option maxRecDepth 10000
set_option maxHeartbeats 1000000
namespace Go.Proofs.Ytimcgoghjebalaa
open Go Go.Cn Go.RowKit
theorem mixed : Try.prog.follows .mixedOrders = true := by kernel_rfl
theorem undef_eq : undef = Value.tuple #[] := _root_.id rfl

/-- The less and the greater of two numbers. -/
def mn (x y : Int) : Int := if y < x then y else x
def mx (x y : Int) : Int := if x < y then y else x
theorem mn_eq {x y : Int} : (if y < x then y else x) = mn x y := rfl
theorem mx_eq {x y : Int} : (if x < y then y else x) = mx x y := rfl
theorem mn_le (x y : Int) : mn x y ≤ x ∧ mn x y ≤ y ∧ (mn x y = x ∨ mn x y = y) := by unfold mn; split <;> omega
theorem mx_ge (x y : Int) : x ≤ mx x y ∧ y ≤ mx x y ∧ (mx x y = x ∨ mx x y = y) := by unfold mx; split <;> omega

/-- A contract. -/
structure Ctr where
  r : Int
  l : Int
  s : Int
def ctrV (c : Ctr) : List Value := [.int .i64 c.r, .int .i64 c.l, .int .i64 c.s]
def Ctr.Ok (c : Ctr) : Prop := 0 ≤ c.r ∧ c.r ≤ c.l ∧ c.l ≤ 1073741824 ∧ 1 ≤ c.s ∧ c.s ≤ 1000
instance (c : Ctr) : Decidable c.Ok := by unfold Ctr.Ok; infer_instance
def Amt (n : Int) : Prop := 0 ≤ n ∧ n ≤ 1073741824
instance (n : Int) : Decidable (Amt n) := by unfold Amt; infer_instance

/-- A claim: base, top, shares. -/
structure Cl where
  b : Int
  t : Int
  s : Int
def clV (c : Cl) : List Value := [.int .i64 c.b, .int .i64 c.t, .int .i64 c.s]
def atC (c : Cl) (t : Int) : Int := mn c.t (c.b + t * c.s)
def Cl.Ok (c : Cl) : Prop := 0 ≤ c.b ∧ c.b ≤ c.t ∧ c.t ≤ 1073741824 ∧ 1 ≤ c.s ∧ c.s ≤ 1000
def Lev (t : Int) : Prop := 0 ≤ t ∧ t ≤ 1073741825
def clF (c : Ctr) (d : Int) : Cl := ⟨mn c.r d, mn c.l d, c.s⟩
theorem clF_ok {c : Ctr} {d : Int} (hc : c.Ok) (hd : Amt d) : (clF c d).Ok := by
  obtain ⟨h1, h2, h3, h4, h5⟩ := hc
  obtain ⟨h6, h7⟩ := hd
  have a := mn_le c.r d
  have b := mn_le c.l d
  refine ⟨?_, ?_, ?_, h4, h5⟩ <;> simp only [clF] <;> omega
theorem mul_bounds {t s : Int} (ht : Lev t) (hs : 1 ≤ s ∧ s ≤ 1000) : 0 ≤ t * s ∧ t * s ≤ 1073741825000 := by
  obtain ⟨h1, h2⟩ := ht
  refine ⟨Int.mul_nonneg h1 (by omega), ?_⟩
  have : t * s ≤ 1073741825 * 1000 := Int.mul_le_mul h2 hs.2 (by omega) (by omega)
  omega

theorem right_app {c : Ctr} {σ : H} : App Try.prog (.func 18) #[] #[.agg (ctrV c).toArray] σ fun v σ' => σ' = σ ∧ v = .bool (decide c.Ok) := by
  refine App.forget (App.of_sem mixed Try.func18 t18 k18 r18 (Nat.le_of_ble_eq_true rfl) ?_)
  rw [← ap_nil (σ := σ)]
  unfold s18
  have fin : ∀ b : Bool, (b = true ↔ c.Ok) → flat (.bool b) = true ∧ Value.bool b = .bool (decide c.Ok) := fun b h => ⟨rfl, congrArg Value.bool (by rw [Bool.eq_iff_iff]; simpa using h)⟩
  have h1 : decide (0 ≤ c.r) = true ∨ decide (0 ≤ c.r) = false := by cases decide (0 ≤ c.r) <;> simp
  have h2 : decide (c.r ≤ c.l) = true ∨ decide (c.r ≤ c.l) = false := by cases decide (c.r ≤ c.l) <;> simp
  have h3 : decide (c.l ≤ 1073741824) = true ∨ decide (c.l ≤ 1073741824) = false := by cases decide (c.l ≤ 1073741824) <;> simp
  have h4 : decide (1 ≤ c.s) = true ∨ decide (1 ≤ c.s) = false := by cases decide (1 ≤ c.s) <;> simp
  rcases h1 with h1 | h1
  case inr =>
    simp only [↓eD0, ↓eD1, eC0, eC1, eC2, eC3, eC4, eC5, eC6, wantedE, ↓reduceIte, Nat.reduceEqDiff, Option.map_some, Option.map_none, reread, List.nil_append, List.cons_append, List.map_cons, List.map_nil, List.length_nil, List.length_cons, Value.cells, List.getElem?_cons_zero, List.getElem?_cons_succ, outE, lks, lkR, rdV, neg1, evs, opt, Nat.reduceAdd, Nat.reduceMul, and_self, reduceCtorEq, List.size_toArray, List.all_cons, List.all_nil, Value.oneCell', List.set_cons_zero, List.set_cons_succ, sets, fillL, Nat.reduceLeDiff, List.drop_succ_cons, List.drop_zero, List.take_succ_cons, List.take_zero, List.toList_toArray, argsE, Array.append_empty, Array.empty_append, List.getElem?_toArray, Int.reduceLT, Int.reduceLE, Int.reduceToNat, Int.reduceEq, Nat.reduceLT, ctrV, h1, undef_eq]
    exact ⟨.ap, fin _ (by simp [Ctr.Ok]; simp at h1; omega)⟩
  rcases h2 with h2 | h2
  case inr =>
    simp only [↓eD0, ↓eD1, eC0, eC1, eC2, eC3, eC4, eC5, eC6, wantedE, ↓reduceIte, Nat.reduceEqDiff, Option.map_some, Option.map_none, reread, List.nil_append, List.cons_append, List.map_cons, List.map_nil, List.length_nil, List.length_cons, Value.cells, List.getElem?_cons_zero, List.getElem?_cons_succ, outE, lks, lkR, rdV, neg1, evs, opt, Nat.reduceAdd, Nat.reduceMul, and_self, reduceCtorEq, List.size_toArray, List.all_cons, List.all_nil, Value.oneCell', List.set_cons_zero, List.set_cons_succ, sets, fillL, Nat.reduceLeDiff, List.drop_succ_cons, List.drop_zero, List.take_succ_cons, List.take_zero, List.toList_toArray, argsE, Array.append_empty, Array.empty_append, List.getElem?_toArray, Int.reduceLT, Int.reduceLE, Int.reduceToNat, Int.reduceEq, Nat.reduceLT, ctrV, h1, h2, undef_eq]
    exact ⟨.ap, fin _ (by simp [Ctr.Ok]; simp at h1 h2; omega)⟩
  rcases h3 with h3 | h3
  case inr =>
    simp only [↓eD0, ↓eD1, eC0, eC1, eC2, eC3, eC4, eC5, eC6, wantedE, ↓reduceIte, Nat.reduceEqDiff, Option.map_some, Option.map_none, reread, List.nil_append, List.cons_append, List.map_cons, List.map_nil, List.length_nil, List.length_cons, Value.cells, List.getElem?_cons_zero, List.getElem?_cons_succ, outE, lks, lkR, rdV, neg1, evs, opt, Nat.reduceAdd, Nat.reduceMul, and_self, reduceCtorEq, List.size_toArray, List.all_cons, List.all_nil, Value.oneCell', List.set_cons_zero, List.set_cons_succ, sets, fillL, Nat.reduceLeDiff, List.drop_succ_cons, List.drop_zero, List.take_succ_cons, List.take_zero, List.toList_toArray, argsE, Array.append_empty, Array.empty_append, List.getElem?_toArray, Int.reduceLT, Int.reduceLE, Int.reduceToNat, Int.reduceEq, Nat.reduceLT, ctrV, h1, h2, h3, undef_eq]
    exact ⟨.ap, fin _ (by simp [Ctr.Ok]; simp at h1 h2 h3; omega)⟩
  rcases h4 with h4 | h4
  case inr =>
    simp only [↓eD0, ↓eD1, eC0, eC1, eC2, eC3, eC4, eC5, eC6, wantedE, ↓reduceIte, Nat.reduceEqDiff, Option.map_some, Option.map_none, reread, List.nil_append, List.cons_append, List.map_cons, List.map_nil, List.length_nil, List.length_cons, Value.cells, List.getElem?_cons_zero, List.getElem?_cons_succ, outE, lks, lkR, rdV, neg1, evs, opt, Nat.reduceAdd, Nat.reduceMul, and_self, reduceCtorEq, List.size_toArray, List.all_cons, List.all_nil, Value.oneCell', List.set_cons_zero, List.set_cons_succ, sets, fillL, Nat.reduceLeDiff, List.drop_succ_cons, List.drop_zero, List.take_succ_cons, List.take_zero, List.toList_toArray, argsE, Array.append_empty, Array.empty_append, List.getElem?_toArray, Int.reduceLT, Int.reduceLE, Int.reduceToNat, Int.reduceEq, Nat.reduceLT, ctrV, h1, h2, h3, h4, undef_eq]
    exact ⟨.ap, fin _ (by simp [Ctr.Ok]; simp at h1 h2 h3 h4; omega)⟩
  simp only [↓eD0, ↓eD1, eC0, eC1, eC2, eC3, eC4, eC5, eC6, wantedE, ↓reduceIte, Nat.reduceEqDiff, Option.map_some, Option.map_none, reread, List.nil_append, List.cons_append, List.map_cons, List.map_nil, List.length_nil, List.length_cons, Value.cells, List.getElem?_cons_zero, List.getElem?_cons_succ, outE, lks, lkR, rdV, neg1, evs, opt, Nat.reduceAdd, Nat.reduceMul, and_self, reduceCtorEq, List.size_toArray, List.all_cons, List.all_nil, Value.oneCell', List.set_cons_zero, List.set_cons_succ, sets, fillL, Nat.reduceLeDiff, List.drop_succ_cons, List.drop_zero, List.take_succ_cons, List.take_zero, List.toList_toArray, argsE, Array.append_empty, Array.empty_append, List.getElem?_toArray, Int.reduceLT, Int.reduceLE, Int.reduceToNat, Int.reduceEq, Nat.reduceLT, ctrV, h1, h2, h3, h4, undef_eq]
  exact ⟨.ap, fin _ (by simp [Ctr.Ok]; simp at h1 h2 h3 h4; omega)⟩

theorem rright_app {c : Ctr} {σ : H} : App Try.prog (.func 19) #[] #[.agg (ctrV c).toArray] σ fun v σ' => σ' = σ ∧ v = .bool (decide c.Ok) := by
  refine App.forget (App.of_sem mixed Try.func19 t19 k19 r19 (Nat.le_of_ble_eq_true rfl) ?_)
  rw [← ap_nil (σ := σ)]
  unfold s19
  have fin : ∀ b : Bool, (b = true ↔ c.Ok) → flat (.bool b) = true ∧ Value.bool b = .bool (decide c.Ok) := fun b h => ⟨rfl, congrArg Value.bool (by rw [Bool.eq_iff_iff]; simpa using h)⟩
  have h1 : decide (0 ≤ c.r) = true ∨ decide (0 ≤ c.r) = false := by cases decide (0 ≤ c.r) <;> simp
  have h2 : decide (c.r ≤ c.l) = true ∨ decide (c.r ≤ c.l) = false := by cases decide (c.r ≤ c.l) <;> simp
  have h3 : decide (c.l ≤ 1073741824) = true ∨ decide (c.l ≤ 1073741824) = false := by cases decide (c.l ≤ 1073741824) <;> simp
  have h4 : decide (1 ≤ c.s) = true ∨ decide (1 ≤ c.s) = false := by cases decide (1 ≤ c.s) <;> simp
  rcases h1 with h1 | h1
  case inr =>
    simp only [↓eD0, ↓eD1, eC0, eC1, eC2, eC3, eC4, eC5, eC6, wantedE, ↓reduceIte, Nat.reduceEqDiff, Option.map_some, Option.map_none, reread, List.nil_append, List.cons_append, List.map_cons, List.map_nil, List.length_nil, List.length_cons, Value.cells, List.getElem?_cons_zero, List.getElem?_cons_succ, outE, lks, lkR, rdV, neg1, evs, opt, Nat.reduceAdd, Nat.reduceMul, and_self, reduceCtorEq, List.size_toArray, List.all_cons, List.all_nil, Value.oneCell', List.set_cons_zero, List.set_cons_succ, sets, fillL, Nat.reduceLeDiff, List.drop_succ_cons, List.drop_zero, List.take_succ_cons, List.take_zero, List.toList_toArray, argsE, Array.append_empty, Array.empty_append, List.getElem?_toArray, Int.reduceLT, Int.reduceLE, Int.reduceToNat, Int.reduceEq, Nat.reduceLT, ctrV, h1, undef_eq]
    exact ⟨.ap, fin _ (by simp [Ctr.Ok]; simp at h1; omega)⟩
  rcases h2 with h2 | h2
  case inr =>
    simp only [↓eD0, ↓eD1, eC0, eC1, eC2, eC3, eC4, eC5, eC6, wantedE, ↓reduceIte, Nat.reduceEqDiff, Option.map_some, Option.map_none, reread, List.nil_append, List.cons_append, List.map_cons, List.map_nil, List.length_nil, List.length_cons, Value.cells, List.getElem?_cons_zero, List.getElem?_cons_succ, outE, lks, lkR, rdV, neg1, evs, opt, Nat.reduceAdd, Nat.reduceMul, and_self, reduceCtorEq, List.size_toArray, List.all_cons, List.all_nil, Value.oneCell', List.set_cons_zero, List.set_cons_succ, sets, fillL, Nat.reduceLeDiff, List.drop_succ_cons, List.drop_zero, List.take_succ_cons, List.take_zero, List.toList_toArray, argsE, Array.append_empty, Array.empty_append, List.getElem?_toArray, Int.reduceLT, Int.reduceLE, Int.reduceToNat, Int.reduceEq, Nat.reduceLT, ctrV, h1, h2, undef_eq]
    exact ⟨.ap, fin _ (by simp [Ctr.Ok]; simp at h1 h2; omega)⟩
  rcases h3 with h3 | h3
  case inr =>
    simp only [↓eD0, ↓eD1, eC0, eC1, eC2, eC3, eC4, eC5, eC6, wantedE, ↓reduceIte, Nat.reduceEqDiff, Option.map_some, Option.map_none, reread, List.nil_append, List.cons_append, List.map_cons, List.map_nil, List.length_nil, List.length_cons, Value.cells, List.getElem?_cons_zero, List.getElem?_cons_succ, outE, lks, lkR, rdV, neg1, evs, opt, Nat.reduceAdd, Nat.reduceMul, and_self, reduceCtorEq, List.size_toArray, List.all_cons, List.all_nil, Value.oneCell', List.set_cons_zero, List.set_cons_succ, sets, fillL, Nat.reduceLeDiff, List.drop_succ_cons, List.drop_zero, List.take_succ_cons, List.take_zero, List.toList_toArray, argsE, Array.append_empty, Array.empty_append, List.getElem?_toArray, Int.reduceLT, Int.reduceLE, Int.reduceToNat, Int.reduceEq, Nat.reduceLT, ctrV, h1, h2, h3, undef_eq]
    exact ⟨.ap, fin _ (by simp [Ctr.Ok]; simp at h1 h2 h3; omega)⟩
  rcases h4 with h4 | h4
  case inr =>
    simp only [↓eD0, ↓eD1, eC0, eC1, eC2, eC3, eC4, eC5, eC6, wantedE, ↓reduceIte, Nat.reduceEqDiff, Option.map_some, Option.map_none, reread, List.nil_append, List.cons_append, List.map_cons, List.map_nil, List.length_nil, List.length_cons, Value.cells, List.getElem?_cons_zero, List.getElem?_cons_succ, outE, lks, lkR, rdV, neg1, evs, opt, Nat.reduceAdd, Nat.reduceMul, and_self, reduceCtorEq, List.size_toArray, List.all_cons, List.all_nil, Value.oneCell', List.set_cons_zero, List.set_cons_succ, sets, fillL, Nat.reduceLeDiff, List.drop_succ_cons, List.drop_zero, List.take_succ_cons, List.take_zero, List.toList_toArray, argsE, Array.append_empty, Array.empty_append, List.getElem?_toArray, Int.reduceLT, Int.reduceLE, Int.reduceToNat, Int.reduceEq, Nat.reduceLT, ctrV, h1, h2, h3, h4, undef_eq]
    exact ⟨.ap, fin _ (by simp [Ctr.Ok]; simp at h1 h2 h3 h4; omega)⟩
  simp only [↓eD0, ↓eD1, eC0, eC1, eC2, eC3, eC4, eC5, eC6, wantedE, ↓reduceIte, Nat.reduceEqDiff, Option.map_some, Option.map_none, reread, List.nil_append, List.cons_append, List.map_cons, List.map_nil, List.length_nil, List.length_cons, Value.cells, List.getElem?_cons_zero, List.getElem?_cons_succ, outE, lks, lkR, rdV, neg1, evs, opt, Nat.reduceAdd, Nat.reduceMul, and_self, reduceCtorEq, List.size_toArray, List.all_cons, List.all_nil, Value.oneCell', List.set_cons_zero, List.set_cons_succ, sets, fillL, Nat.reduceLeDiff, List.drop_succ_cons, List.drop_zero, List.take_succ_cons, List.take_zero, List.toList_toArray, argsE, Array.append_empty, Array.empty_append, List.getElem?_toArray, Int.reduceLT, Int.reduceLE, Int.reduceToNat, Int.reduceEq, Nat.reduceLT, ctrV, h1, h2, h3, h4, undef_eq]
  exact ⟨.ap, fin _ (by simp [Ctr.Ok]; simp at h1 h2 h3 h4; omega)⟩

theorem amount_app {n : Int} {σ : H} : App Try.prog (.func 31) #[] #[.int .i64 n] σ fun v σ' => σ' = σ ∧ v = .bool (decide (Amt n)) := by
  refine App.forget (App.of_sem mixed Try.func31 t31 k31 r31 (Nat.le_of_ble_eq_true rfl) ?_)
  rw [← ap_nil (σ := σ)]
  unfold s31
  have fin : ∀ b : Bool, (b = true ↔ Amt n) → flat (.bool b) = true ∧ Value.bool b = .bool (decide (Amt n)) := fun b h => ⟨rfl, congrArg Value.bool (by rw [Bool.eq_iff_iff]; simpa using h)⟩
  have h1 : decide (0 ≤ n) = true ∨ decide (0 ≤ n) = false := by cases decide (0 ≤ n) <;> simp
  rcases h1 with h1 | h1
  · simp only [↓eD0, ↓eD1, eC0, eC1, eC2, eC3, eC4, eC5, eC6, wantedE, ↓reduceIte, Nat.reduceEqDiff, Option.map_some, Option.map_none, reread, List.nil_append, List.cons_append, List.map_cons, List.map_nil, List.length_nil, List.length_cons, Value.cells, List.getElem?_cons_zero, List.getElem?_cons_succ, outE, lks, lkR, rdV, neg1, evs, opt, Nat.reduceAdd, Nat.reduceMul, and_self, reduceCtorEq, List.size_toArray, List.all_cons, List.all_nil, Value.oneCell', List.set_cons_zero, List.set_cons_succ, sets, fillL, Nat.reduceLeDiff, List.drop_succ_cons, List.drop_zero, List.take_succ_cons, List.take_zero, List.toList_toArray, argsE, Array.append_empty, Array.empty_append, List.getElem?_toArray, Int.reduceLT, Int.reduceLE, Int.reduceToNat, Int.reduceEq, Nat.reduceLT, h1, undef_eq]
    exact ⟨.ap, fin _ (by simp [Amt]; simp at h1; omega)⟩
  · simp only [↓eD0, ↓eD1, eC0, eC1, eC2, eC3, eC4, eC5, eC6, wantedE, ↓reduceIte, Nat.reduceEqDiff, Option.map_some, Option.map_none, reread, List.nil_append, List.cons_append, List.map_cons, List.map_nil, List.length_nil, List.length_cons, Value.cells, List.getElem?_cons_zero, List.getElem?_cons_succ, outE, lks, lkR, rdV, neg1, evs, opt, Nat.reduceAdd, Nat.reduceMul, and_self, reduceCtorEq, List.size_toArray, List.all_cons, List.all_nil, Value.oneCell', List.set_cons_zero, List.set_cons_succ, sets, fillL, Nat.reduceLeDiff, List.drop_succ_cons, List.drop_zero, List.take_succ_cons, List.take_zero, List.toList_toArray, argsE, Array.append_empty, Array.empty_append, List.getElem?_toArray, Int.reduceLT, Int.reduceLE, Int.reduceToNat, Int.reduceEq, Nat.reduceLT, h1, undef_eq]
    exact ⟨.ap, fin _ (by simp [Amt]; simp at h1; omega)⟩

theorem top_app {c : Ctr} {d : Int} {σ : H} : App Try.prog (.func 48) #[] #[.agg (ctrV c).toArray, .int .i64 d] σ fun v σ' => σ' = σ ∧ v = .int .i64 (mn c.l d) := by
  refine App.forget (App.of_sem mixed Try.func48 t48 k48 r48 (Nat.le_of_ble_eq_true rfl) ?_)
  rw [← ap_nil (σ := σ)]
  unfold s48
  simp only [↓eD0, ↓eD1, eC0, eC1, eC2, eC3, eC4, eC5, eC6, wantedE, ↓reduceIte, Nat.reduceEqDiff, Option.map_some, Option.map_none, reread, List.nil_append, List.cons_append, List.map_cons, List.map_nil, List.length_nil, List.length_cons, Value.cells, List.getElem?_cons_zero, List.getElem?_cons_succ, outE, lks, lkR, rdV, neg1, evs, opt, Nat.reduceAdd, Nat.reduceMul, and_self, reduceCtorEq, List.size_toArray, List.all_cons, List.all_nil, Value.oneCell', List.set_cons_zero, List.set_cons_succ, sets, fillL, Nat.reduceLeDiff, List.drop_succ_cons, List.drop_zero, List.take_succ_cons, List.take_zero, List.toList_toArray, argsE, Array.append_empty, Array.empty_append, List.getElem?_toArray, Int.reduceLT, Int.reduceLE, Int.reduceToNat, Int.reduceEq, Nat.reduceLT, ctrV, mn_eq]
  exact ⟨.ap, by simp [flat]⟩
theorem base_app {c : Ctr} {d : Int} {σ : H} : App Try.prog (.func 49) #[] #[.agg (ctrV c).toArray, .int .i64 d] σ fun v σ' => σ' = σ ∧ v = .int .i64 (mn c.r d) := by
  refine App.forget (App.of_sem mixed Try.func49 t49 k49 r49 (Nat.le_of_ble_eq_true rfl) ?_)
  rw [← ap_nil (σ := σ)]
  unfold s49
  simp only [↓eD0, ↓eD1, eC0, eC1, eC2, eC3, eC4, eC5, eC6, wantedE, ↓reduceIte, Nat.reduceEqDiff, Option.map_some, Option.map_none, reread, List.nil_append, List.cons_append, List.map_cons, List.map_nil, List.length_nil, List.length_cons, Value.cells, List.getElem?_cons_zero, List.getElem?_cons_succ, outE, lks, lkR, rdV, neg1, evs, opt, Nat.reduceAdd, Nat.reduceMul, and_self, reduceCtorEq, List.size_toArray, List.all_cons, List.all_nil, Value.oneCell', List.set_cons_zero, List.set_cons_succ, sets, fillL, Nat.reduceLeDiff, List.drop_succ_cons, List.drop_zero, List.take_succ_cons, List.take_zero, List.toList_toArray, argsE, Array.append_empty, Array.empty_append, List.getElem?_toArray, Int.reduceLT, Int.reduceLE, Int.reduceToNat, Int.reduceEq, Nat.reduceLT, ctrV, mn_eq]
  exact ⟨.ap, by simp [flat]⟩
theorem clip_app {n : Int} {σ : H} : App Try.prog (.func 50) #[] #[.int .i64 n] σ fun v σ' => σ' = σ ∧ v = .int .i64 (mx 0 (mn n 1073741824)) := by
  refine App.forget (App.of_sem mixed Try.func50 t50 k50 r50 (Nat.le_of_ble_eq_true rfl) ?_)
  rw [← ap_nil (σ := σ)]
  unfold s50
  simp only [↓eD0, ↓eD1, eC0, eC1, eC2, eC3, eC4, eC5, eC6, wantedE, ↓reduceIte, Nat.reduceEqDiff, Option.map_some, Option.map_none, reread, List.nil_append, List.cons_append, List.map_cons, List.map_nil, List.length_nil, List.length_cons, Value.cells, List.getElem?_cons_zero, List.getElem?_cons_succ, outE, lks, lkR, rdV, neg1, evs, opt, Nat.reduceAdd, Nat.reduceMul, and_self, reduceCtorEq, List.size_toArray, List.all_cons, List.all_nil, Value.oneCell', List.set_cons_zero, List.set_cons_succ, sets, fillL, Nat.reduceLeDiff, List.drop_succ_cons, List.drop_zero, List.take_succ_cons, List.take_zero, List.toList_toArray, argsE, Array.append_empty, Array.empty_append, List.getElem?_toArray, Int.reduceLT, Int.reduceLE, Int.reduceToNat, Int.reduceEq, Nat.reduceLT, mn_eq, mx_eq]
  exact ⟨.ap, by simp [flat]⟩
theorem eclip_app {n : Int} {σ : H} : App Try.prog (.func 45) #[] #[.int .i64 n] σ fun v σ' => σ' = σ ∧ v = .int .i64 (mx 0 (mn n 1073741824)) := by
  refine App.forget (App.of_sem mixed Try.func45 t45 k45 r45 (Nat.le_of_ble_eq_true rfl) ?_)
  rw [← ap_nil (σ := σ)]
  unfold s45
  simp only [↓eD0, ↓eD1, eC0, eC1, eC2, eC3, eC4, eC5, eC6, wantedE, ↓reduceIte, Nat.reduceEqDiff, Option.map_some, Option.map_none, reread, List.nil_append, List.cons_append, List.map_cons, List.map_nil, List.length_nil, List.length_cons, Value.cells, List.getElem?_cons_zero, List.getElem?_cons_succ, outE, lks, lkR, rdV, neg1, evs, opt, Nat.reduceAdd, Nat.reduceMul, and_self, reduceCtorEq, List.size_toArray, List.all_cons, List.all_nil, Value.oneCell', List.set_cons_zero, List.set_cons_succ, sets, fillL, Nat.reduceLeDiff, List.drop_succ_cons, List.drop_zero, List.take_succ_cons, List.take_zero, List.toList_toArray, argsE, Array.append_empty, Array.empty_append, List.getElem?_toArray, Int.reduceLT, Int.reduceLE, Int.reduceToNat, Int.reduceEq, Nat.reduceLT, mn_eq, mx_eq]
  exact ⟨.ap, by simp [flat]⟩

/-- What a claim has at a level. -/
theorem cat_app {c : Cl} {t : Int} {σ : H} (hc : c.Ok) (ht : Lev t) : App Try.prog (.func 35) #[] #[.agg (clV c).toArray, .int .i64 t] σ fun v σ' => σ' = σ ∧ v = .int .i64 (atC c t) := by
  refine App.forget (App.of_sem mixed Try.func35 t35 k35 r35 (Nat.le_of_ble_eq_true rfl) ?_)
  rw [← ap_nil (σ := σ)]
  have hm := mul_bounds ht ⟨hc.2.2.2.1, hc.2.2.2.2⟩
  obtain ⟨h1, h2, h3, _, _⟩ := hc
  have w1 : IntKind.wrap .i64 (t * c.s) = t * c.s := wrap64 (by omega) (by omega)
  have w2 : IntKind.wrap .i64 (c.b + t * c.s) = c.b + t * c.s := wrap64 (by omega) (by omega)
  unfold s35
  simp only [↓eD0, ↓eD1, eC0, eC1, eC2, eC3, eC4, eC5, eC6, wantedE, ↓reduceIte, Nat.reduceEqDiff, Option.map_some, Option.map_none, reread, List.nil_append, List.cons_append, List.map_cons, List.map_nil, List.length_nil, List.length_cons, Value.cells, List.getElem?_cons_zero, List.getElem?_cons_succ, outE, lks, lkR, rdV, neg1, evs, opt, Nat.reduceAdd, Nat.reduceMul, and_self, reduceCtorEq, List.size_toArray, List.all_cons, List.all_nil, Value.oneCell', List.set_cons_zero, List.set_cons_succ, sets, fillL, Nat.reduceLeDiff, List.drop_succ_cons, List.drop_zero, List.take_succ_cons, List.take_zero, List.toList_toArray, argsE, Array.append_empty, Array.empty_append, List.getElem?_toArray, Int.reduceLT, Int.reduceLE, Int.reduceToNat, Int.reduceEq, Nat.reduceLT, clV, mn_eq, w1, w2]
  exact ⟨.ap, by simp [flat, atC]⟩
theorem rat_app {c : Ctr} {d t : Int} {σ : H} (hc : c.Ok) (hd : Amt d) (ht : Lev t) : App Try.prog (.func 44) #[] #[.agg (ctrV c).toArray, .int .i64 d, .int .i64 t] σ fun v σ' => σ' = σ ∧ v = .int .i64 (atC (clF c d) t) := by
  refine App.forget (App.of_sem mixed Try.func44 t44 k44 r44 (Nat.le_of_ble_eq_true rfl) ?_)
  rw [← ap_nil (σ := σ)]
  have hm := mul_bounds ht ⟨hc.2.2.2.1, hc.2.2.2.2⟩
  have ha := mn_le c.r d
  obtain ⟨h1, h2, h3, _, _⟩ := hc
  obtain ⟨h4, h5⟩ := hd
  have w1 : IntKind.wrap .i64 (t * c.s) = t * c.s := wrap64 (by omega) (by omega)
  have w2 : IntKind.wrap .i64 (mn c.r d + t * c.s) = mn c.r d + t * c.s := wrap64 (by omega) (by omega)
  have e1 : ∀ c : Ctr, (Value.agg #[.int .i64 c.r, .int .i64 c.l, .int .i64 c.s]) = .agg (ctrV c).toArray := fun _ => rfl
  unfold s44
  simp only [↓eD0, ↓eD1, eC0, eC1, eC2, eC3, eC4, eC5, eC6, wantedE, ↓reduceIte, Nat.reduceEqDiff, Option.map_some, Option.map_none, reread, List.nil_append, List.cons_append, List.map_cons, List.map_nil, List.length_nil, List.length_cons, Value.cells, List.getElem?_cons_zero, List.getElem?_cons_succ, outE, lks, lkR, rdV, neg1, evs, opt, Nat.reduceAdd, Nat.reduceMul, and_self, reduceCtorEq, List.size_toArray, List.all_cons, List.all_nil, Value.oneCell', List.set_cons_zero, List.set_cons_succ, sets, fillL, Nat.reduceLeDiff, List.drop_succ_cons, List.drop_zero, List.take_succ_cons, List.take_zero, List.toList_toArray, argsE, Array.append_empty, Array.empty_append, List.getElem?_toArray, Int.reduceLT, Int.reduceLE, Int.reduceToNat, Int.reduceEq, Nat.reduceLT, ctrV, w1]
  refine appK_of (top_app (c := c)) ?_
  rintro _ _ ⟨e2, rfl⟩
  rw [e2]
  clear e2
  simp only [↓eD0, ↓eD1, eC0, eC1, eC2, eC3, eC4, eC5, eC6, wantedE, ↓reduceIte, Nat.reduceEqDiff, Option.map_some, Option.map_none, reread, List.nil_append, List.cons_append, List.map_cons, List.map_nil, List.length_nil, List.length_cons, Value.cells, List.getElem?_cons_zero, List.getElem?_cons_succ, outE, lks, lkR, rdV, neg1, evs, opt, Nat.reduceAdd, Nat.reduceMul, and_self, reduceCtorEq, List.size_toArray, List.all_cons, List.all_nil, Value.oneCell', List.set_cons_zero, List.set_cons_succ, sets, fillL, Nat.reduceLeDiff, List.drop_succ_cons, List.drop_zero, List.take_succ_cons, List.take_zero, List.toList_toArray, argsE, Array.append_empty, Array.empty_append, List.getElem?_toArray, Int.reduceLT, Int.reduceLE, Int.reduceToNat, Int.reduceEq, Nat.reduceLT]
  refine appK_of (base_app (c := c)) ?_
  rintro _ _ ⟨e2, rfl⟩
  rw [e2]
  clear e2
  simp only [↓eD0, ↓eD1, eC0, eC1, eC2, eC3, eC4, eC5, eC6, wantedE, ↓reduceIte, Nat.reduceEqDiff, Option.map_some, Option.map_none, reread, List.nil_append, List.cons_append, List.map_cons, List.map_nil, List.length_nil, List.length_cons, Value.cells, List.getElem?_cons_zero, List.getElem?_cons_succ, outE, lks, lkR, rdV, neg1, evs, opt, Nat.reduceAdd, Nat.reduceMul, and_self, reduceCtorEq, List.size_toArray, List.all_cons, List.all_nil, Value.oneCell', List.set_cons_zero, List.set_cons_succ, sets, fillL, Nat.reduceLeDiff, List.drop_succ_cons, List.drop_zero, List.take_succ_cons, List.take_zero, List.toList_toArray, argsE, Array.append_empty, Array.empty_append, List.getElem?_toArray, Int.reduceLT, Int.reduceLE, Int.reduceToNat, Int.reduceEq, Nat.reduceLT, w2, mn_eq]
  exact ⟨.ap, by simp [flat, atC, clF]⟩
/-- In the function of a total. -/
theorem catK_app {c : Cl} {t : Int} {σ : H} {b o : Nat} (hc : c.Ok) (ht : Lev t) (hr : rd1 σ ⟨b, o, none⟩ = some (.int .i64 t)) : App Try.prog (.func 34) #[.pointer (some ⟨b, o, none⟩)] #[.agg (clV c).toArray] σ fun v σ' => σ' = σ ∧ v = .int .i64 (atC c t) := by
  refine App.forget (App.of_sem mixed Try.func34 t34 k34 r34 (Nat.le_of_ble_eq_true rfl) ?_)
  have hr' : ∀ L, rd1 (ap σ L) ⟨b, o, none⟩ = some (.int .i64 t) := fun L => rd1_old hr
  rw [← ap_nil (σ := σ)]
  unfold s34
  simp only [↓eD0, ↓eD1, eC0, eC1, eC2, eC3, eC4, eC5, eC6, wantedE, ↓reduceIte, Nat.reduceEqDiff, Option.map_some, Option.map_none, reread, List.nil_append, List.cons_append, List.map_cons, List.map_nil, List.length_nil, List.length_cons, Value.cells, List.getElem?_cons_zero, List.getElem?_cons_succ, outE, lks, lkR, rdV, neg1, evs, opt, Nat.reduceAdd, Nat.reduceMul, and_self, reduceCtorEq, List.size_toArray, List.all_cons, List.all_nil, Value.oneCell', List.set_cons_zero, List.set_cons_succ, sets, fillL, Nat.reduceLeDiff, List.drop_succ_cons, List.drop_zero, List.take_succ_cons, List.take_zero, List.toList_toArray, argsE, Array.append_empty, Array.empty_append, List.getElem?_toArray, Int.reduceLT, Int.reduceLE, Int.reduceToNat, Int.reduceEq, Nat.reduceLT, clV, hr']
  refine appK_of (cat_app (c := c) hc ht) ?_
  rintro _ _ ⟨e2, rfl⟩
  rw [e2]
  clear e2
  simp only [↓eD0, ↓eD1, eC0, eC1, eC2, eC3, eC4, eC5, eC6, wantedE, ↓reduceIte, Nat.reduceEqDiff, Option.map_some, Option.map_none, reread, List.nil_append, List.cons_append, List.map_cons, List.map_nil, List.length_nil, List.length_cons, Value.cells, List.getElem?_cons_zero, List.getElem?_cons_succ, outE, lks, lkR, rdV, neg1, evs, opt, Nat.reduceAdd, Nat.reduceMul, and_self, reduceCtorEq, List.size_toArray, List.all_cons, List.all_nil, Value.oneCell', List.set_cons_zero, List.set_cons_succ, sets, fillL, Nat.reduceLeDiff, List.drop_succ_cons, List.drop_zero, List.take_succ_cons, List.take_zero, List.toList_toArray, argsE, Array.append_empty, Array.empty_append, List.getElem?_toArray, Int.reduceLT, Int.reduceLE, Int.reduceToNat, Int.reduceEq, Nat.reduceLT]
  exact ⟨.ap, by simp [flat]⟩
end Go.Proofs.Ytimcgoghjebalaa

set_option linter.unusedSimpArgs false
set_option linter.unusedVariables false
set_option maxRecDepth 10000
set_option maxHeartbeats 1000000
namespace Go.Proofs.Ytimcgoghjebalaa
open Go Go.Cn Go.RowKit

/-! ### Levels, in plain Lean -/
def sumC : List Cl → Int → Int
  | [], _ => 0
  | c :: r, t => atC c t + sumC r t
theorem sumC_app {a b : List Cl} {t : Int} : sumC (a ++ b) t = sumC a t + sumC b t := by
  induction a with
  | nil => simp [sumC]
  | cons c a ih => rw [List.cons_append, sumC, sumC, ih]; omega
theorem sumC_take {cs : List Cl} {t : Int} {i : Nat} (h : i < cs.length) : sumC (cs.take (i + 1)) t = sumC (cs.take i) t + atC cs[i] t := by
  rw [List.take_succ_eq_append_getElem h, sumC_app, sumC, sumC]; omega
def AllOk (cs : List Cl) : Prop := ∀ c ∈ cs, c.Ok
theorem atC_bounds {c : Cl} {t : Int} (hc : c.Ok) (ht : 0 ≤ t) : 0 ≤ atC c t ∧ atC c t ≤ c.t ∧ atC c t ≤ 1073741824 ∧ c.b ≤ atC c t ∧ atC c t ≤ c.b + t * c.s := by
  have h := mn_le c.t (c.b + t * c.s)
  have : 0 ≤ t * c.s := Int.mul_nonneg ht (by have := hc.2.2.2.1; omega)
  obtain ⟨h1, h2, h3, _, _⟩ := hc
  unfold atC
  omega
theorem atC_mono {c : Cl} {t u : Int} (hc : c.Ok) (h : t ≤ u) : atC c t ≤ atC c u := by
  have h1 := mn_le c.t (c.b + t * c.s)
  have h2 := mn_le c.t (c.b + u * c.s)
  have : t * c.s ≤ u * c.s := Int.mul_le_mul_of_nonneg_right h (by have := hc.2.2.2.1; omega)
  unfold atC
  omega
theorem sumC_bounds : ∀ {cs : List Cl} {t : Int}, AllOk cs → 0 ≤ t → 0 ≤ sumC cs t ∧ sumC cs t ≤ (cs.length : Int) * 1073741824
  | [], _, _, _ => by simp [sumC]
  | c :: r, t, h, ht => by
    have h1 := atC_bounds (h c (by simp)) ht
    have h2 := sumC_bounds (cs := r) (fun x hx => h x (by simp [hx])) ht
    rw [sumC, List.length_cons]
    omega
theorem sumC_mono : ∀ {cs : List Cl} {t u : Int}, AllOk cs → t ≤ u → sumC cs t ≤ sumC cs u
  | [], _, _, _, _ => by simp [sumC]
  | c :: r, t, u, h, ht => by
    have h1 := atC_mono (h c (by simp)) ht
    have h2 := sumC_mono (cs := r) (fun x hx => h x (by simp [hx])) ht
    rw [sumC, sumC]
    omega

/-- The greatest level that counts. -/
structure Level (cs : List Cl) (cap L : Int) : Prop where
  h0 : 0 ≤ L
  hM : L ≤ 1073741824
  le : sumC cs L ≤ cap
  gt : L = 1073741824 ∨ cap < sumC cs (L + 1)

theorem Level.lt {cs : List Cl} {cap L t : Int} (h : Level cs cap L) (ok : AllOk cs) (h0 : 0 ≤ t) (h1 : t < 1073741824) : cap < sumC cs (t + 1) ↔ L ≤ t := by
  obtain ⟨g0, gM, gl, gg⟩ := h
  constructor
  · intro hh
    by_cases hlt : t < L
    · have := sumC_mono (cs := cs) (t := t + 1) (u := L) ok (by omega); omega
    · omega
  · intro hh
    have := sumC_mono (cs := cs) (t := L + 1) (u := t + 1) ok (by omega)
    omega
theorem Level.le' {cs : List Cl} {cap L t : Int} (h : Level cs cap L) (ok : AllOk cs) (h0 : 0 ≤ t) (h1 : t ≤ 1073741824) : sumC cs t ≤ cap ↔ t ≤ L := by
  obtain ⟨g0, gM, gl, gg⟩ := h
  constructor
  · intro hh
    by_cases hlt : L < t
    · have := sumC_mono (cs := cs) (t := L + 1) (u := t) ok (by omega); omega
    · omega
  · intro hh
    have := sumC_mono (cs := cs) (t := t) (u := L) ok hh
    omega

def lvl (cs : List Cl) (cap : Int) : Nat → Int → Int → Int
  | 0, lo, _ => lo
  | f + 1, lo, hi => if lo < hi then (if sumC cs ((lo + hi + 1) / 2) ≤ cap then lvl cs cap f ((lo + hi + 1) / 2) hi else lvl cs cap f lo ((lo + hi + 1) / 2 - 1)) else lo
theorem lvl_ok {cs : List Cl} {cap : Int} : ∀ (f : Nat) (lo hi : Int), 0 ≤ lo → lo ≤ hi → hi ≤ 1073741824 → sumC cs lo ≤ cap → (hi = 1073741824 ∨ cap < sumC cs (hi + 1)) → hi - lo < 2 ^ f → Level cs cap (lvl cs cap f lo hi)
  | 0, lo, hi, h0, h1, h2, h3, h4, h5 => by
    have : lo = hi := by simp at h5; omega
    subst this
    exact ⟨h0, h2, h3, h4⟩
  | f + 1, lo, hi, h0, h1, h2, h3, h4, h5 => by
    have hp : (2:Int) ^ (f + 1) = 2 * 2 ^ f := by rw [Int.pow_succ]; omega
    rw [hp] at h5
    rw [lvl]
    split
    · rename_i hlt
      split
      · rename_i hs
        exact lvl_ok f _ hi (by omega) (by omega) h2 hs h4 (by omega)
      · rename_i hs
        refine lvl_ok f lo _ h0 (by omega) (by omega) h3 (.inr ?_) (by omega)
        rw [Int.sub_add_cancel]; omega
    · have : lo = hi := by omega
      subst this
      exact ⟨h0, h2, h3, h4⟩
def levelF (cs : List Cl) (cap : Int) : Int := lvl cs cap 31 0 1073741824
theorem level_ok {cs : List Cl} {cap : Int} (h : sumC cs 0 ≤ cap) : Level cs cap (levelF cs cap) :=
  lvl_ok 31 0 1073741824 (by omega) (by omega) (by omega) h (.inl rfl) (by decide)

/-- What is divided. -/
def fillG (L : Int) : List Cl → Int → List Int
  | [], _ => []
  | c :: r, left => (atC c L + mn left (atC c (L + 1) - atC c L)) :: fillG L r (left - mn left (atC c (L + 1) - atC c L))
def fillC (cs : List Cl) (cap : Int) : List Int := fillG (levelF cs cap) cs (cap - sumC cs (levelF cs cap))
def claimsF (l : List Ctr) (ds : List Int) : List Cl := List.zipWith clF l ds
def intV (n : Int) : List Value := [.int .i64 n]

/-! ### Walks -/

theorem total_app {σ : H} {cs : List Cl} {sl : Value} {g : Nat} {cp : Array Value} {t : Int} (hr : Row σ 3 sl (cs.map clV)) (ok : AllOk cs) (hlen : cs.length ≤ 100000) (ht : Lev t)
    (hf : ∀ (c : Cl) (τ : H), c.Ok → Old σ τ → App Try.prog (.func g) cp #[.agg (clV c).toArray] τ fun v σ' => σ' = τ ∧ v = .int .i64 (atC c t)) :
    App Try.prog (.func 33) #[] #[sl, .func (.func g) #[] cp] σ fun v σ' => σ' = σ ∧ v = .int .i64 (sumC cs t) := by
  refine App.forget (App.of_sem mixed Try.func33 t33 k33 r33 (Nat.le_of_ble_eq_true rfl) ?_)
  obtain ⟨base, cap, rfl⟩ := hr.slice
  simp only [List.length_map] at hr ⊢
  unfold s33
  simp only [↓eD0, ↓eD1, eC0, eC1, eC2, eC3, eC4, eC5, eC6, wantedE, ↓reduceIte, Nat.reduceEqDiff, Option.map_some, Option.map_none, reread, List.nil_append, List.cons_append, List.map_cons, List.map_nil, List.length_nil, List.length_cons, Value.cells, List.getElem?_cons_zero, List.getElem?_cons_succ, outE, lks, lkR, rdV, neg1, evs, opt, Nat.reduceAdd, Nat.reduceMul, and_self, reduceCtorEq, List.size_toArray, List.all_cons, List.all_nil, Value.oneCell', List.set_cons_zero, List.set_cons_succ, sets, fillL, Nat.reduceLeDiff, List.drop_succ_cons, List.drop_zero, List.take_succ_cons, List.take_zero, List.toList_toArray, argsE, Array.append_empty, Array.empty_append, List.getElem?_toArray, Int.reduceLT, Int.reduceLE, Int.reduceToNat, Int.reduceEq, Nat.reduceLT]
  refine loop_for (J := fun i e τ => Old σ τ ∧ i ≤ cs.length ∧ e = [(1, .func (.func g) #[] cp), (5, .int .i64 (sumC (cs.take i) t)), (8, .slice base cs.length cap), (9, .int .i64 cs.length), (10, .int .i64 i)]) cs.length ⟨.refl, by omega, rfl⟩ ?_
  rintro i e τ hi ⟨ho, _, rfl⟩
  have e1 : ap τ [] = τ := ap_nil
  rw [← e1]
  by_cases hlt : i < cs.length
  · have dl : decide ((i:Int) < (cs.length : Int)) = true := by simpa using hlt
    have hx : (cs.map clV)[i]? = some (clV cs[i]) := by simp [hlt]
    obtain ⟨b, off, rfl, h1⟩ := hr.at hx
    have h3 : ∀ l, rdN (ap τ l) ⟨b, off + i * 3, none⟩ 3 = some (clV cs[i]) := fun l => rdN_Old (ho.trans .ap) h1
    have hb : (0:Int) ≤ (i:Int) ∧ (i:Int) < (cs.length : Int) := by omega
    have hw : IntKind.wrap .i64 ((i:Int) + 1) = ((i + 1 : Nat) : Int) := by rw [wrap64 (by omega) (by omega)]; omega
    have hok := ok cs[i] (by simp)
    have st := sumC_take (t := t) hlt
    have b1 := sumC_bounds (cs := cs.take i) (t := t) (fun x hx => ok x (List.mem_of_mem_take hx)) ht.1
    have b2 := atC_bounds hok ht.1
    simp only [List.length_take] at b1
    have ws : IntKind.wrap .i64 (sumC (cs.take i) t + atC cs[i] t) = sumC (cs.take (i + 1)) t := by rw [wrap64 (by omega) (by omega), st]
    simp only [↓eD0, ↓eD1, eC0, eC1, eC2, eC3, eC4, eC5, eC6, wantedE, ↓reduceIte, Nat.reduceEqDiff, Option.map_some, Option.map_none, reread, List.nil_append, List.cons_append, List.map_cons, List.map_nil, List.length_nil, List.length_cons, Value.cells, List.getElem?_cons_zero, List.getElem?_cons_succ, outE, lks, lkR, rdV, neg1, evs, opt, Nat.reduceAdd, Nat.reduceMul, and_self, reduceCtorEq, List.size_toArray, List.all_cons, List.all_nil, Value.oneCell', List.set_cons_zero, List.set_cons_succ, sets, fillL, Nat.reduceLeDiff, List.drop_succ_cons, List.drop_zero, List.take_succ_cons, List.take_zero, List.toList_toArray, argsE, Array.append_empty, Array.empty_append, List.getElem?_toArray, Int.reduceLT, Int.reduceLE, Int.reduceToNat, Int.reduceEq, Nat.reduceLT, dl, hb, Int.toNat_natCast, h3, clV]
    refine appK_of (hf cs[i] _ hok (ho.trans .ap)) ?_
    rintro _ _ ⟨e2, rfl⟩
    rw [e2]
    clear e2
    simp only [↓eD0, ↓eD1, eC0, eC1, eC2, eC3, eC4, eC5, eC6, wantedE, ↓reduceIte, Nat.reduceEqDiff, Option.map_some, Option.map_none, reread, List.nil_append, List.cons_append, List.map_cons, List.map_nil, List.length_nil, List.length_cons, Value.cells, List.getElem?_cons_zero, List.getElem?_cons_succ, outE, lks, lkR, rdV, neg1, evs, opt, Nat.reduceAdd, Nat.reduceMul, and_self, reduceCtorEq, List.size_toArray, List.all_cons, List.all_nil, Value.oneCell', List.set_cons_zero, List.set_cons_succ, sets, fillL, Nat.reduceLeDiff, List.drop_succ_cons, List.drop_zero, List.take_succ_cons, List.take_zero, List.toList_toArray, argsE, Array.append_empty, Array.empty_append, List.getElem?_toArray, Int.reduceLT, Int.reduceLE, Int.reduceToNat, Int.reduceEq, Nat.reduceLT, hw, ws]
    exact ⟨hlt, ho.trans .ap, by omega⟩
  · have : i = cs.length := by omega
    subst this
    have dl : decide ((cs.length:Int) < (cs.length : Int)) = false := by simp
    simp only [↓eD0, ↓eD1, eC0, eC1, eC2, eC3, eC4, eC5, eC6, wantedE, ↓reduceIte, Nat.reduceEqDiff, Option.map_some, Option.map_none, reread, List.nil_append, List.cons_append, List.map_cons, List.map_nil, List.length_nil, List.length_cons, Value.cells, List.getElem?_cons_zero, List.getElem?_cons_succ, outE, lks, lkR, rdV, neg1, evs, opt, Nat.reduceAdd, Nat.reduceMul, and_self, reduceCtorEq, List.size_toArray, List.all_cons, List.all_nil, Value.oneCell', List.set_cons_zero, List.set_cons_succ, sets, fillL, Nat.reduceLeDiff, List.drop_succ_cons, List.drop_zero, List.take_succ_cons, List.take_zero, List.toList_toArray, argsE, Array.append_empty, Array.empty_append, List.getElem?_toArray, Int.reduceLT, Int.reduceLE, Int.reduceToNat, Int.reduceEq, Nat.reduceLT, dl, List.take_length]
    exact ⟨ho.trans .ap, rfl⟩
end Go.Proofs.Ytimcgoghjebalaa

set_option linter.unusedSimpArgs false
set_option linter.unusedVariables false
set_option maxRecDepth 10000
set_option maxHeartbeats 1000000
namespace Go.Proofs.Ytimcgoghjebalaa
open Go Go.Cn Go.RowKit

theorem wrapu64 {n : Int} (h1 : 0 ≤ n) (h2 : n ≤ 18446744073709551615) : IntKind.wrap .u64 n = n := by
  unfold IntKind.wrap
  simp [IntKind.signed, IntKind.bits]
  omega

theorem sum1_app {σ : H} {cs : List Cl} {sl : Value} {b o : Nat} {t : Int} (hc : rd1 σ ⟨b, o, none⟩ = some sl) (hr : Row σ 3 sl (cs.map clV)) (ok : AllOk cs) (hlen : cs.length ≤ 100000) (ht : Lev t) :
    App Try.prog (.func 32) #[.pointer (some ⟨b, o, none⟩)] #[.int .i64 t] σ fun v σ' => σ' = σ ∧ v = .int .i64 (sumC cs t) := by
  refine App.forget (App.of_sem mixed Try.func32 t32 k32 r32 (Nat.le_of_ble_eq_true rfl) ?_)
  have hc' : ∀ L, rd1 (ap σ L) ⟨b, o, none⟩ = some sl := fun L => rd1_old hc
  rw [← ap_nil (σ := σ)]
  unfold s32
  simp only [↓eD0, ↓eD1, eC0, eC1, eC2, eC3, eC4, eC5, eC6, wantedE, ↓reduceIte, Nat.reduceEqDiff, Option.map_some, Option.map_none, reread, List.nil_append, List.cons_append, List.map_cons, List.map_nil, List.length_nil, List.length_cons, Value.cells, List.getElem?_cons_zero, List.getElem?_cons_succ, outE, lks, lkR, rdV, neg1, evs, opt, Nat.reduceAdd, Nat.reduceMul, and_self, reduceCtorEq, List.size_toArray, List.all_cons, List.all_nil, Value.oneCell', List.set_cons_zero, List.set_cons_succ, sets, fillL, Nat.reduceLeDiff, List.drop_succ_cons, List.drop_zero, List.take_succ_cons, List.take_zero, List.toList_toArray, argsE, Array.append_empty, Array.empty_append, List.getElem?_toArray, Int.reduceLT, Int.reduceLE, Int.reduceToNat, Int.reduceEq, Nat.reduceLT, hc']
  refine appK_of (total_app (cs := cs) (t := t) (hr.Old .ap) ok hlen ht fun c τ hok ho => catK_app hok ht (rd1_Old ho (by rw [rd1_ap0]; rfl))) ?_
  rintro _ _ ⟨e2, rfl⟩
  rw [e2]
  clear e2
  simp only [↓eD0, ↓eD1, eC0, eC1, eC2, eC3, eC4, eC5, eC6, wantedE, ↓reduceIte, Nat.reduceEqDiff, Option.map_some, Option.map_none, reread, List.nil_append, List.cons_append, List.map_cons, List.map_nil, List.length_nil, List.length_cons, Value.cells, List.getElem?_cons_zero, List.getElem?_cons_succ, outE, lks, lkR, rdV, neg1, evs, opt, Nat.reduceAdd, Nat.reduceMul, and_self, reduceCtorEq, List.size_toArray, List.all_cons, List.all_nil, Value.oneCell', List.set_cons_zero, List.set_cons_succ, sets, fillL, Nat.reduceLeDiff, List.drop_succ_cons, List.drop_zero, List.take_succ_cons, List.take_zero, List.toList_toArray, argsE, Array.append_empty, Array.empty_append, List.getElem?_toArray, Int.reduceLT, Int.reduceLE, Int.reduceToNat, Int.reduceEq, Nat.reduceLT]
  exact ⟨.ap, by simp [flat]⟩

theorem search_app {σ : H} {n L : Int} {g : Nat} {cp : Array Value} (h0 : 0 ≤ L) (hL : L ≤ n) (hn : n ≤ 4000000000000)
    (hf : ∀ (t : Int) (τ : H), 0 ≤ t → t < n → Old σ τ → App Try.prog (.func g) cp #[.int .i64 t] τ fun v σ' => σ' = τ ∧ v = .bool (decide (L ≤ t))) :
    App Try.prog (.func 36) #[] #[.int .i64 n, .func (.func g) #[] cp] σ fun v σ' => σ' = σ ∧ v = .int .i64 L := by
  refine App.forget (App.of_sem mixed Try.func36 t36 k36 r36 (Nat.le_of_ble_eq_true rfl) ?_)
  rw [← ap_nil (σ := σ)]
  unfold s36
  simp only [↓eD0, ↓eD1, eC0, eC1, eC2, eC3, eC4, eC5, eC6, wantedE, ↓reduceIte, Nat.reduceEqDiff, Option.map_some, Option.map_none, reread, List.nil_append, List.cons_append, List.map_cons, List.map_nil, List.length_nil, List.length_cons, Value.cells, List.getElem?_cons_zero, List.getElem?_cons_succ, outE, lks, lkR, rdV, neg1, evs, opt, Nat.reduceAdd, Nat.reduceMul, and_self, reduceCtorEq, List.size_toArray, List.all_cons, List.all_nil, Value.oneCell', List.set_cons_zero, List.set_cons_succ, sets, fillL, Nat.reduceLeDiff, List.drop_succ_cons, List.drop_zero, List.take_succ_cons, List.take_zero, List.toList_toArray, argsE, Array.append_empty, Array.empty_append, List.getElem?_toArray, Int.reduceLT, Int.reduceLE, Int.reduceToNat, Int.reduceEq, Nat.reduceLT]
  refine loop_of (fun m e τ => Old σ τ ∧ ∃ lo hi : Int, e = [(1, .func (.func g) #[] cp), (5, .int .i64 lo), (6, .int .i64 hi)] ∧ 0 ≤ lo ∧ lo ≤ L ∧ L ≤ hi ∧ hi ≤ n ∧ (m : Int) = hi - lo) n.toNat ⟨.ap, 0, n, rfl, by omega, h0, hL, by omega, by omega⟩ ?_
  rintro m e τ ⟨ho, lo, hi, rfl, g1, g2, g3, g4, g5⟩
  have e1 : ap τ [] = τ := ap_nil
  rw [← e1]
  by_cases hlt : lo < hi
  · have dl : decide (lo < hi) = true := by simpa using hlt
    have w1 : IntKind.wrap .i64 (lo + hi) = lo + hi := wrap64 (by omega) (by omega)
    have w2 : IntKind.wrap .u64 (lo + hi) = lo + hi := wrapu64 (by omega) (by omega)
    have ef : Int.fdiv (lo + hi) (2 ^ (min (1:Int).toNat (IntKind.bits .u64))) = (lo + hi) / 2 := by
      show Int.fdiv (lo + hi) 2 = _
      rw [Int.fdiv_eq_ediv_of_nonneg _ (by omega)]
    have ef' : Int.fdiv (lo + hi) (2 ^ (min 1 (IntKind.bits .u64))) = (lo + hi) / 2 := ef
    have w3 : IntKind.wrap .u64 ((lo + hi) / 2) = (lo + hi) / 2 := wrapu64 (by omega) (by omega)
    have w4 : IntKind.wrap .i64 ((lo + hi) / 2) = (lo + hi) / 2 := wrap64 (by omega) (by omega)
    simp only [↓eD0, ↓eD1, eC0, eC1, eC2, eC3, eC4, eC5, eC6, wantedE, ↓reduceIte, Nat.reduceEqDiff, Option.map_some, Option.map_none, reread, List.nil_append, List.cons_append, List.map_cons, List.map_nil, List.length_nil, List.length_cons, Value.cells, List.getElem?_cons_zero, List.getElem?_cons_succ, outE, lks, lkR, rdV, neg1, evs, opt, Nat.reduceAdd, Nat.reduceMul, and_self, reduceCtorEq, List.size_toArray, List.all_cons, List.all_nil, Value.oneCell', List.set_cons_zero, List.set_cons_succ, sets, fillL, Nat.reduceLeDiff, List.drop_succ_cons, List.drop_zero, List.take_succ_cons, List.take_zero, List.toList_toArray, argsE, Array.append_empty, Array.empty_append, List.getElem?_toArray, Int.reduceLT, Int.reduceLE, Int.reduceToNat, Int.reduceEq, Nat.reduceLT, dl, w1, w2, ef, ef', w3, w4]
    refine appK_of (hf _ _ (by omega) (by omega) (ho.trans .ap)) ?_
    rintro _ _ ⟨e2, rfl⟩
    rw [e2]
    clear e2
    by_cases ht : L ≤ (lo + hi) / 2
    · have dt : decide (L ≤ (lo + hi) / 2) = true := by simpa using ht
      simp only [↓eD0, ↓eD1, eC0, eC1, eC2, eC3, eC4, eC5, eC6, wantedE, ↓reduceIte, Nat.reduceEqDiff, Option.map_some, Option.map_none, reread, List.nil_append, List.cons_append, List.map_cons, List.map_nil, List.length_nil, List.length_cons, Value.cells, List.getElem?_cons_zero, List.getElem?_cons_succ, outE, lks, lkR, rdV, neg1, evs, opt, Nat.reduceAdd, Nat.reduceMul, and_self, reduceCtorEq, List.size_toArray, List.all_cons, List.all_nil, Value.oneCell', List.set_cons_zero, List.set_cons_succ, sets, fillL, Nat.reduceLeDiff, List.drop_succ_cons, List.drop_zero, List.take_succ_cons, List.take_zero, List.toList_toArray, argsE, Array.append_empty, Array.empty_append, List.getElem?_toArray, Int.reduceLT, Int.reduceLE, Int.reduceToNat, Int.reduceEq, Nat.reduceLT, dt]
      exact ⟨((lo + hi) / 2 - lo).toNat, by omega, ho.trans .ap, lo, (lo + hi) / 2, rfl, g1, g2, ht, by omega, by omega⟩
    · have dt : decide (L ≤ (lo + hi) / 2) = false := by simpa using ht
      have w5 : IntKind.wrap .i64 ((lo + hi) / 2 + 1) = (lo + hi) / 2 + 1 := wrap64 (by omega) (by omega)
      simp only [↓eD0, ↓eD1, eC0, eC1, eC2, eC3, eC4, eC5, eC6, wantedE, ↓reduceIte, Nat.reduceEqDiff, Option.map_some, Option.map_none, reread, List.nil_append, List.cons_append, List.map_cons, List.map_nil, List.length_nil, List.length_cons, Value.cells, List.getElem?_cons_zero, List.getElem?_cons_succ, outE, lks, lkR, rdV, neg1, evs, opt, Nat.reduceAdd, Nat.reduceMul, and_self, reduceCtorEq, List.size_toArray, List.all_cons, List.all_nil, Value.oneCell', List.set_cons_zero, List.set_cons_succ, sets, fillL, Nat.reduceLeDiff, List.drop_succ_cons, List.drop_zero, List.take_succ_cons, List.take_zero, List.toList_toArray, argsE, Array.append_empty, Array.empty_append, List.getElem?_toArray, Int.reduceLT, Int.reduceLE, Int.reduceToNat, Int.reduceEq, Nat.reduceLT, dt, w5]
      exact ⟨(hi - ((lo + hi) / 2 + 1)).toNat, by omega, ho.trans .ap, (lo + hi) / 2 + 1, hi, rfl, by omega, by omega, g3, by omega, by omega⟩
  · have : lo = hi := by omega
    subst this
    have : lo = L := by omega
    subst this
    have dl : decide (lo < lo) = false := by simp
    simp only [↓eD0, ↓eD1, eC0, eC1, eC2, eC3, eC4, eC5, eC6, wantedE, ↓reduceIte, Nat.reduceEqDiff, Option.map_some, Option.map_none, reread, List.nil_append, List.cons_append, List.map_cons, List.map_nil, List.length_nil, List.length_cons, Value.cells, List.getElem?_cons_zero, List.getElem?_cons_succ, outE, lks, lkR, rdV, neg1, evs, opt, Nat.reduceAdd, Nat.reduceMul, and_self, reduceCtorEq, List.size_toArray, List.all_cons, List.all_nil, Value.oneCell', List.set_cons_zero, List.set_cons_succ, sets, fillL, Nat.reduceLeDiff, List.drop_succ_cons, List.drop_zero, List.take_succ_cons, List.take_zero, List.toList_toArray, argsE, Array.append_empty, Array.empty_append, List.getElem?_toArray, Int.reduceLT, Int.reduceLE, Int.reduceToNat, Int.reduceEq, Nat.reduceLT, dl]
    exact ⟨ho.trans .ap, by simp [flat]⟩

/-- Whether there is too much at the next level. -/
theorem over_app {σ : H} {cs : List Cl} {sl : Value} {b b2 b3 : Nat} {t cap : Int} (h1 : rd1 σ ⟨b, 0, none⟩ = some (.func (.func 32) #[] #[.pointer (some ⟨b3, 0, none⟩)])) (h2 : rd1 σ ⟨b2, 0, none⟩ = some (.int .i64 cap))
    (h3 : rd1 σ ⟨b3, 0, none⟩ = some sl) (hr : Row σ 3 sl (cs.map clV)) (ok : AllOk cs) (hlen : cs.length ≤ 100000) (h0 : 0 ≤ t) (ht : t < 1073741824) :
    App Try.prog (.func 37) #[.pointer (some ⟨b, 0, none⟩), .pointer (some ⟨b2, 0, none⟩)] #[.int .i64 t] σ fun v σ' => σ' = σ ∧ v = .bool (decide (cap < sumC cs (t + 1))) := by
  refine App.forget (App.of_sem mixed Try.func37 t37 k37 r37 (Nat.le_of_ble_eq_true rfl) ?_)
  have h1' : ∀ L, rd1 (ap σ L) ⟨b, 0, none⟩ = some (.func (.func 32) #[] #[.pointer (some ⟨b3, 0, none⟩)]) := fun L => rd1_old h1
  have h2' : ∀ L, rd1 (ap σ L) ⟨b2, 0, none⟩ = some (.int .i64 cap) := fun L => rd1_old h2
  have w : IntKind.wrap .i64 (t + 1) = t + 1 := wrap64 (by omega) (by omega)
  rw [← ap_nil (σ := σ)]
  unfold s37
  simp only [↓eD0, ↓eD1, eC0, eC1, eC2, eC3, eC4, eC5, eC6, wantedE, ↓reduceIte, Nat.reduceEqDiff, Option.map_some, Option.map_none, reread, List.nil_append, List.cons_append, List.map_cons, List.map_nil, List.length_nil, List.length_cons, Value.cells, List.getElem?_cons_zero, List.getElem?_cons_succ, outE, lks, lkR, rdV, neg1, evs, opt, Nat.reduceAdd, Nat.reduceMul, and_self, reduceCtorEq, List.size_toArray, List.all_cons, List.all_nil, Value.oneCell', List.set_cons_zero, List.set_cons_succ, sets, fillL, Nat.reduceLeDiff, List.drop_succ_cons, List.drop_zero, List.take_succ_cons, List.take_zero, List.toList_toArray, argsE, Array.append_empty, Array.empty_append, List.getElem?_toArray, Int.reduceLT, Int.reduceLE, Int.reduceToNat, Int.reduceEq, Nat.reduceLT, h1', h2', w]
  refine appK_of (sum1_app (t := t + 1) (rd1_old h3) (hr.Old .ap) ok hlen ⟨by omega, by omega⟩) ?_
  rintro _ _ ⟨e2, rfl⟩
  rw [e2]
  clear e2
  simp only [↓eD0, ↓eD1, eC0, eC1, eC2, eC3, eC4, eC5, eC6, wantedE, ↓reduceIte, Nat.reduceEqDiff, Option.map_some, Option.map_none, reread, List.nil_append, List.cons_append, List.map_cons, List.map_nil, List.length_nil, List.length_cons, Value.cells, List.getElem?_cons_zero, List.getElem?_cons_succ, outE, lks, lkR, rdV, neg1, evs, opt, Nat.reduceAdd, Nat.reduceMul, and_self, reduceCtorEq, List.size_toArray, List.all_cons, List.all_nil, Value.oneCell', List.set_cons_zero, List.set_cons_succ, sets, fillL, Nat.reduceLeDiff, List.drop_succ_cons, List.drop_zero, List.take_succ_cons, List.take_zero, List.toList_toArray, argsE, Array.append_empty, Array.empty_append, List.getElem?_toArray, Int.reduceLT, Int.reduceLE, Int.reduceToNat, Int.reduceEq, Nat.reduceLT, h2']
  exact ⟨.ap, by simp [flat]⟩

theorem claims_len {l : List Ctr} {ds : List Int} (h : ds.length = l.length) : (claimsF l ds).length = l.length := by simp [claimsF, h]
theorem claims_get {l : List Ctr} {ds : List Int} {i : Nat} (h1 : i < l.length) (h2 : i < ds.length) : (claimsF l ds)[i]? = some (clF l[i] ds[i]) := by
  simp [claimsF, List.getElem?_zipWith, h1, h2]
theorem claims_ok {l : List Ctr} {ds : List Int} (h1 : ∀ c ∈ l, c.Ok) (h2 : ∀ d ∈ ds, Amt d) : AllOk (claimsF l ds) := by
  intro c hc
  obtain ⟨i, hi, rfl⟩ := List.getElem_of_mem hc
  simp only [claimsF, List.getElem_zipWith]
  exact clF_ok (h1 _ (by simp)) (h2 _ (by simp))

/-- What a specified division has. -/
structure Filled (cap : Int) (l : List Ctr) (ds : List Int) : Prop where
  amt : Amt cap
  few : l.length ≤ 32
  len : ds.length = l.length
  ok : ∀ c ∈ l, c.Ok
  am : ∀ d ∈ ds, Amt d
  le : sumC (claimsF l ds) 0 ≤ cap

theorem rsum_app {σ : H} {l : List Ctr} {ds : List Int} {lv dv : Value} {t : Int} (hl : Row σ 3 lv (l.map ctrV)) (hd : Row σ 1 dv (ds.map intV)) (few : l.length ≤ 32) (len : ds.length = l.length) (ok : ∀ c ∈ l, c.Ok) (am : ∀ d ∈ ds, Amt d) (ht : Lev t) :
    App Try.prog (.func 43) #[] #[lv, dv, .int .i64 t] σ fun v σ' => σ' = σ ∧ v = .int .i64 (sumC (claimsF l ds) t) := by
  refine App.forget (App.of_sem mixed Try.func43 t43 k43 r43 (Nat.le_of_ble_eq_true rfl) ?_)
  obtain ⟨base, cap, rfl⟩ := hl.slice
  obtain ⟨base2, cap2, rfl⟩ := hd.slice
  simp only [List.length_map] at hl hd ⊢
  have hcl := claims_len len
  have hok := claims_ok ok am
  unfold s43
  simp only [↓eD0, ↓eD1, eC0, eC1, eC2, eC3, eC4, eC5, eC6, wantedE, ↓reduceIte, Nat.reduceEqDiff, Option.map_some, Option.map_none, reread, List.nil_append, List.cons_append, List.map_cons, List.map_nil, List.length_nil, List.length_cons, Value.cells, List.getElem?_cons_zero, List.getElem?_cons_succ, outE, lks, lkR, rdV, neg1, evs, opt, Nat.reduceAdd, Nat.reduceMul, and_self, reduceCtorEq, List.size_toArray, List.all_cons, List.all_nil, Value.oneCell', List.set_cons_zero, List.set_cons_succ, sets, fillL, Nat.reduceLeDiff, List.drop_succ_cons, List.drop_zero, List.take_succ_cons, List.take_zero, List.toList_toArray, argsE, Array.append_empty, Array.empty_append, List.getElem?_toArray, Int.reduceLT, Int.reduceLE, Int.reduceToNat, Int.reduceEq, Nat.reduceLT]
  refine loop_for (J := fun i e τ => Old σ τ ∧ i ≤ l.length ∧ e = [(0, .slice base l.length cap), (1, .slice base2 ds.length cap2), (2, .int .i64 t), (7, .int .i64 (sumC ((claimsF l ds).take i) t)), (8, .int .i64 i)]) l.length ⟨.refl, by omega, rfl⟩ ?_
  rintro i e τ hi ⟨ho, _, rfl⟩
  have e1 : ap τ [] = τ := ap_nil
  rw [← e1]
  by_cases hlt : i < l.length
  · have dl : decide ((i:Int) < (l.length : Int)) = true := by simpa using hlt
    have hx : (l.map ctrV)[i]? = some (ctrV l[i]) := by simp [hlt]
    have hx2 : (ds.map intV)[i]? = some (intV ds[i]) := by simp [len, hlt]
    obtain ⟨b, off, rfl, h1⟩ := hl.at hx
    obtain ⟨b2, off2, rfl, h2⟩ := hd.at hx2
    have h3 : ∀ L, rdN (ap τ L) ⟨b, off + i * 3, none⟩ 3 = some (ctrV l[i]) := fun L => rdN_Old (ho.trans .ap) h1
    have h4 : ∀ L, rd1 (ap τ L) ⟨b2, off2 + i, none⟩ = some (.int .i64 ds[i]) := fun L => rd1_Old (ho.trans .ap) (by simpa using rd1_row h2 (j := 0) rfl)
    have hb : (0:Int) ≤ (i:Int) ∧ (i:Int) < (l.length : Int) := by omega
    have hb2 : (0:Int) ≤ (i:Int) ∧ (i:Int) < (ds.length : Int) := by omega
    have hw : IntKind.wrap .i64 ((i:Int) + 1) = ((i + 1 : Nat) : Int) := by rw [wrap64 (by omega) (by omega)]; omega
    have st := sumC_take (cs := claimsF l ds) (t := t) (i := i) (by omega)
    have hge : (claimsF l ds)[i]'(by omega) = clF l[i] ds[i] := by simp [claimsF]
    rw [hge] at st
    have b1 := sumC_bounds (cs := (claimsF l ds).take i) (t := t) (fun x hx => hok x (List.mem_of_mem_take hx)) ht.1
    have b2 := atC_bounds (clF_ok (ok l[i] (by simp)) (am ds[i] (by simp))) ht.1
    simp only [List.length_take] at b1
    have ws : IntKind.wrap .i64 (sumC ((claimsF l ds).take i) t + atC (clF l[i] ds[i]) t) = sumC ((claimsF l ds).take (i + 1)) t := by rw [wrap64 (by omega) (by omega), st]
    simp only [↓eD0, ↓eD1, eC0, eC1, eC2, eC3, eC4, eC5, eC6, wantedE, ↓reduceIte, Nat.reduceEqDiff, Option.map_some, Option.map_none, reread, List.nil_append, List.cons_append, List.map_cons, List.map_nil, List.length_nil, List.length_cons, Value.cells, List.getElem?_cons_zero, List.getElem?_cons_succ, outE, lks, lkR, rdV, neg1, evs, opt, Nat.reduceAdd, Nat.reduceMul, and_self, reduceCtorEq, List.size_toArray, List.all_cons, List.all_nil, Value.oneCell', List.set_cons_zero, List.set_cons_succ, sets, fillL, Nat.reduceLeDiff, List.drop_succ_cons, List.drop_zero, List.take_succ_cons, List.take_zero, List.toList_toArray, argsE, Array.append_empty, Array.empty_append, List.getElem?_toArray, Int.reduceLT, Int.reduceLE, Int.reduceToNat, Int.reduceEq, Nat.reduceLT, dl, hb, hb2, Int.toNat_natCast, h3, h4, ctrV]
    refine appK_of (rat_app (c := l[i]) (d := ds[i]) (t := t) (ok _ (by simp)) (am _ (by simp)) ht) ?_
    rintro _ _ ⟨e2, rfl⟩
    rw [e2]
    clear e2
    simp only [↓eD0, ↓eD1, eC0, eC1, eC2, eC3, eC4, eC5, eC6, wantedE, ↓reduceIte, Nat.reduceEqDiff, Option.map_some, Option.map_none, reread, List.nil_append, List.cons_append, List.map_cons, List.map_nil, List.length_nil, List.length_cons, Value.cells, List.getElem?_cons_zero, List.getElem?_cons_succ, outE, lks, lkR, rdV, neg1, evs, opt, Nat.reduceAdd, Nat.reduceMul, and_self, reduceCtorEq, List.size_toArray, List.all_cons, List.all_nil, Value.oneCell', List.set_cons_zero, List.set_cons_succ, sets, fillL, Nat.reduceLeDiff, List.drop_succ_cons, List.drop_zero, List.take_succ_cons, List.take_zero, List.toList_toArray, argsE, Array.append_empty, Array.empty_append, List.getElem?_toArray, Int.reduceLT, Int.reduceLE, Int.reduceToNat, Int.reduceEq, Nat.reduceLT, hw, ws]
    exact ⟨hlt, ho.trans .ap, by omega⟩
  · have : i = l.length := by omega
    subst this
    have dl : decide ((l.length:Int) < (l.length : Int)) = false := by simp
    have ht : (claimsF l ds).take l.length = claimsF l ds := List.take_of_length_le (by omega)
    simp only [↓eD0, ↓eD1, eC0, eC1, eC2, eC3, eC4, eC5, eC6, wantedE, ↓reduceIte, Nat.reduceEqDiff, Option.map_some, Option.map_none, reread, List.nil_append, List.cons_append, List.map_cons, List.map_nil, List.length_nil, List.length_cons, Value.cells, List.getElem?_cons_zero, List.getElem?_cons_succ, outE, lks, lkR, rdV, neg1, evs, opt, Nat.reduceAdd, Nat.reduceMul, and_self, reduceCtorEq, List.size_toArray, List.all_cons, List.all_nil, Value.oneCell', List.set_cons_zero, List.set_cons_succ, sets, fillL, Nat.reduceLeDiff, List.drop_succ_cons, List.drop_zero, List.take_succ_cons, List.take_zero, List.toList_toArray, argsE, Array.append_empty, Array.empty_append, List.getElem?_toArray, Int.reduceLT, Int.reduceLE, Int.reduceToNat, Int.reduceEq, Nat.reduceLT, dl, ht]
    exact ⟨ho.trans .ap, by simp [flat]⟩

theorem rlevel_app {σ : H} {l : List Ctr} {ds : List Int} {lv dv : Value} {cap L : Int} (hl : Row σ 3 lv (l.map ctrV)) (hd : Row σ 1 dv (ds.map intV)) (few : l.length ≤ 32) (len : ds.length = l.length) (ok : ∀ c ∈ l, c.Ok) (am : ∀ d ∈ ds, Amt d) (hL : Level (claimsF l ds) cap L) :
    App Try.prog (.func 42) #[] #[.int .i64 cap, lv, dv] σ fun v σ' => σ' = σ ∧ v = .int .i64 L := by
  refine App.forget (App.of_sem mixed Try.func42 t42 k42 r42 (Nat.le_of_ble_eq_true rfl) ?_)
  have hok := claims_ok ok am
  rw [← ap_nil (σ := σ)]
  unfold s42
  simp only [↓eD0, ↓eD1, eC0, eC1, eC2, eC3, eC4, eC5, eC6, wantedE, ↓reduceIte, Nat.reduceEqDiff, Option.map_some, Option.map_none, reread, List.nil_append, List.cons_append, List.map_cons, List.map_nil, List.length_nil, List.length_cons, Value.cells, List.getElem?_cons_zero, List.getElem?_cons_succ, outE, lks, lkR, rdV, neg1, evs, opt, Nat.reduceAdd, Nat.reduceMul, and_self, reduceCtorEq, List.size_toArray, List.all_cons, List.all_nil, Value.oneCell', List.set_cons_zero, List.set_cons_succ, sets, fillL, Nat.reduceLeDiff, List.drop_succ_cons, List.drop_zero, List.take_succ_cons, List.take_zero, List.toList_toArray, argsE, Array.append_empty, Array.empty_append, List.getElem?_toArray, Int.reduceLT, Int.reduceLE, Int.reduceToNat, Int.reduceEq, Nat.reduceLT]
  refine loop_of (fun m e τ => Old σ τ ∧ ∃ lo hi : Int, e = [(0, .int .i64 cap), (1, lv), (2, dv), (7, .int .i64 lo), (8, .int .i64 hi)] ∧ 0 ≤ lo ∧ lo ≤ L ∧ L ≤ hi ∧ hi ≤ 1073741824 ∧ (m : Int) = hi - lo) 1073741824 ⟨.ap, 0, 1073741824, rfl, by omega, hL.h0, hL.hM, by omega, by omega⟩ ?_
  rintro m e τ ⟨ho, lo, hi, rfl, g1, g2, g3, g4, g5⟩
  have e1 : ap τ [] = τ := ap_nil
  rw [← e1]
  by_cases hlt : lo < hi
  · have dl : decide (lo < hi) = true := by simpa using hlt
    have w1 : IntKind.wrap .i64 (lo + hi) = lo + hi := wrap64 (by omega) (by omega)
    have w2 : IntKind.wrap .i64 (lo + hi + 1) = lo + hi + 1 := wrap64 (by omega) (by omega)
    have eq : Int.tdiv (lo + hi + 1) 2 = (lo + hi + 1) / 2 := Int.tdiv_eq_ediv_of_nonneg (by omega)
    have w3 : IntKind.wrap .i64 ((lo + hi + 1) / 2) = (lo + hi + 1) / 2 := wrap64 (by omega) (by omega)
    simp only [↓eD0, ↓eD1, eC0, eC1, eC2, eC3, eC4, eC5, eC6, wantedE, ↓reduceIte, Nat.reduceEqDiff, Option.map_some, Option.map_none, reread, List.nil_append, List.cons_append, List.map_cons, List.map_nil, List.length_nil, List.length_cons, Value.cells, List.getElem?_cons_zero, List.getElem?_cons_succ, outE, lks, lkR, rdV, neg1, evs, opt, Nat.reduceAdd, Nat.reduceMul, and_self, reduceCtorEq, List.size_toArray, List.all_cons, List.all_nil, Value.oneCell', List.set_cons_zero, List.set_cons_succ, sets, fillL, Nat.reduceLeDiff, List.drop_succ_cons, List.drop_zero, List.take_succ_cons, List.take_zero, List.toList_toArray, argsE, Array.append_empty, Array.empty_append, List.getElem?_toArray, Int.reduceLT, Int.reduceLE, Int.reduceToNat, Int.reduceEq, Nat.reduceLT, dl, w1, w2, eq, w3]
    refine appK_of (rsum_app (t := (lo + hi + 1) / 2) (hl.Old (ho.trans .ap)) (hd.Old (ho.trans .ap)) few len ok am ⟨by omega, by omega⟩) ?_
    rintro _ _ ⟨e2, rfl⟩
    rw [e2]
    clear e2
    have hle := hL.le' (t := (lo + hi + 1) / 2) hok (by omega) (by omega)
    by_cases ht : (lo + hi + 1) / 2 ≤ L
    · have dt : decide (sumC (claimsF l ds) ((lo + hi + 1) / 2) ≤ cap) = true := by simpa using hle.2 ht
      simp only [↓eD0, ↓eD1, eC0, eC1, eC2, eC3, eC4, eC5, eC6, wantedE, ↓reduceIte, Nat.reduceEqDiff, Option.map_some, Option.map_none, reread, List.nil_append, List.cons_append, List.map_cons, List.map_nil, List.length_nil, List.length_cons, Value.cells, List.getElem?_cons_zero, List.getElem?_cons_succ, outE, lks, lkR, rdV, neg1, evs, opt, Nat.reduceAdd, Nat.reduceMul, and_self, reduceCtorEq, List.size_toArray, List.all_cons, List.all_nil, Value.oneCell', List.set_cons_zero, List.set_cons_succ, sets, fillL, Nat.reduceLeDiff, List.drop_succ_cons, List.drop_zero, List.take_succ_cons, List.take_zero, List.toList_toArray, argsE, Array.append_empty, Array.empty_append, List.getElem?_toArray, Int.reduceLT, Int.reduceLE, Int.reduceToNat, Int.reduceEq, Nat.reduceLT, dt]
      exact ⟨(hi - (lo + hi + 1) / 2).toNat, by omega, ho.trans .ap, (lo + hi + 1) / 2, hi, rfl, by omega, ht, g3, g4, by omega⟩
    · have dt : decide (sumC (claimsF l ds) ((lo + hi + 1) / 2) ≤ cap) = false := by
        have := mt hle.1 ht
        simpa using this
      have w5 : IntKind.wrap .i64 ((lo + hi + 1) / 2 - 1) = (lo + hi + 1) / 2 - 1 := wrap64 (by omega) (by omega)
      simp only [↓eD0, ↓eD1, eC0, eC1, eC2, eC3, eC4, eC5, eC6, wantedE, ↓reduceIte, Nat.reduceEqDiff, Option.map_some, Option.map_none, reread, List.nil_append, List.cons_append, List.map_cons, List.map_nil, List.length_nil, List.length_cons, Value.cells, List.getElem?_cons_zero, List.getElem?_cons_succ, outE, lks, lkR, rdV, neg1, evs, opt, Nat.reduceAdd, Nat.reduceMul, and_self, reduceCtorEq, List.size_toArray, List.all_cons, List.all_nil, Value.oneCell', List.set_cons_zero, List.set_cons_succ, sets, fillL, Nat.reduceLeDiff, List.drop_succ_cons, List.drop_zero, List.take_succ_cons, List.take_zero, List.toList_toArray, argsE, Array.append_empty, Array.empty_append, List.getElem?_toArray, Int.reduceLT, Int.reduceLE, Int.reduceToNat, Int.reduceEq, Nat.reduceLT, dt, w5]
      exact ⟨((lo + hi + 1) / 2 - 1 - lo).toNat, by omega, ho.trans .ap, lo, (lo + hi + 1) / 2 - 1, rfl, by omega, by omega, by omega, by omega, by omega⟩
  · have : lo = hi := by omega
    subst this
    have : lo = L := by omega
    subst this
    have dl : decide (lo < lo) = false := by simp
    simp only [↓eD0, ↓eD1, eC0, eC1, eC2, eC3, eC4, eC5, eC6, wantedE, ↓reduceIte, Nat.reduceEqDiff, Option.map_some, Option.map_none, reread, List.nil_append, List.cons_append, List.map_cons, List.map_nil, List.length_nil, List.length_cons, Value.cells, List.getElem?_cons_zero, List.getElem?_cons_succ, outE, lks, lkR, rdV, neg1, evs, opt, Nat.reduceAdd, Nat.reduceMul, and_self, reduceCtorEq, List.size_toArray, List.all_cons, List.all_nil, Value.oneCell', List.set_cons_zero, List.set_cons_succ, sets, fillL, Nat.reduceLeDiff, List.drop_succ_cons, List.drop_zero, List.take_succ_cons, List.take_zero, List.toList_toArray, argsE, Array.append_empty, Array.empty_append, List.getElem?_toArray, Int.reduceLT, Int.reduceLE, Int.reduceToNat, Int.reduceEq, Nat.reduceLT, dl]
    exact ⟨ho.trans .ap, by simp [flat]⟩
end Go.Proofs.Ytimcgoghjebalaa
