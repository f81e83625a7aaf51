/- Walks of the functions that the claim reaches. Conditions: none. -/
import Derived.Test.YtljmjkpmkpchoaaDoorBodies
set_option linter.all false
set_option linter.unusedSimpArgs false
namespace Go.Proofs.YtljmjkpmkpchoaaDoor
open Go Go.Cn Go.RowKit
theorem mixed : Tryd.prog.follows .mixedOrders = true := by kernel_rfl

/-- An entry. -/
structure Ent where
  kind : Int
  cpu : Int
  count : Int
  n : Int
  data : ByteArray

def entV (e : Ent) : List Value := [.int .i64 e.kind, .int .i64 e.cpu, .int .i64 e.count, .int .i64 e.n, .string e.data]

def countS (cpu : Int) (n : Int) (e : Ent) : Int := if e.kind = 1 ∧ e.cpu = cpu then IntKind.wrap .i64 (n + e.n) else n
def countF (E : List Ent) (cpu : Int) : Int := E.foldl (countS cpu) 0

theorem count_app {σ : H} {E : List Ent} {sl : Value} {cpu : Int} (hr : Row σ 5 sl (E.map entV)) (hlen : E.length < 9223372036854775808) :
    App Tryd.prog (.func 34) #[] #[sl, .int .i64 cpu] σ fun v σ' => σ' = σ ∧ v = .int .i64 (countF E cpu) := by
  refine App.of_sem mixed Tryd.func34 t34 k34 r34 (Nat.le_of_ble_eq_true rfl) ?_
  obtain ⟨base, cap, rfl⟩ := hr.slice
  simp only [List.length_map] at hr ⊢
  simp only [s34, argsE, Array.append_empty, ↓eD0, ↓eD1, eC0, eC1, eC2, eC3, eC4, eC5, eC6, wantedE, ↓reduceIte, Nat.reduceEqDiff, Option.map_some, Option.map_none, reread, List.nil_append, List.cons_append, List.map_cons, List.map_nil, List.length_nil, List.length_cons, Value.cells, List.getElem?_cons_zero, List.getElem?_cons_succ, outE, lks, lkR, rdV, neg1, evs, opt, Nat.reduceAdd, Nat.reduceMul, and_self, reduceCtorEq, List.size_toArray, List.all_cons, List.all_nil, Value.oneCell', List.set_cons_zero, List.set_cons_succ, sets, fillL, Nat.reduceLeDiff, List.drop_succ_cons, List.drop_zero, List.take_succ_cons, List.take_zero, List.toList_toArray, argsE, Array.append_empty, Array.empty_append, List.getElem?_toArray, Int.reduceLT, Int.reduceLE, Int.reduceToNat, Int.reduceEq, Nat.reduceLT]
  refine loop_for (J := fun i e τ => τ = σ ∧ i ≤ E.length ∧ e = [(0, .slice base E.length cap), (1, .int .i64 cpu), (5, .int .i64 (countF (E.take i) cpu)), (6, .int .i64 i)]) E.length ⟨rfl, by omega, rfl⟩ ?_
  rintro i e τ hi ⟨rfl, _, rfl⟩
  simp only [↓eD0, ↓eD1, eC0, eC1, eC2, eC3, eC4, eC5, eC6, wantedE, ↓reduceIte, Nat.reduceEqDiff, Option.map_some, Option.map_none, reread, List.nil_append, List.cons_append, List.map_cons, List.map_nil, List.length_nil, List.length_cons, Value.cells, List.getElem?_cons_zero, List.getElem?_cons_succ, outE, lks, lkR, rdV, neg1, evs, opt, Nat.reduceAdd, Nat.reduceMul, and_self, reduceCtorEq, List.size_toArray, List.all_cons, List.all_nil, Value.oneCell', List.set_cons_zero, List.set_cons_succ, sets, fillL, Nat.reduceLeDiff, List.drop_succ_cons, List.drop_zero, List.take_succ_cons, List.take_zero, List.toList_toArray, argsE, Array.append_empty, Array.empty_append, List.getElem?_toArray, Int.reduceLT, Int.reduceLE, Int.reduceToNat, Int.reduceEq, Nat.reduceLT]
  refine onI_dec (fun hlt => ?_) (fun hge => ?_)
  · skip
    have hlt : i < E.length := by simpa using hlt
    have hx : (E.map entV)[i]? = some (entV E[i]) := by simp [hlt]
    obtain ⟨b, off, rfl, h1⟩ := hr.at hx
    have g0 := rd1_row h1 (j := 0) (v := .int .i64 E[i].kind) rfl
    have g1 := rd1_row h1 (j := 1) (v := .int .i64 E[i].cpu) rfl
    have g3 := rd1_row h1 (j := 3) (v := .int .i64 E[i].n) rfl
    simp only [Nat.add_zero] at g0
    have hb : (0:Int) ≤ (i:Int) ∧ (i:Int) < (E.length : Int) := by omega
    have hs : ∀ q, IntKind.wrap .i64 ((i:Int) + 1) = q → countF (E.take (i + 1)) cpu = countS cpu (countF (E.take i) cpu) E[i] := fun _ _ => by
      unfold countF; rw [List.take_succ_eq_append_getElem hlt, List.foldl_append]; rfl
    have hw : IntKind.wrap .i64 ((i:Int) + 1) = ((i + 1 : Nat) : Int) := by rw [wrap64 (by omega) (by omega)]; omega
    have hs := hs _ hw
    by_cases hk : E[i].kind = 1
    · by_cases hc : E[i].cpu = cpu
      · simp only [↓eD0, ↓eD1, eC0, eC1, eC2, eC3, eC4, eC5, eC6, wantedE, ↓reduceIte, Nat.reduceEqDiff, Option.map_some, Option.map_none, reread, List.nil_append, List.cons_append, List.map_cons, List.map_nil, List.length_nil, List.length_cons, Value.cells, List.getElem?_cons_zero, List.getElem?_cons_succ, outE, lks, lkR, rdV, neg1, evs, opt, Nat.reduceAdd, Nat.reduceMul, and_self, reduceCtorEq, List.size_toArray, List.all_cons, List.all_nil, Value.oneCell', List.set_cons_zero, List.set_cons_succ, sets, fillL, Nat.reduceLeDiff, List.drop_succ_cons, List.drop_zero, List.take_succ_cons, List.take_zero, List.toList_toArray, argsE, Array.append_empty, Array.empty_append, List.getElem?_toArray, Int.reduceLT, Int.reduceLE, Int.reduceToNat, Int.reduceEq, Nat.reduceLT, hb, and_self, Int.toNat_natCast, g0, g1, g3, hk, hc, hw, hs, countS, hlt]
        omega
      · simp only [↓eD0, ↓eD1, eC0, eC1, eC2, eC3, eC4, eC5, eC6, wantedE, ↓reduceIte, Nat.reduceEqDiff, Option.map_some, Option.map_none, reread, List.nil_append, List.cons_append, List.map_cons, List.map_nil, List.length_nil, List.length_cons, Value.cells, List.getElem?_cons_zero, List.getElem?_cons_succ, outE, lks, lkR, rdV, neg1, evs, opt, Nat.reduceAdd, Nat.reduceMul, and_self, reduceCtorEq, List.size_toArray, List.all_cons, List.all_nil, Value.oneCell', List.set_cons_zero, List.set_cons_succ, sets, fillL, Nat.reduceLeDiff, List.drop_succ_cons, List.drop_zero, List.take_succ_cons, List.take_zero, List.toList_toArray, argsE, Array.append_empty, Array.empty_append, List.getElem?_toArray, Int.reduceLT, Int.reduceLE, Int.reduceToNat, Int.reduceEq, Nat.reduceLT, hb, and_self, Int.toNat_natCast, g0, g1, g3, hk, hc, hw, hs, countS, hlt, and_false]
        omega
    · simp only [↓eD0, ↓eD1, eC0, eC1, eC2, eC3, eC4, eC5, eC6, wantedE, ↓reduceIte, Nat.reduceEqDiff, Option.map_some, Option.map_none, reread, List.nil_append, List.cons_append, List.map_cons, List.map_nil, List.length_nil, List.length_cons, Value.cells, List.getElem?_cons_zero, List.getElem?_cons_succ, outE, lks, lkR, rdV, neg1, evs, opt, Nat.reduceAdd, Nat.reduceMul, and_self, reduceCtorEq, List.size_toArray, List.all_cons, List.all_nil, Value.oneCell', List.set_cons_zero, List.set_cons_succ, sets, fillL, Nat.reduceLeDiff, List.drop_succ_cons, List.drop_zero, List.take_succ_cons, List.take_zero, List.toList_toArray, argsE, Array.append_empty, Array.empty_append, List.getElem?_toArray, Int.reduceLT, Int.reduceLE, Int.reduceToNat, Int.reduceEq, Nat.reduceLT, hb, and_self, Int.toNat_natCast, g0, g1, g3, hk, hw, hs, countS, hlt, false_and]
      omega
  · have : i = E.length := by omega
    subst this
    simp only [↓eD0, ↓eD1, eC0, eC1, eC2, eC3, eC4, eC5, eC6, wantedE, ↓reduceIte, Nat.reduceEqDiff, Option.map_some, Option.map_none, reread, List.nil_append, List.cons_append, List.map_cons, List.map_nil, List.length_nil, List.length_cons, Value.cells, List.getElem?_cons_zero, List.getElem?_cons_succ, outE, lks, lkR, rdV, neg1, evs, opt, Nat.reduceAdd, Nat.reduceMul, and_self, reduceCtorEq, List.size_toArray, List.all_cons, List.all_nil, Value.oneCell', List.set_cons_zero, List.set_cons_succ, sets, fillL, Nat.reduceLeDiff, List.drop_succ_cons, List.drop_zero, List.take_succ_cons, List.take_zero, List.toList_toArray, argsE, Array.append_empty, Array.empty_append, List.getElem?_toArray, Int.reduceLT, Int.reduceLE, Int.reduceToNat, Int.reduceEq, Nat.reduceLT, List.take_length]
end Go.Proofs.YtljmjkpmkpchoaaDoor

set_option linter.unusedSimpArgs false
namespace Go.Proofs.YtljmjkpmkpchoaaDoor
open Go Go.Cn Go.RowKit

theorem isSlice_app {e : Ent} {σ : H} : App Tryd.prog (.func 25) #[] #[.agg (entV e).toArray] σ fun v σ' => σ' = σ ∧ v = .bool (decide (e.kind = 1)) := by
  refine App.forget (App.of_sem mixed Tryd.func25 t25 k25 r25 (Nat.le_of_ble_eq_true rfl) ?_)
  rw [← ap_nil (σ := σ)]
  simp only [s25, argsE, Array.append_empty, entV, ↓eD0, ↓eD1, eC0, eC1, eC2, eC3, eC4, eC5, eC6, wantedE, ↓reduceIte, Nat.reduceEqDiff, Option.map_some, Option.map_none, reread, List.nil_append, List.cons_append, List.map_cons, List.map_nil, List.length_nil, List.length_cons, Value.cells, List.getElem?_cons_zero, List.getElem?_cons_succ, outE, lks, lkR, rdV, neg1, evs, opt, Nat.reduceAdd, Nat.reduceMul, and_self, reduceCtorEq, List.size_toArray, List.all_cons, List.all_nil, Value.oneCell', List.set_cons_zero, List.set_cons_succ, sets, fillL, Nat.reduceLeDiff, List.drop_succ_cons, List.drop_zero, List.take_succ_cons, List.take_zero, List.toList_toArray, argsE, Array.append_empty, Array.empty_append, List.getElem?_toArray, Int.reduceLT, Int.reduceLE, Int.reduceToNat, Int.reduceEq, Nat.reduceLT]
  exact ⟨.ap, rfl⟩

theorem slice_app {e : Ent} {σ : H} : App Tryd.prog (.func 32) #[] #[.agg (entV e).toArray] σ fun v σ' => σ' = σ ∧ v = .bool (decide (e.kind = 1)) := by
  refine App.forget (App.of_sem mixed Tryd.func32 t32 k32 r32 (Nat.le_of_ble_eq_true rfl) ?_)
  rw [← ap_nil (σ := σ)]
  simp only [s32, argsE, Array.append_empty, entV, ↓eD0, ↓eD1, eC0, eC1, eC2, eC3, eC4, eC5, eC6, wantedE, ↓reduceIte, Nat.reduceEqDiff, Option.map_some, Option.map_none, reread, List.nil_append, List.cons_append, List.map_cons, List.map_nil, List.length_nil, List.length_cons, Value.cells, List.getElem?_cons_zero, List.getElem?_cons_succ, outE, lks, lkR, rdV, neg1, evs, opt, Nat.reduceAdd, Nat.reduceMul, and_self, reduceCtorEq, List.size_toArray, List.all_cons, List.all_nil, Value.oneCell', List.set_cons_zero, List.set_cons_succ, sets, fillL, Nat.reduceLeDiff, List.drop_succ_cons, List.drop_zero, List.take_succ_cons, List.take_zero, List.toList_toArray, argsE, Array.append_empty, Array.empty_append, List.getElem?_toArray, Int.reduceLT, Int.reduceLE, Int.reduceToNat, Int.reduceEq, Nat.reduceLT]
  exact ⟨.ap, rfl⟩

def rightF (e : Ent) (cpus : Int) : Bool :=
  if e.cpu < 0 ∨ cpus ≤ e.cpu ∨ e.count < 0 ∨ 1099511627776 < e.count then false
  else if e.kind = 1 then decide (1 ≤ e.n ∧ e.n ≤ 1099511627776 - e.count ∧ e.data.size = 0)
  else if e.kind = 2 then decide (0 ≤ e.n ∧ e.n ≤ 2147483647 ∧ e.data.size = 0)
  else if e.kind = 3 then decide (e.n = 0 ∧ e.data.size = 1)
  else if e.kind = 4 then decide (e.n = 0 ∧ 1 ≤ e.data.size ∧ e.data.size ≤ 512)
  else if e.kind = 5 then decide (0 ≤ e.n ∧ e.n ≤ 7 ∧ e.data.size = 0)
  else false

theorem right_app {e : Ent} {cpus : Int} {σ : H} : App Tryd.prog (.func 33) #[] #[.agg (entV e).toArray, .int .i64 cpus] σ fun v σ' => σ' = σ ∧ v = .bool (rightF e cpus) := by
  refine App.forget (App.of_sem mixed Tryd.func33 t33 k33 r33 (Nat.le_of_ble_eq_true rfl) ?_)
  rw [← ap_nil (σ := σ)]
  simp only [s33, argsE, Array.append_empty, entV, ↓eD0, ↓eD1, eC0, eC1, eC2, eC3, eC4, eC5, eC6, wantedE, ↓reduceIte, Nat.reduceEqDiff, Option.map_some, Option.map_none, reread, List.nil_append, List.cons_append, List.map_cons, List.map_nil, List.length_nil, List.length_cons, Value.cells, List.getElem?_cons_zero, List.getElem?_cons_succ, outE, lks, lkR, rdV, neg1, evs, opt, Nat.reduceAdd, Nat.reduceMul, and_self, reduceCtorEq, List.size_toArray, List.all_cons, List.all_nil, Value.oneCell', List.set_cons_zero, List.set_cons_succ, sets, fillL, Nat.reduceLeDiff, List.drop_succ_cons, List.drop_zero, List.take_succ_cons, List.take_zero, List.toList_toArray, argsE, Array.append_empty, Array.empty_append, List.getElem?_toArray, Int.reduceLT, Int.reduceLE, Int.reduceToNat, Int.reduceEq, Nat.reduceLT]
  repeat' (first
    | (refine onG_dec (fun h => ?_) (fun h => ?_) <;> simp only [↓eD0, ↓eD1, eC0, eC1, eC2, eC3, eC4, eC5, eC6, wantedE, ↓reduceIte, Nat.reduceEqDiff, Option.map_some, Option.map_none, reread, List.nil_append, List.cons_append, List.map_cons, List.map_nil, List.length_nil, List.length_cons, Value.cells, List.getElem?_cons_zero, List.getElem?_cons_succ, outE, lks, lkR, rdV, neg1, evs, opt, Nat.reduceAdd, Nat.reduceMul, and_self, reduceCtorEq, List.size_toArray, List.all_cons, List.all_nil, Value.oneCell', List.set_cons_zero, List.set_cons_succ, sets, fillL, Nat.reduceLeDiff, List.drop_succ_cons, List.drop_zero, List.take_succ_cons, List.take_zero, List.toList_toArray, argsE, Array.append_empty, Array.empty_append, List.getElem?_toArray, Int.reduceLT, Int.reduceLE, Int.reduceToNat, Int.reduceEq, Nat.reduceLT, h])
    | (refine onI_dec (fun h => ?_) (fun h => ?_) <;> simp only [↓eD0, ↓eD1, eC0, eC1, eC2, eC3, eC4, eC5, eC6, wantedE, ↓reduceIte, Nat.reduceEqDiff, Option.map_some, Option.map_none, reread, List.nil_append, List.cons_append, List.map_cons, List.map_nil, List.length_nil, List.length_cons, Value.cells, List.getElem?_cons_zero, List.getElem?_cons_succ, outE, lks, lkR, rdV, neg1, evs, opt, Nat.reduceAdd, Nat.reduceMul, and_self, reduceCtorEq, List.size_toArray, List.all_cons, List.all_nil, Value.oneCell', List.set_cons_zero, List.set_cons_succ, sets, fillL, Nat.reduceLeDiff, List.drop_succ_cons, List.drop_zero, List.take_succ_cons, List.take_zero, List.toList_toArray, argsE, Array.append_empty, Array.empty_append, List.getElem?_toArray, Int.reduceLT, Int.reduceLE, Int.reduceToNat, Int.reduceEq, Nat.reduceLT, h]))
  all_goals
    refine ⟨.ap, rfl, ?_⟩
    congr 1
    have hw : 0 ≤ e.count → e.count ≤ 1099511627776 → IntKind.wrap .i64 (1099511627776 - e.count) = 1099511627776 - e.count := fun _ _ => wrap64 (by omega) (by omega)
    unfold rightF
    grind
end Go.Proofs.YtljmjkpmkpchoaaDoor

set_option linter.unusedSimpArgs false
namespace Go.Proofs.YtljmjkpmkpchoaaDoor
open Go Go.Cn Go.RowKit

def zeroE : Ent := ⟨0, 0, 0, 0, ⟨#[]⟩⟩

theorem next_app {σ : H} {b i : Nat} {sl : Value} {E : List Ent} (h19 : rd1 σ ⟨b, 19, none⟩ = some (.int .i64 i)) (h17 : rd1 σ ⟨b, 17, none⟩ = some sl) (hr : Row σ 5 sl (E.map entV)) :
    App Tryd.prog (.func 24) #[] #[.pointer (some ⟨b, 0, none⟩)] σ fun v σ' => σ' = σ ∧ v = .tuple #[.agg (entV (E.getD i zeroE)).toArray, .bool (decide (i < E.length))] := by
  refine App.forget (App.of_sem mixed Tryd.func24 t24 k24 r24 (Nat.le_of_ble_eq_true rfl) ?_)
  obtain ⟨base, cap, rfl⟩ := hr.slice
  simp only [List.length_map] at hr h17
  have g19 : ∀ l, rd1 (ap σ l) ⟨b, 19, none⟩ = some (.int .i64 i) := fun l => rd1_old h19
  have g17 : ∀ l, rd1 (ap σ l) ⟨b, 17, none⟩ = some (.slice base E.length cap) := fun l => rd1_old h17
  have e0 : ap σ [] = σ := ap_nil
  rw [← e0]
  unfold s24
  simp only [argsE, Array.append_empty, ↓eD0, ↓eD1, eC0, eC1, eC2, eC3, eC4, eC5, eC6, wantedE, ↓reduceIte, Nat.reduceEqDiff, Option.map_some, Option.map_none, reread, List.nil_append, List.cons_append, List.map_cons, List.map_nil, List.length_nil, List.length_cons, Value.cells, List.getElem?_cons_zero, List.getElem?_cons_succ, outE, lks, lkR, rdV, neg1, evs, opt, Nat.reduceAdd, Nat.reduceMul, and_self, reduceCtorEq, List.size_toArray, List.all_cons, List.all_nil, Value.oneCell', List.set_cons_zero, List.set_cons_succ, sets, fillL, Nat.reduceLeDiff, List.drop_succ_cons, List.drop_zero, List.take_succ_cons, List.take_zero, List.toList_toArray, argsE, Array.append_empty, Array.empty_append, List.getElem?_toArray, Int.reduceLT, Int.reduceLE, Int.reduceToNat, Int.reduceEq, Nat.reduceLT, g19, g17]
  refine onI_dec (fun h => ?_) (fun h => ?_)
  · simp only [↓eD0, ↓eD1, eC0, eC1, eC2, eC3, eC4, eC5, eC6, wantedE, ↓reduceIte, Nat.reduceEqDiff, Option.map_some, Option.map_none, reread, List.nil_append, List.cons_append, List.map_cons, List.map_nil, List.length_nil, List.length_cons, Value.cells, List.getElem?_cons_zero, List.getElem?_cons_succ, outE, lks, lkR, rdV, neg1, evs, opt, Nat.reduceAdd, Nat.reduceMul, and_self, reduceCtorEq, List.size_toArray, List.all_cons, List.all_nil, Value.oneCell', List.set_cons_zero, List.set_cons_succ, sets, fillL, Nat.reduceLeDiff, List.drop_succ_cons, List.drop_zero, List.take_succ_cons, List.take_zero, List.toList_toArray, argsE, Array.append_empty, Array.empty_append, List.getElem?_toArray, Int.reduceLT, Int.reduceLE, Int.reduceToNat, Int.reduceEq, Nat.reduceLT, fillL]
    refine ⟨.ap, by simp [flat, flat.flat1], ?_⟩
    have hge : E.length ≤ i := by omega
    have hd : E.getD i zeroE = zeroE := by simp [List.getD_eq_getElem?_getD, hge]
    have hn : decide (i < E.length) = false := by simp; omega
    rw [hd, hn]
    rfl
  · have hlt : i < E.length := by omega
    have hx : (E.map entV)[i]? = some (entV E[i]) := by simp [hlt]
    obtain ⟨b', off, rfl, h1⟩ := hr.at hx
    have g1 : ∀ l, rdN (ap σ l) ⟨b', off + i * 5, none⟩ 5 = some (entV E[i]) := fun l => rdN_old h1
    have hb : (0:Int) ≤ (i:Int) ∧ (i:Int) < (E.length : Int) := by omega
    simp only [↓eD0, ↓eD1, eC0, eC1, eC2, eC3, eC4, eC5, eC6, wantedE, ↓reduceIte, Nat.reduceEqDiff, Option.map_some, Option.map_none, reread, List.nil_append, List.cons_append, List.map_cons, List.map_nil, List.length_nil, List.length_cons, Value.cells, List.getElem?_cons_zero, List.getElem?_cons_succ, outE, lks, lkR, rdV, neg1, evs, opt, Nat.reduceAdd, Nat.reduceMul, and_self, reduceCtorEq, List.size_toArray, List.all_cons, List.all_nil, Value.oneCell', List.set_cons_zero, List.set_cons_succ, sets, fillL, Nat.reduceLeDiff, List.drop_succ_cons, List.drop_zero, List.take_succ_cons, List.take_zero, List.toList_toArray, argsE, Array.append_empty, Array.empty_append, List.getElem?_toArray, Int.reduceLT, Int.reduceLE, Int.reduceToNat, Int.reduceEq, Nat.reduceLT, g19, g17, hb, Int.toNat_natCast, g1, entV]
    refine ⟨.ap, by simp [flat, flat.flat1], ?_⟩
    have hd : E.getD i zeroE = E[i] := by simp [List.getD_eq_getElem?_getD, hlt]
    have hn : decide (i < E.length) = true := by simp; omega
    rw [hd, hn]
end Go.Proofs.YtljmjkpmkpchoaaDoor

set_option linter.unusedSimpArgs false
namespace Go.Proofs.YtljmjkpmkpchoaaDoor
open Go Go.Cn Go.RowKit

/-- The cells of a reader: those of its log, the place, what was done of it. -/
def rdrC (l : List Value) (i did : Int) : List Value := l ++ [.int .i64 i, .int .i64 did]

theorem skip_app {σ0 σ : H} {b i ver : Nat} {did n : Int} {l : List Value} {sl : Value} {E : List Ent} (hl : l.length = 19) (h17 : l[17]? = some sl) (hb : σ[b]? = some (.cells ver (rdrC l i did) (0, 0))) (ho : Old σ0 σ) (hlt : σ0.size ≤ b)
    (hr : Row σ0 5 sl (E.map entV)) (hi : i < E.length) (hE : E.length < 9223372036854775807) :
    App Tryd.prog (.func 26) #[] #[.pointer (some ⟨b, 0, none⟩), .int .i64 n] σ fun v σ' => v = .tuple #[] ∧ ∃ ver', ver < ver' ∧
      σ' = σ.setIfInBounds b (.cells ver' (if E[i].n ≤ IntKind.wrap .i64 (did + n) ∨ n = 0 then rdrC l (i + 1) 0 else rdrC l i (IntKind.wrap .i64 (did + n))) (0, 0)) := by
  refine App.of_sem mixed Tryd.func26 t26 k26 r26 (Nat.le_of_ble_eq_true rfl) ?_
  have c20 : ∀ x y, (rdrC l x y)[20]? = some (.int .i64 y) := fun x y => by simp [rdrC, List.getElem?_append_right, hl]
  have c19 : ∀ x y, (rdrC l x y)[19]? = some (.int .i64 x) := fun x y => by simp [rdrC, List.getElem?_append_right, hl]
  have c17 : ∀ x y, (rdrC l x y)[17]? = some sl := fun x y => by rw [rdrC, List.getElem?_append_left (by omega)]; exact h17
  have cl : ∀ x y, (rdrC l x y).length = 21 := fun x y => by simp [rdrC, hl]
  have s20 : ∀ x y z, (rdrC l x y).set 20 (.int .i64 z) = rdrC l x z := fun x y z => by simp [rdrC, List.set_append, hl]
  have s19 : ∀ x y z, (rdrC l x y).set 19 (.int .i64 z) = rdrC l z y := fun x y z => by simp [rdrC, List.set_append, hl]
  obtain ⟨base, cap, rfl⟩ := hr.slice
  have hx : (E.map entV)[i]? = some (entV E[i]) := by simp [hi]
  obtain ⟨b', off, rfl, h1⟩ := Row.at (by simpa using hr) hx
  have hne : b ≠ b' := by
    unfold rdN at h1
    rw [if_neg (by decide)] at h1
    split at h1
    · rename_i h2; have := (Array.getElem?_eq_some_iff.1 h2).1; simp only at this; omega
    · rename_i h2; have := (Array.getElem?_eq_some_iff.1 h2).1; simp only at this; omega
    · cases h1
  have g3 : ∀ k, rd1 (σ.setIfInBounds b k) ⟨b', off + i * 5 + 3, none⟩ = some (.int .i64 E[i].n) := fun k => by
    rw [rd1_set_ne hne]
    exact rd1_Old ho (rd1_row h1 (j := 3) rfl)
  have gb : ∀ k, (σ.setIfInBounds b k)[b]? = some k := fun k => get_set hb
  have hbi : (0:Int) ≤ (i:Int) ∧ (i:Int) < ((E.map entV).length : Int) := by simp; omega
  have g3' : ∀ k, rdc1 (σ.setIfInBounds b k)[b']? (off + i * 5 + 3) = some (.int .i64 E[i].n) := fun k => by
    rw [← rd1_eq (a := ⟨b', off + i * 5 + 3, none⟩)]; exact g3 k
  have hw : IntKind.wrap .i64 ((i:Int) + 1) = (i:Int) + 1 := wrap64 (by omega) (by omega)
  unfold s26
  simp only [↓eD0, ↓eD1, eC0, eC1, eC2, eC3, eC4, eC5, eC6, wantedE, ↓reduceIte, Nat.reduceEqDiff, Option.map_some, Option.map_none, reread, List.nil_append, List.cons_append, List.map_cons, List.map_nil, List.length_nil, List.length_cons, Value.cells, List.getElem?_cons_zero, List.getElem?_cons_succ, outE, lks, lkR, rdV, neg1, evs, opt, Nat.reduceAdd, Nat.reduceMul, and_self, reduceCtorEq, List.size_toArray, List.all_cons, List.all_nil, Value.oneCell', List.set_cons_zero, List.set_cons_succ, sets, fillL, Nat.reduceLeDiff, List.drop_succ_cons, List.drop_zero, List.take_succ_cons, List.take_zero, List.toList_toArray, argsE, Array.append_empty, Array.empty_append, List.getElem?_toArray, Int.reduceLT, Int.reduceLE, Int.reduceToNat, Int.reduceEq, Nat.reduceLT, rd1_eq, wrN_eq, hb, gb, c20, c19, c17, cl, s20, s19, set_set, hbi, Int.toNat_natCast, g3']
  by_cases h1 : E[i].n ≤ IntKind.wrap .i64 (did + n)
  · simp only [↓eD0, ↓eD1, eC0, eC1, eC2, eC3, eC4, eC5, eC6, wantedE, ↓reduceIte, Nat.reduceEqDiff, Option.map_some, Option.map_none, reread, List.nil_append, List.cons_append, List.map_cons, List.map_nil, List.length_nil, List.length_cons, Value.cells, List.getElem?_cons_zero, List.getElem?_cons_succ, outE, lks, lkR, rdV, neg1, evs, opt, Nat.reduceAdd, Nat.reduceMul, and_self, reduceCtorEq, List.size_toArray, List.all_cons, List.all_nil, Value.oneCell', List.set_cons_zero, List.set_cons_succ, sets, fillL, Nat.reduceLeDiff, List.drop_succ_cons, List.drop_zero, List.take_succ_cons, List.take_zero, List.toList_toArray, argsE, Array.append_empty, Array.empty_append, List.getElem?_toArray, Int.reduceLT, Int.reduceLE, Int.reduceToNat, Int.reduceEq, Nat.reduceLT, rd1_eq, wrN_eq, hb, gb, c20, c19, c17, cl, s20, s19, set_set, hbi, Int.toNat_natCast, g3', h1, hw, true_or]
    exact ⟨_, by omega, rfl⟩
  · by_cases h2 : n = 0
    · subst h2
      simp only [↓eD0, ↓eD1, eC0, eC1, eC2, eC3, eC4, eC5, eC6, wantedE, ↓reduceIte, Nat.reduceEqDiff, Option.map_some, Option.map_none, reread, List.nil_append, List.cons_append, List.map_cons, List.map_nil, List.length_nil, List.length_cons, Value.cells, List.getElem?_cons_zero, List.getElem?_cons_succ, outE, lks, lkR, rdV, neg1, evs, opt, Nat.reduceAdd, Nat.reduceMul, and_self, reduceCtorEq, List.size_toArray, List.all_cons, List.all_nil, Value.oneCell', List.set_cons_zero, List.set_cons_succ, sets, fillL, Nat.reduceLeDiff, List.drop_succ_cons, List.drop_zero, List.take_succ_cons, List.take_zero, List.toList_toArray, argsE, Array.append_empty, Array.empty_append, List.getElem?_toArray, Int.reduceLT, Int.reduceLE, Int.reduceToNat, Int.reduceEq, Nat.reduceLT, rd1_eq, wrN_eq, hb, gb, c20, c19, c17, cl, s20, s19, set_set, hbi, Int.toNat_natCast, g3', h1, hw, or_true]
      exact ⟨_, by omega, rfl⟩
    · simp only [↓eD0, ↓eD1, eC0, eC1, eC2, eC3, eC4, eC5, eC6, wantedE, ↓reduceIte, Nat.reduceEqDiff, Option.map_some, Option.map_none, reread, List.nil_append, List.cons_append, List.map_cons, List.map_nil, List.length_nil, List.length_cons, Value.cells, List.getElem?_cons_zero, List.getElem?_cons_succ, outE, lks, lkR, rdV, neg1, evs, opt, Nat.reduceAdd, Nat.reduceMul, and_self, reduceCtorEq, List.size_toArray, List.all_cons, List.all_nil, Value.oneCell', List.set_cons_zero, List.set_cons_succ, sets, fillL, Nat.reduceLeDiff, List.drop_succ_cons, List.drop_zero, List.take_succ_cons, List.take_zero, List.toList_toArray, argsE, Array.append_empty, Array.empty_append, List.getElem?_toArray, Int.reduceLT, Int.reduceLE, Int.reduceToNat, Int.reduceEq, Nat.reduceLT, rd1_eq, wrN_eq, hb, gb, c20, c19, c17, cl, s20, s19, set_set, hbi, Int.toNat_natCast, g3', h1, h2, hw, or_self]
      exact ⟨_, by omega, rfl⟩
end Go.Proofs.YtljmjkpmkpchoaaDoor

set_option linter.unusedSimpArgs false
namespace Go.Proofs.YtljmjkpmkpchoaaDoor
open Go Go.Cn Go.RowKit

/-- What a comparison of two logs ends with. -/
inductive CR where
  | goesOn
  | stop (a b : Nat) (e : Ent) (extra : Bool)

def sameE (x y : Ent) : Prop := x.kind = y.kind ∧ x.cpu = y.cpu ∧ x.count = y.count ∧ x.n = y.n ∧ x.data = y.data
instance (x y : Ent) : Decidable (sameE x y) := by unfold sameE; infer_instance

/-- The comparison, a step at a time: places, what was done of each. -/
def contF (A B : List Ent) : Nat → Nat → Nat → Int → Int → CR
  | 0, _, _, _, _ => .goesOn
  | f + 1, i, k, da, db =>
    match A[i]?, B[k]? with
    | none, _ => .goesOn
    | some x, none => .stop i k x false
    | some x, some y =>
      if x.kind = 1 ∧ y.kind = 1 ∧ x.cpu = y.cpu then
        if x.n - da < y.n - db then contF A B f (i + 1) k 0 (db + (x.n - da))
        else if y.n - db < x.n - da then contF A B f i (k + 1) (da + (y.n - db)) 0
        else contF A B f (i + 1) (k + 1) 0 0
      else if x.kind ≠ 1 ∧ sameE x y then contF A B f (i + 1) (k + 1) 0 0
      else if x.kind = 1 ∧ y.kind ≠ 1 then .stop i k y true
      else .stop i k x false

/-- Slices have steps, and not too many. -/
def Sized (A : List Ent) : Prop := ∀ e ∈ A, e.kind = 1 → 1 ≤ e.n ∧ e.n ≤ 1099511627776

/-- Where the comparison of one log stands. -/
def Mid (A : List Ent) (i : Nat) (d : Int) : Prop := 0 ≤ d ∧ (d ≠ 0 → ∃ x, A[i]? = some x ∧ x.kind = 1 ∧ d < x.n)
end Go.Proofs.YtljmjkpmkpchoaaDoor

set_option linter.unusedSimpArgs false
namespace Go.Proofs.YtljmjkpmkpchoaaDoor
open Go Go.Cn Go.RowKit

def digC (d : List Int) : List Value := d.map (.int .u8)

theorem aggEq_dig : ∀ {n : Nat} {a b : List Int}, a.length = n → b.length = n → aggEq (List.replicate n (.int .u8)) (digC a) (digC b) = some (decide (a = b))
  | 0, [], [], _, _ => rfl
  | n + 1, x :: a, y :: b, h1, h2 => by
    have ih := aggEq_dig (n := n) (a := a) (b := b) (by simpa using h1) (by simpa using h2)
    simp only [digC, List.map_cons] at ih ⊢
    simp only [List.replicate_succ, aggEq, Leaf.fits, leafEq, ih, decide_true, and_self, ↓reduceIte]
    by_cases hx : x = y <;> by_cases ha : a = b <;> simp [hx, ha]

theorem sets_all : ∀ {l z : List Value} {o : Nat}, o + l.length ≤ z.length → sets z o l = z.take o ++ l ++ z.drop (o + l.length)
  | [], z, o, _ => by simp [sets]
  | v :: l, z, o, h => by
    have h' : o + 1 + l.length ≤ (z.set o v).length := by simp at h ⊢; omega
    rw [sets, sets_all h']
    have hlt : o < z.length := by simp at h; omega
    have e1 : (z.set o v).take (o + 1) = z.take o ++ [v] := by
      rw [List.take_succ_eq_append_getElem (by simpa using hlt)]
      rw [List.take_set_of_le (by omega)]
      simp
    have e2 : (z.set o v).drop (o + 1 + l.length) = z.drop (o + (v :: l).length) := by
      rw [List.drop_set_of_lt (by omega)]
      simp; congr 1; omega
    rw [e1, e2]
    simp
end Go.Proofs.YtljmjkpmkpchoaaDoor

set_option linter.unusedSimpArgs false
namespace Go.Proofs.YtljmjkpmkpchoaaDoor
open Go Go.Cn Go.RowKit

/-- The cells of a log. -/
structure IsLog (σ : H) (l : List Value) (d : List Int) (c : Int) (E : List Ent) : Prop where
  len : l.length = 19
  dig : l.take 16 = digC d
  d16 : d.length = 16
  cpus : l[16]? = some (.int .i64 c)
  ents : ∃ sl, l[17]? = some sl ∧ Row σ 5 sl (E.map entV)
  few : E.length < 9223372036854775807

theorem IsLog.Old {σ τ : H} {l : List Value} {d : List Int} {c : Int} {E : List Ent} (h : IsLog σ l d c E) (ho : Old σ τ) : IsLog τ l d c E :=
  ⟨h.len, h.dig, h.d16, h.cpus, let ⟨sl, h1, h2⟩ := h.ents; ⟨sl, h1, h2.Old ho⟩, h.few⟩

/-- The cells of an obstacle. -/
def obsV (a b : Int) (e : Ent) (x : Bool) : List Value := [.int .i64 0, .int .i64 a, .int .i64 b] ++ entV e ++ [.bool x]
end Go.Proofs.YtljmjkpmkpchoaaDoor
