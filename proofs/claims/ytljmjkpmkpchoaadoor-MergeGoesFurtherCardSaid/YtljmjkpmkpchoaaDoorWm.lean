/- Walks and plain laws. Conditions: none. -/
import Derived.Test.YtljmjkpmkpchoaaDoorWl
set_option linter.all false
set_option linter.unusedSimpArgs false
set_option maxRecDepth 10000
set_option maxHeartbeats 1000000
namespace Go.Proofs.YtljmjkpmkpchoaaDoor
open Go Go.Cn Go.RowKit

/-- The next entry that is not a slice (with fuel). -/
def skipS (B : List Ent) : Nat → Nat → Nat
  | 0, k => k
  | f + 1, k => match B[k]? with
    | some y => if y.kind = 1 then skipS B f (k + 1) else k
    | none => k
/-- The comparison of inputs: the entries from place i on, up to n. -/
def alkF (A B : List Ent) (m : Int) : Nat → Nat → Nat → Option Nat
  | 0, _, k => some k
  | f + 1, i, k => match A[i]? with
    | none => some k
    | some x =>
      if x.kind = 1 then alkF A B m f (i + 1) k
      else match B[skipS B (B.length - k) k]? with
        | none => none
        | some y => if 0 ≤ m ∧ m ≤ (skipS B (B.length - k) k : Nat) then none else if sameE y x then alkF A B m f (i + 1) (skipS B (B.length - k) k + 1) else none
/-- The last slices before a place. -/
def skipT (B : List Ent) (m : Int) : Nat → Nat → Nat
  | 0, k => k
  | f + 1, k => if (k : Int) < m then (match B[k]? with
    | some y => if y.kind = 1 then skipT B m f (k + 1) else k
    | none => k) else k
def alikeF (A : List Ent) (n : Nat) (B : List Ent) (m : Int) : Bool :=
  match alkF A B m n 0 0 with
  | none => false
  | some k => decide (m < 0) || decide (m ≤ (skipT B m (B.length - k) k : Nat))

theorem skipS_bounds {B : List Ent} : ∀ {f k : Nat}, k ≤ B.length → k ≤ skipS B f k ∧ skipS B f k ≤ B.length
  | 0, k, h => ⟨Nat.le_refl _, h⟩
  | f + 1, k, h => by
    rw [skipS]
    split
    · rename_i y hy
      have hk := (List.getElem?_eq_some_iff.1 hy).1
      split
      · have := skipS_bounds (B := B) (f := f) (k := k + 1) (by omega); omega
      · exact ⟨Nat.le_refl _, h⟩
    · exact ⟨Nat.le_refl _, h⟩
theorem skipS_step {B : List Ent} {k : Nat} {y : Ent} (hy : B[k]? = some y) : skipS B (B.length - k) k = if y.kind = 1 then skipS B (B.length - (k + 1)) (k + 1) else k := by
  have hk := (List.getElem?_eq_some_iff.1 hy).1
  have : B.length - k = (B.length - (k + 1)) + 1 := by omega
  rw [this, skipS, hy]
theorem skipS_end {B : List Ent} {k : Nat} (hk : B.length ≤ k) : skipS B (B.length - k) k = k := by
  have : B.length - k = 0 := by omega
  rw [this]; rfl

theorem alike_app {σ : H} {la lb : List Value} {A B : Lg} {n : Nat} {m : Int} (hA : IsLg σ la A) (hB : IsLg σ lb B) (hn : n ≤ A.E.length) (hm : m ≤ B.E.length) :
    App Tryd.prog (.func 19) #[] #[.agg la.toArray, .int .i64 n, .agg lb.toArray, .int .i64 m] σ fun v σ' => σ' = σ ∧ v = .bool (alikeF A.E n B.E m) := by
  refine App.forget (App.of_sem mixed Tryd.func19 t19 k19 r19 (Nat.le_of_ble_eq_true rfl) ?_)
  obtain ⟨a1, b1, a2, b2, rfl, rA, _, _⟩ := hA.recs
  obtain ⟨c1, d1, c2, d2, rfl, rB, _, _⟩ := hB.recs
  have hd := hA.log.d16
  have hd' := hB.log.d16
  have fA := hA.fewE
  have fB := hB.fewE
  unfold s19
  have e0 : ap σ [] = σ := ap_nil
  rw [← e0]
  simp only [↓eD0, ↓eD1, eC0, eC1, eC2, eC3, eC4, eC5, eC6, wantedE, ↓reduceIte, Nat.reduceEqDiff, Option.map_some, Option.map_none, reread, List.nil_append, List.cons_append, List.map_cons, List.map_nil, List.length_nil, List.length_cons, Value.cells, List.getElem?_cons_zero, List.getElem?_cons_succ, outE, lks, lkR, rdV, neg1, evs, opt, Nat.reduceAdd, Nat.reduceMul, and_self, reduceCtorEq, List.size_toArray, List.all_cons, List.all_nil, Value.oneCell', List.set_cons_zero, List.set_cons_succ, sets, fillL, Nat.reduceLeDiff, List.drop_succ_cons, List.drop_zero, List.take_succ_cons, List.take_zero, List.toList_toArray, argsE, Array.append_empty, Array.empty_append, List.getElem?_toArray, Int.reduceLT, Int.reduceLE, Int.reduceToNat, Int.reduceEq, Nat.reduceLT]
  generalize hT : ap σ [.cells 0 (recC A.d A.c (.slice a1 A.E.length b1) (.slice a2 A.S.length b2)) (0, 0), .cells 0 (recC B.d B.c (.slice c1 B.E.length d1) (.slice c2 B.S.length d2)) (0, 0)] = T
  have ho : Old σ T := hT ▸ .ap
  have tA : rd1 T ⟨σ.size, 17, none⟩ = some (.slice a1 A.E.length b1) := by rw [← hT, rd1_ap0]; exact rec17 hd
  have tB : rd1 T ⟨σ.size + 1, 17, none⟩ = some (.slice c1 B.E.length d1) := by rw [← hT, rd1_ap]; exact rec17 hd'
  refine loop_for (J := fun i e τ => i ≤ n ∧ τ = T ∧ ∃ k : Nat, e = [(1, .int .i64 n), (3, .int .i64 m), (4, .pointer (some ⟨σ.size, 0, none⟩)), (6, .pointer (some ⟨σ.size + 1, 0, none⟩)), (9, .int .i64 k), (10, .int .i64 i)] ∧ k ≤ B.E.length ∧ alkF A.E B.E m (n - i) i k = alkF A.E B.E m n 0 0) n
    ⟨by omega, rfl, 0, rfl, by omega, rfl⟩ ?_
  rintro i e τ hi ⟨_, rfl, k, rfl, hk, hF⟩
  simp only [↓eD0, ↓eD1, eC0, eC1, eC2, eC3, eC4, eC5, eC6, wantedE, ↓reduceIte, Nat.reduceEqDiff, Option.map_some, Option.map_none, reread, List.nil_append, List.cons_append, List.map_cons, List.map_nil, List.length_nil, List.length_cons, Value.cells, List.getElem?_cons_zero, List.getElem?_cons_succ, outE, lks, lkR, rdV, neg1, evs, opt, Nat.reduceAdd, Nat.reduceMul, and_self, reduceCtorEq, List.size_toArray, List.all_cons, List.all_nil, Value.oneCell', List.set_cons_zero, List.set_cons_succ, sets, fillL, Nat.reduceLeDiff, List.drop_succ_cons, List.drop_zero, List.take_succ_cons, List.take_zero, List.toList_toArray, argsE, Array.append_empty, Array.empty_append, List.getElem?_toArray, Int.reduceLT, Int.reduceLE, Int.reduceToNat, Int.reduceEq, Nat.reduceLT]
  refine onI_dec (fun hlt => ?_) (fun hge => ?_)
  · have hlt : i < n := by omega
    obtain ⟨x, hx⟩ : ∃ x, A.E[i]? = some x := ⟨A.E[i], by rw [List.getElem?_eq_getElem (by omega)]⟩
    obtain ⟨ba, oa, rfl, ha5⟩ := rA.at (i := i) (x := entV x) (by simp [hx])
    have ha5 : rdN τ ⟨ba, oa + i * 5, none⟩ 5 = some (entV x) := rdN_Old ho ha5
    have hak : rd1 τ ⟨ba, oa + i * 5, none⟩ = some (.int .i64 x.kind) := rd1_row ha5 (j := 0) rfl
    have bi : (0:Int) ≤ (i:Int) ∧ (i:Int) < (A.E.length : Int) := by omega
    have wi : IntKind.wrap .i64 ((i:Int) + 1) = ((i + 1 : Nat) : Int) := by rw [wrap64 (by omega) (by omega)]; omega
    have hstep : alkF A.E B.E m (n - i) i k = if x.kind = 1 then alkF A.E B.E m (n - (i + 1)) (i + 1) k
        else match B.E[skipS B.E (B.E.length - k) k]? with
          | none => none
          | some y => if 0 ≤ m ∧ m ≤ (skipS B.E (B.E.length - k) k : Nat) then none else if sameE y x then alkF A.E B.E m (n - (i + 1)) (i + 1) (skipS B.E (B.E.length - k) k + 1) else none := by
      have : n - i = (n - (i + 1)) + 1 := by omega
      rw [this, alkF, hx]
    simp only [↓eD0, ↓eD1, eC0, eC1, eC2, eC3, eC4, eC5, eC6, wantedE, ↓reduceIte, Nat.reduceEqDiff, Option.map_some, Option.map_none, reread, List.nil_append, List.cons_append, List.map_cons, List.map_nil, List.length_nil, List.length_cons, Value.cells, List.getElem?_cons_zero, List.getElem?_cons_succ, outE, lks, lkR, rdV, neg1, evs, opt, Nat.reduceAdd, Nat.reduceMul, and_self, reduceCtorEq, List.size_toArray, List.all_cons, List.all_nil, Value.oneCell', List.set_cons_zero, List.set_cons_succ, sets, fillL, Nat.reduceLeDiff, List.drop_succ_cons, List.drop_zero, List.take_succ_cons, List.take_zero, List.toList_toArray, argsE, Array.append_empty, Array.empty_append, List.getElem?_toArray, Int.reduceLT, Int.reduceLE, Int.reduceToNat, Int.reduceEq, Nat.reduceLT, tA, bi, Int.toNat_natCast, hak]
    by_cases hxk : x.kind = 1
    · have hdec : decide (x.kind = 1) = true := by simpa using hxk
      simp only [↓eD0, ↓eD1, eC0, eC1, eC2, eC3, eC4, eC5, eC6, wantedE, ↓reduceIte, Nat.reduceEqDiff, Option.map_some, Option.map_none, reread, List.nil_append, List.cons_append, List.map_cons, List.map_nil, List.length_nil, List.length_cons, Value.cells, List.getElem?_cons_zero, List.getElem?_cons_succ, outE, lks, lkR, rdV, neg1, evs, opt, Nat.reduceAdd, Nat.reduceMul, and_self, reduceCtorEq, List.size_toArray, List.all_cons, List.all_nil, Value.oneCell', List.set_cons_zero, List.set_cons_succ, sets, fillL, Nat.reduceLeDiff, List.drop_succ_cons, List.drop_zero, List.take_succ_cons, List.take_zero, List.toList_toArray, argsE, Array.append_empty, Array.empty_append, List.getElem?_toArray, Int.reduceLT, Int.reduceLE, Int.reduceToNat, Int.reduceEq, Nat.reduceLT, hdec, wi]
      refine ⟨hlt, by omega, k, rfl, hk, ?_⟩
      rw [← hF, hstep, if_pos hxk]
    · have hdec : decide (x.kind = 1) = false := by simpa using hxk
      simp only [↓eD0, ↓eD1, eC0, eC1, eC2, eC3, eC4, eC5, eC6, wantedE, ↓reduceIte, Nat.reduceEqDiff, Option.map_some, Option.map_none, reread, List.nil_append, List.cons_append, List.map_cons, List.map_nil, List.length_nil, List.length_cons, Value.cells, List.getElem?_cons_zero, List.getElem?_cons_succ, outE, lks, lkR, rdV, neg1, evs, opt, Nat.reduceAdd, Nat.reduceMul, and_self, reduceCtorEq, List.size_toArray, List.all_cons, List.all_nil, Value.oneCell', List.set_cons_zero, List.set_cons_succ, sets, fillL, Nat.reduceLeDiff, List.drop_succ_cons, List.drop_zero, List.take_succ_cons, List.take_zero, List.toList_toArray, argsE, Array.append_empty, Array.empty_append, List.getElem?_toArray, Int.reduceLT, Int.reduceLE, Int.reduceToNat, Int.reduceEq, Nat.reduceLT, hdec]
      refine loop_of (fun q e τ' => τ' = τ ∧ ∃ k' : Nat, e = [(1, .int .i64 n), (3, .int .i64 m), (4, .pointer (some ⟨σ.size, 0, none⟩)), (6, .pointer (some ⟨σ.size + 1, 0, none⟩)), (9, .int .i64 k'), (10, .int .i64 i)] ∧ k' ≤ B.E.length ∧ q = B.E.length - k' ∧ skipS B.E (B.E.length - k') k' = skipS B.E (B.E.length - k) k) (B.E.length - k)
        ⟨rfl, k, rfl, hk, rfl, rfl⟩ ?_
      rintro q e τ' ⟨rfl, k', rfl, hk', rfl, hS⟩
      by_cases hlb : k' < B.E.length
      · obtain ⟨y, hy⟩ : ∃ y, B.E[k']? = some y := ⟨B.E[k'], by rw [List.getElem?_eq_getElem (by omega)]⟩
        obtain ⟨bb, ob, rfl, hb5⟩ := rB.at (i := k') (x := entV y) (by simp [hy])
        have hb5 : rdN τ' ⟨bb, ob + k' * 5, none⟩ 5 = some (entV y) := rdN_Old ho hb5
        have hbk : rd1 τ' ⟨bb, ob + k' * 5, none⟩ = some (.int .i64 y.kind) := rd1_row hb5 (j := 0) rfl
        have bk : (0:Int) ≤ (k':Int) ∧ (k':Int) < (B.E.length : Int) := by omega
        have wk : IntKind.wrap .i64 ((k':Int) + 1) = ((k' + 1 : Nat) : Int) := by rw [wrap64 (by omega) (by omega)]; omega
        have dl : decide ((k':Int) < (B.E.length : Int)) = true := by simpa using hlb
        have dg : decide ((B.E.length : Int) ≤ (k':Int)) = false := by simp; omega
        have hSt := skipS_step hy
        simp only [↓eD0, ↓eD1, eC0, eC1, eC2, eC3, eC4, eC5, eC6, wantedE, ↓reduceIte, Nat.reduceEqDiff, Option.map_some, Option.map_none, reread, List.nil_append, List.cons_append, List.map_cons, List.map_nil, List.length_nil, List.length_cons, Value.cells, List.getElem?_cons_zero, List.getElem?_cons_succ, outE, lks, lkR, rdV, neg1, evs, opt, Nat.reduceAdd, Nat.reduceMul, and_self, reduceCtorEq, List.size_toArray, List.all_cons, List.all_nil, Value.oneCell', List.set_cons_zero, List.set_cons_succ, sets, fillL, Nat.reduceLeDiff, List.drop_succ_cons, List.drop_zero, List.take_succ_cons, List.take_zero, List.toList_toArray, argsE, Array.append_empty, Array.empty_append, List.getElem?_toArray, Int.reduceLT, Int.reduceLE, Int.reduceToNat, Int.reduceEq, Nat.reduceLT, tA, tB, dl, bk, bi, Int.toNat_natCast, hbk]
        by_cases hyk : y.kind = 1
        · have hdy : decide (y.kind = 1) = true := by simpa using hyk
          simp only [↓eD0, ↓eD1, eC0, eC1, eC2, eC3, eC4, eC5, eC6, wantedE, ↓reduceIte, Nat.reduceEqDiff, Option.map_some, Option.map_none, reread, List.nil_append, List.cons_append, List.map_cons, List.map_nil, List.length_nil, List.length_cons, Value.cells, List.getElem?_cons_zero, List.getElem?_cons_succ, outE, lks, lkR, rdV, neg1, evs, opt, Nat.reduceAdd, Nat.reduceMul, and_self, reduceCtorEq, List.size_toArray, List.all_cons, List.all_nil, Value.oneCell', List.set_cons_zero, List.set_cons_succ, sets, fillL, Nat.reduceLeDiff, List.drop_succ_cons, List.drop_zero, List.take_succ_cons, List.take_zero, List.toList_toArray, argsE, Array.append_empty, Array.empty_append, List.getElem?_toArray, Int.reduceLT, Int.reduceLE, Int.reduceToNat, Int.reduceEq, Nat.reduceLT, hdy, wk]
          refine ⟨B.E.length - (k' + 1), by omega, k' + 1, rfl, by omega, rfl, ?_⟩
          rw [← hS, hSt, if_pos hyk]
        · have hdy : decide (y.kind = 1) = false := by simpa using hyk
          have hK : skipS B.E (B.E.length - k) k = k' := by rw [← hS, hSt, if_neg hyk]
          rw [hK, hy] at hstep
          simp only [↓eD0, ↓eD1, eC0, eC1, eC2, eC3, eC4, eC5, eC6, wantedE, ↓reduceIte, Nat.reduceEqDiff, Option.map_some, Option.map_none, reread, List.nil_append, List.cons_append, List.map_cons, List.map_nil, List.length_nil, List.length_cons, Value.cells, List.getElem?_cons_zero, List.getElem?_cons_succ, outE, lks, lkR, rdV, neg1, evs, opt, Nat.reduceAdd, Nat.reduceMul, and_self, reduceCtorEq, List.size_toArray, List.all_cons, List.all_nil, Value.oneCell', List.set_cons_zero, List.set_cons_succ, sets, fillL, Nat.reduceLeDiff, List.drop_succ_cons, List.drop_zero, List.take_succ_cons, List.take_zero, List.toList_toArray, argsE, Array.append_empty, Array.empty_append, List.getElem?_toArray, Int.reduceLT, Int.reduceLE, Int.reduceToNat, Int.reduceEq, Nat.reduceLT, hdy, tA, tB, dl, dg, bk, bi, Int.toNat_natCast, hbk, ha5, hb5, entV, ent_eq]
          rw [if_neg hxk] at hstep
          by_cases hm0 : 0 ≤ m
          · by_cases hmk : m ≤ (k' : Int)
            · simp only [↓eD0, ↓eD1, eC0, eC1, eC2, eC3, eC4, eC5, eC6, wantedE, ↓reduceIte, Nat.reduceEqDiff, Option.map_some, Option.map_none, reread, List.nil_append, List.cons_append, List.map_cons, List.map_nil, List.length_nil, List.length_cons, Value.cells, List.getElem?_cons_zero, List.getElem?_cons_succ, outE, lks, lkR, rdV, neg1, evs, opt, Nat.reduceAdd, Nat.reduceMul, and_self, reduceCtorEq, List.size_toArray, List.all_cons, List.all_nil, Value.oneCell', List.set_cons_zero, List.set_cons_succ, sets, fillL, Nat.reduceLeDiff, List.drop_succ_cons, List.drop_zero, List.take_succ_cons, List.take_zero, List.toList_toArray, argsE, Array.append_empty, Array.empty_append, List.getElem?_toArray, Int.reduceLT, Int.reduceLE, Int.reduceToNat, Int.reduceEq, Nat.reduceLT, hdy, tA, tB, dl, dg, bk, bi, Int.toNat_natCast, hbk, ha5, hb5, entV, ent_eq, hm0, hmk]
              refine ⟨ho, by simp [flat], ?_⟩
              have hz : alkF A.E B.E m n 0 0 = none := by rw [← hF, hstep]; simp only; rw [if_pos ⟨hm0, hmk⟩]
              rw [alikeF, hz]
            · have hst2 : alkF A.E B.E m (n - i) i k = if sameE y x then alkF A.E B.E m (n - (i + 1)) (i + 1) (k' + 1) else none := by rw [hstep]; simp only; rw [if_neg (fun h => hmk h.2)]
              simp only [↓eD0, ↓eD1, eC0, eC1, eC2, eC3, eC4, eC5, eC6, wantedE, ↓reduceIte, Nat.reduceEqDiff, Option.map_some, Option.map_none, reread, List.nil_append, List.cons_append, List.map_cons, List.map_nil, List.length_nil, List.length_cons, Value.cells, List.getElem?_cons_zero, List.getElem?_cons_succ, outE, lks, lkR, rdV, neg1, evs, opt, Nat.reduceAdd, Nat.reduceMul, and_self, reduceCtorEq, List.size_toArray, List.all_cons, List.all_nil, Value.oneCell', List.set_cons_zero, List.set_cons_succ, sets, fillL, Nat.reduceLeDiff, List.drop_succ_cons, List.drop_zero, List.take_succ_cons, List.take_zero, List.toList_toArray, argsE, Array.append_empty, Array.empty_append, List.getElem?_toArray, Int.reduceLT, Int.reduceLE, Int.reduceToNat, Int.reduceEq, Nat.reduceLT, hdy, tA, tB, dl, dg, bk, bi, Int.toNat_natCast, hbk, ha5, hb5, entV, ent_eq, hm0, hmk]
              by_cases hs : y.kind = x.kind ∧ y.cpu = x.cpu ∧ y.count = x.count ∧ y.n = x.n ∧ y.data = x.data
              · have hds : decide (y.kind = x.kind ∧ y.cpu = x.cpu ∧ y.count = x.count ∧ y.n = x.n ∧ y.data = x.data) = true := by simpa using hs
                simp only [↓eD0, ↓eD1, eC0, eC1, eC2, eC3, eC4, eC5, eC6, wantedE, ↓reduceIte, Nat.reduceEqDiff, Option.map_some, Option.map_none, reread, List.nil_append, List.cons_append, List.map_cons, List.map_nil, List.length_nil, List.length_cons, Value.cells, List.getElem?_cons_zero, List.getElem?_cons_succ, outE, lks, lkR, rdV, neg1, evs, opt, Nat.reduceAdd, Nat.reduceMul, and_self, reduceCtorEq, List.size_toArray, List.all_cons, List.all_nil, Value.oneCell', List.set_cons_zero, List.set_cons_succ, sets, fillL, Nat.reduceLeDiff, List.drop_succ_cons, List.drop_zero, List.take_succ_cons, List.take_zero, List.toList_toArray, argsE, Array.append_empty, Array.empty_append, List.getElem?_toArray, Int.reduceLT, Int.reduceLE, Int.reduceToNat, Int.reduceEq, Nat.reduceLT, hds, wk, wi]
                refine ⟨hlt, by omega, k' + 1, rfl, by omega, ?_⟩
                rw [← hF, hst2, if_pos (show sameE y x from hs)]
              · have hds : decide (y.kind = x.kind ∧ y.cpu = x.cpu ∧ y.count = x.count ∧ y.n = x.n ∧ y.data = x.data) = false := by simpa using hs
                simp only [↓eD0, ↓eD1, eC0, eC1, eC2, eC3, eC4, eC5, eC6, wantedE, ↓reduceIte, Nat.reduceEqDiff, Option.map_some, Option.map_none, reread, List.nil_append, List.cons_append, List.map_cons, List.map_nil, List.length_nil, List.length_cons, Value.cells, List.getElem?_cons_zero, List.getElem?_cons_succ, outE, lks, lkR, rdV, neg1, evs, opt, Nat.reduceAdd, Nat.reduceMul, and_self, reduceCtorEq, List.size_toArray, List.all_cons, List.all_nil, Value.oneCell', List.set_cons_zero, List.set_cons_succ, sets, fillL, Nat.reduceLeDiff, List.drop_succ_cons, List.drop_zero, List.take_succ_cons, List.take_zero, List.toList_toArray, argsE, Array.append_empty, Array.empty_append, List.getElem?_toArray, Int.reduceLT, Int.reduceLE, Int.reduceToNat, Int.reduceEq, Nat.reduceLT, hds]
                refine ⟨ho, by simp [flat], ?_⟩
                have hz : alkF A.E B.E m n 0 0 = none := by rw [← hF, hst2, if_neg (show ¬ sameE y x from hs)]
                rw [alikeF, hz]
          · have hst2 : alkF A.E B.E m (n - i) i k = if sameE y x then alkF A.E B.E m (n - (i + 1)) (i + 1) (k' + 1) else none := by rw [hstep]; simp only; rw [if_neg (fun h => hm0 h.1)]
            simp only [↓eD0, ↓eD1, eC0, eC1, eC2, eC3, eC4, eC5, eC6, wantedE, ↓reduceIte, Nat.reduceEqDiff, Option.map_some, Option.map_none, reread, List.nil_append, List.cons_append, List.map_cons, List.map_nil, List.length_nil, List.length_cons, Value.cells, List.getElem?_cons_zero, List.getElem?_cons_succ, outE, lks, lkR, rdV, neg1, evs, opt, Nat.reduceAdd, Nat.reduceMul, and_self, reduceCtorEq, List.size_toArray, List.all_cons, List.all_nil, Value.oneCell', List.set_cons_zero, List.set_cons_succ, sets, fillL, Nat.reduceLeDiff, List.drop_succ_cons, List.drop_zero, List.take_succ_cons, List.take_zero, List.toList_toArray, argsE, Array.append_empty, Array.empty_append, List.getElem?_toArray, Int.reduceLT, Int.reduceLE, Int.reduceToNat, Int.reduceEq, Nat.reduceLT, hdy, tA, tB, dl, dg, bk, bi, Int.toNat_natCast, hbk, ha5, hb5, entV, ent_eq, hm0]
            by_cases hs : y.kind = x.kind ∧ y.cpu = x.cpu ∧ y.count = x.count ∧ y.n = x.n ∧ y.data = x.data
            · have hds : decide (y.kind = x.kind ∧ y.cpu = x.cpu ∧ y.count = x.count ∧ y.n = x.n ∧ y.data = x.data) = true := by simpa using hs
              simp only [↓eD0, ↓eD1, eC0, eC1, eC2, eC3, eC4, eC5, eC6, wantedE, ↓reduceIte, Nat.reduceEqDiff, Option.map_some, Option.map_none, reread, List.nil_append, List.cons_append, List.map_cons, List.map_nil, List.length_nil, List.length_cons, Value.cells, List.getElem?_cons_zero, List.getElem?_cons_succ, outE, lks, lkR, rdV, neg1, evs, opt, Nat.reduceAdd, Nat.reduceMul, and_self, reduceCtorEq, List.size_toArray, List.all_cons, List.all_nil, Value.oneCell', List.set_cons_zero, List.set_cons_succ, sets, fillL, Nat.reduceLeDiff, List.drop_succ_cons, List.drop_zero, List.take_succ_cons, List.take_zero, List.toList_toArray, argsE, Array.append_empty, Array.empty_append, List.getElem?_toArray, Int.reduceLT, Int.reduceLE, Int.reduceToNat, Int.reduceEq, Nat.reduceLT, hds, wk, wi]
              refine ⟨hlt, by omega, k' + 1, rfl, by omega, ?_⟩
              rw [← hF, hst2, if_pos (show sameE y x from hs)]
            · have hds : decide (y.kind = x.kind ∧ y.cpu = x.cpu ∧ y.count = x.count ∧ y.n = x.n ∧ y.data = x.data) = false := by simpa using hs
              simp only [↓eD0, ↓eD1, eC0, eC1, eC2, eC3, eC4, eC5, eC6, wantedE, ↓reduceIte, Nat.reduceEqDiff, Option.map_some, Option.map_none, reread, List.nil_append, List.cons_append, List.map_cons, List.map_nil, List.length_nil, List.length_cons, Value.cells, List.getElem?_cons_zero, List.getElem?_cons_succ, outE, lks, lkR, rdV, neg1, evs, opt, Nat.reduceAdd, Nat.reduceMul, and_self, reduceCtorEq, List.size_toArray, List.all_cons, List.all_nil, Value.oneCell', List.set_cons_zero, List.set_cons_succ, sets, fillL, Nat.reduceLeDiff, List.drop_succ_cons, List.drop_zero, List.take_succ_cons, List.take_zero, List.toList_toArray, argsE, Array.append_empty, Array.empty_append, List.getElem?_toArray, Int.reduceLT, Int.reduceLE, Int.reduceToNat, Int.reduceEq, Nat.reduceLT, hds]
              refine ⟨ho, by simp [flat], ?_⟩
              have hz : alkF A.E B.E m n 0 0 = none := by rw [← hF, hst2, if_neg (show ¬ sameE y x from hs)]
              rw [alikeF, hz]
      · have dl : decide ((k':Int) < (B.E.length : Int)) = false := by simp; omega
        have dg : decide ((B.E.length : Int) ≤ (k':Int)) = true := by simp; omega
        have hK : skipS B.E (B.E.length - k) k = k' := by rw [← hS, skipS_end (by omega)]
        have hy : B.E[k']? = none := by simp; omega
        rw [hK, hy, if_neg hxk] at hstep
        simp only [↓eD0, ↓eD1, eC0, eC1, eC2, eC3, eC4, eC5, eC6, wantedE, ↓reduceIte, Nat.reduceEqDiff, Option.map_some, Option.map_none, reread, List.nil_append, List.cons_append, List.map_cons, List.map_nil, List.length_nil, List.length_cons, Value.cells, List.getElem?_cons_zero, List.getElem?_cons_succ, outE, lks, lkR, rdV, neg1, evs, opt, Nat.reduceAdd, Nat.reduceMul, and_self, reduceCtorEq, List.size_toArray, List.all_cons, List.all_nil, Value.oneCell', List.set_cons_zero, List.set_cons_succ, sets, fillL, Nat.reduceLeDiff, List.drop_succ_cons, List.drop_zero, List.take_succ_cons, List.take_zero, List.toList_toArray, argsE, Array.append_empty, Array.empty_append, List.getElem?_toArray, Int.reduceLT, Int.reduceLE, Int.reduceToNat, Int.reduceEq, Nat.reduceLT, tA, tB, dl, dg]
        refine ⟨ho, by simp [flat], ?_⟩
        rw [alikeF, ← hF, hstep]
  · have : i = n := by omega
    subst this
    have hk0 : alkF A.E B.E m i 0 0 = some k := by rw [← hF, Nat.sub_self]; rfl
    simp only [↓eD0, ↓eD1, eC0, eC1, eC2, eC3, eC4, eC5, eC6, wantedE, ↓reduceIte, Nat.reduceEqDiff, Option.map_some, Option.map_none, reread, List.nil_append, List.cons_append, List.map_cons, List.map_nil, List.length_nil, List.length_cons, Value.cells, List.getElem?_cons_zero, List.getElem?_cons_succ, outE, lks, lkR, rdV, neg1, evs, opt, Nat.reduceAdd, Nat.reduceMul, and_self, reduceCtorEq, List.size_toArray, List.all_cons, List.all_nil, Value.oneCell', List.set_cons_zero, List.set_cons_succ, sets, fillL, Nat.reduceLeDiff, List.drop_succ_cons, List.drop_zero, List.take_succ_cons, List.take_zero, List.toList_toArray, argsE, Array.append_empty, Array.empty_append, List.getElem?_toArray, Int.reduceLT, Int.reduceLE, Int.reduceToNat, Int.reduceEq, Nat.reduceLT]
    refine loop_of (fun q e τ' => τ' = τ ∧ ∃ k' : Nat, e = [(3, .int .i64 m), (6, .pointer (some ⟨σ.size + 1, 0, none⟩)), (9, .int .i64 k')] ∧ k' ≤ B.E.length ∧ q = B.E.length - k' ∧ skipT B.E m (B.E.length - k') k' = skipT B.E m (B.E.length - k) k) (B.E.length - k)
      ⟨rfl, k, rfl, hk, rfl, rfl⟩ ?_
    rintro q e τ' ⟨rfl, k', rfl, hk', rfl, hS⟩
    have hend : skipT B.E m (B.E.length - k) k = k' → alikeF A.E i B.E m = (decide (m < 0) || decide (m ≤ (k' : Int))) := fun h => by rw [alikeF, hk0]; simp only; rw [h]
    by_cases hkm : (k' : Int) < m
    · obtain ⟨y, hy⟩ : ∃ y, B.E[k']? = some y := ⟨B.E[k'], by rw [List.getElem?_eq_getElem (by omega)]⟩
      obtain ⟨bb, ob, rfl, hb5⟩ := rB.at (i := k') (x := entV y) (by simp [hy])
      have hb5 : rdN τ' ⟨bb, ob + k' * 5, none⟩ 5 = some (entV y) := rdN_Old ho hb5
      have hbk : rd1 τ' ⟨bb, ob + k' * 5, none⟩ = some (.int .i64 y.kind) := rd1_row hb5 (j := 0) rfl
      have hlb : k' < B.E.length := (List.getElem?_eq_some_iff.1 hy).1
      have bk : (0:Int) ≤ (k':Int) ∧ (k':Int) < (B.E.length : Int) := by omega
      have wk : IntKind.wrap .i64 ((k':Int) + 1) = ((k' + 1 : Nat) : Int) := by rw [wrap64 (by omega) (by omega)]; omega
      have hSt : skipT B.E m (B.E.length - k') k' = if y.kind = 1 then skipT B.E m (B.E.length - (k' + 1)) (k' + 1) else k' := by
        have : B.E.length - k' = (B.E.length - (k' + 1)) + 1 := by omega
        rw [this, skipT, if_pos hkm, hy]
      have dm : decide ((k':Int) < m) = true := by simpa using hkm
      simp only [↓eD0, ↓eD1, eC0, eC1, eC2, eC3, eC4, eC5, eC6, wantedE, ↓reduceIte, Nat.reduceEqDiff, Option.map_some, Option.map_none, reread, List.nil_append, List.cons_append, List.map_cons, List.map_nil, List.length_nil, List.length_cons, Value.cells, List.getElem?_cons_zero, List.getElem?_cons_succ, outE, lks, lkR, rdV, neg1, evs, opt, Nat.reduceAdd, Nat.reduceMul, and_self, reduceCtorEq, List.size_toArray, List.all_cons, List.all_nil, Value.oneCell', List.set_cons_zero, List.set_cons_succ, sets, fillL, Nat.reduceLeDiff, List.drop_succ_cons, List.drop_zero, List.take_succ_cons, List.take_zero, List.toList_toArray, argsE, Array.append_empty, Array.empty_append, List.getElem?_toArray, Int.reduceLT, Int.reduceLE, Int.reduceToNat, Int.reduceEq, Nat.reduceLT, tB, dm, bk, Int.toNat_natCast, hbk]
      by_cases hyk : y.kind = 1
      · have hdy : decide (y.kind = 1) = true := by simpa using hyk
        simp only [↓eD0, ↓eD1, eC0, eC1, eC2, eC3, eC4, eC5, eC6, wantedE, ↓reduceIte, Nat.reduceEqDiff, Option.map_some, Option.map_none, reread, List.nil_append, List.cons_append, List.map_cons, List.map_nil, List.length_nil, List.length_cons, Value.cells, List.getElem?_cons_zero, List.getElem?_cons_succ, outE, lks, lkR, rdV, neg1, evs, opt, Nat.reduceAdd, Nat.reduceMul, and_self, reduceCtorEq, List.size_toArray, List.all_cons, List.all_nil, Value.oneCell', List.set_cons_zero, List.set_cons_succ, sets, fillL, Nat.reduceLeDiff, List.drop_succ_cons, List.drop_zero, List.take_succ_cons, List.take_zero, List.toList_toArray, argsE, Array.append_empty, Array.empty_append, List.getElem?_toArray, Int.reduceLT, Int.reduceLE, Int.reduceToNat, Int.reduceEq, Nat.reduceLT, hdy, wk]
        refine ⟨B.E.length - (k' + 1), by omega, k' + 1, rfl, by omega, rfl, ?_⟩
        rw [← hS, hSt, if_pos hyk]
      · have hdy : decide (y.kind = 1) = false := by simpa using hyk
        have hK : skipT B.E m (B.E.length - k) k = k' := by rw [← hS, hSt, if_neg hyk]
        have d0 : decide (m < 0) = false := by simp; omega
        have d1 : decide (m ≤ (k' : Int)) = false := by simp; omega
        simp only [↓eD0, ↓eD1, eC0, eC1, eC2, eC3, eC4, eC5, eC6, wantedE, ↓reduceIte, Nat.reduceEqDiff, Option.map_some, Option.map_none, reread, List.nil_append, List.cons_append, List.map_cons, List.map_nil, List.length_nil, List.length_cons, Value.cells, List.getElem?_cons_zero, List.getElem?_cons_succ, outE, lks, lkR, rdV, neg1, evs, opt, Nat.reduceAdd, Nat.reduceMul, and_self, reduceCtorEq, List.size_toArray, List.all_cons, List.all_nil, Value.oneCell', List.set_cons_zero, List.set_cons_succ, sets, fillL, Nat.reduceLeDiff, List.drop_succ_cons, List.drop_zero, List.take_succ_cons, List.take_zero, List.toList_toArray, argsE, Array.append_empty, Array.empty_append, List.getElem?_toArray, Int.reduceLT, Int.reduceLE, Int.reduceToNat, Int.reduceEq, Nat.reduceLT, hdy, d0, d1]
        exact ⟨ho, by simp [flat], by rw [hend hK, d0, d1]; rfl⟩
    · have dm : decide ((k':Int) < m) = false := by simpa using hkm
      have hK : skipT B.E m (B.E.length - k) k = k' := by
        rw [← hS]
        cases hf : B.E.length - k' with
        | zero => rfl
        | succ f => rw [skipT, if_neg hkm]
      have d1 : decide (m ≤ (k' : Int)) = true := by simp; omega
      by_cases hm0 : m < 0
      · have d0 : decide (m < 0) = true := by simpa using hm0
        simp only [↓eD0, ↓eD1, eC0, eC1, eC2, eC3, eC4, eC5, eC6, wantedE, ↓reduceIte, Nat.reduceEqDiff, Option.map_some, Option.map_none, reread, List.nil_append, List.cons_append, List.map_cons, List.map_nil, List.length_nil, List.length_cons, Value.cells, List.getElem?_cons_zero, List.getElem?_cons_succ, outE, lks, lkR, rdV, neg1, evs, opt, Nat.reduceAdd, Nat.reduceMul, and_self, reduceCtorEq, List.size_toArray, List.all_cons, List.all_nil, Value.oneCell', List.set_cons_zero, List.set_cons_succ, sets, fillL, Nat.reduceLeDiff, List.drop_succ_cons, List.drop_zero, List.take_succ_cons, List.take_zero, List.toList_toArray, argsE, Array.append_empty, Array.empty_append, List.getElem?_toArray, Int.reduceLT, Int.reduceLE, Int.reduceToNat, Int.reduceEq, Nat.reduceLT, dm, d0]
        exact ⟨ho, by simp [flat], by rw [hend hK, d0]; rfl⟩
      · have d0 : decide (m < 0) = false := by simpa using hm0
        simp only [↓eD0, ↓eD1, eC0, eC1, eC2, eC3, eC4, eC5, eC6, wantedE, ↓reduceIte, Nat.reduceEqDiff, Option.map_some, Option.map_none, reread, List.nil_append, List.cons_append, List.map_cons, List.map_nil, List.length_nil, List.length_cons, Value.cells, List.getElem?_cons_zero, List.getElem?_cons_succ, outE, lks, lkR, rdV, neg1, evs, opt, Nat.reduceAdd, Nat.reduceMul, and_self, reduceCtorEq, List.size_toArray, List.all_cons, List.all_nil, Value.oneCell', List.set_cons_zero, List.set_cons_succ, sets, fillL, Nat.reduceLeDiff, List.drop_succ_cons, List.drop_zero, List.take_succ_cons, List.take_zero, List.toList_toArray, argsE, Array.append_empty, Array.empty_append, List.getElem?_toArray, Int.reduceLT, Int.reduceLE, Int.reduceToNat, Int.reduceEq, Nat.reduceLT, dm, d0, d1]
        exact ⟨ho, by simp [flat], by rw [hend hK, d0, d1]; rfl⟩
end Go.Proofs.YtljmjkpmkpchoaaDoor

set_option linter.unusedSimpArgs false
namespace Go.Proofs.YtljmjkpmkpchoaaDoor
open Go Go.Cn Go.RowKit

/-- What was read of the one is what was read of the other. -/
def Even (A B : List Ent) (i k : Nat) (da db : Int) : Prop := ∃ C, exp A = C ++ rem A i da ∧ exp B = C ++ rem B k db ∧ C = exp (A.take i) ++ (exp (A.drop i)).take da.toNat ∧ C = exp (B.take k) ++ (exp (B.drop k)).take db.toNat

theorem part_eq {A : List Ent} {i : Nat} {d : Int} : exp A = (exp (A.take i) ++ (exp (A.drop i)).take d.toNat) ++ rem A i d := by
  rw [rem, List.append_assoc, List.take_append_drop, ← exp_append, List.take_append_drop]

theorem even_of {A B : List Ent} {i k : Nat} {da db : Int} (h : exp (A.take i) ++ (exp (A.drop i)).take da.toNat = exp (B.take k) ++ (exp (B.drop k)).take db.toNat) : Even A B i k da db :=
  ⟨_, part_eq, by rw [h]; exact part_eq, rfl, h⟩
theorem even_eq {A B : List Ent} {i k : Nat} {da db : Int} (h : Even A B i k da db) : exp (A.take i) ++ (exp (A.drop i)).take da.toNat = exp (B.take k) ++ (exp (B.drop k)).take db.toNat := by
  obtain ⟨C, _, _, h1, h2⟩ := h
  rw [← h1, h2]

/-- The end of an entry: the part read of it is it. -/
theorem read_end {A : List Ent} {i : Nat} {x : Ent} (h : A[i]? = some x) : exp (A.take (i + 1)) ++ (exp (A.drop (i + 1))).take 0 = exp (A.take i) ++ expE x := by
  have hi := (List.getElem?_eq_some_iff.1 h).1
  have hx := (List.getElem?_eq_some_iff.1 h).2
  rw [List.take_zero, List.append_nil, List.take_succ_eq_append_getElem hi, exp_append, hx]
  simp [exp]
theorem read_part {A : List Ent} {i : Nat} {d : Int} {x : Ent} (h : A[i]? = some x) (hx : x.kind = 1) (h0 : 0 ≤ d) (hd : d ≤ x.n) : (exp (A.drop i)).take d.toNat = List.replicate d.toNat (.step x.cpu) := by
  rw [exp_drop h, expE, if_pos hx, List.take_append_of_le_length (by simp; omega), List.take_replicate]
  congr 1
  omega

/-- One step of the comparison, at a stop. -/
def Stops (A B : List Ent) (i k : Nat) (e : Ent) (x : Bool) : Prop :=
  ∃ a, A[i]? = some a ∧ ((B[k]? = none ∧ e = a ∧ x = false) ∨ ∃ b, B[k]? = some b ∧ ¬ (a.kind = 1 ∧ b.kind = 1 ∧ a.cpu = b.cpu) ∧ ¬ (a.kind ≠ 1 ∧ sameE a b) ∧
    ((a.kind = 1 ∧ b.kind ≠ 1 ∧ e = b ∧ x = true) ∨ (¬ (a.kind = 1 ∧ b.kind ≠ 1) ∧ e = a ∧ x = false)))

theorem cont_stop {A B : List Ent} (sa : Sized A) (sb : Sized B) : ∀ (f i k : Nat) (da db : Int) {i' k' : Nat} {e : Ent} {x : Bool}, Mid A i da → Mid B k db → Even A B i k da db → contF A B f i k da db = .stop i' k' e x →
    ∃ da' db', Mid A i' da' ∧ Mid B k' db' ∧ Even A B i' k' da' db' ∧ Stops A B i' k' e x := by
  intro f
  induction f with
  | zero => intro i k da db i' k' e x _ _ _ h; cases h
  | succ f ih =>
    intro i k da db i' k' e x ma mb he h
    rw [contF] at h
    cases hx : A[i]? with
    | none => rw [hx] at h; cases h
    | some a =>
      cases hy : B[k]? with
      | none =>
        rw [hx, hy] at h
        simp only at h
        injection h with h1 h2 h3 h4
        subst h1 h2 h3 h4
        exact ⟨da, db, ma, mb, he, a, hx, .inl ⟨hy, rfl, rfl⟩⟩
      | some b =>
        rw [hx, hy] at h
        simp only at h
        by_cases hc : a.kind = 1 ∧ b.kind = 1 ∧ a.cpu = b.cpu
        · rw [if_pos hc] at h
          obtain ⟨h1, h2, h3⟩ := hc
          obtain ⟨a1, a2⟩ := mid_lt ma sa hx h1
          obtain ⟨b1, b2⟩ := mid_lt mb sb hy h2
          have ee := even_eq he
          rw [read_part hx h1 a1 (by omega), read_part hy h2 b1 (by omega)] at ee
          by_cases q1 : a.n - da < b.n - db
          · rw [if_pos q1] at h
            refine ih _ _ _ _ mid_zero ⟨by omega, fun _ => ⟨b, hy, h2, by omega⟩⟩ (even_of ?_) h
            rw [show (0:Int).toNat = 0 from rfl, read_end hx, read_part hy h2 (by omega) (by omega), expE, if_pos h1]
            have e1 : a.n.toNat = da.toNat + (a.n - da).toNat := by omega
            have e2 : (db + (a.n - da)).toNat = db.toNat + (a.n - da).toNat := by omega
            rw [e1, e2, ← List.replicate_append_replicate, ← List.replicate_append_replicate, ← List.append_assoc, ← List.append_assoc, ee, h3]
          · rw [if_neg q1] at h
            by_cases q2 : b.n - db < a.n - da
            · rw [if_pos q2] at h
              refine ih _ _ _ _ ⟨by omega, fun _ => ⟨a, hx, h1, by omega⟩⟩ mid_zero (even_of ?_) h
              rw [show (0:Int).toNat = 0 from rfl, read_end hy, read_part hx h1 (by omega) (by omega), expE, if_pos h2]
              have e1 : b.n.toNat = db.toNat + (b.n - db).toNat := by omega
              have e2 : (da + (b.n - db)).toNat = da.toNat + (b.n - db).toNat := by omega
              rw [e1, e2, ← List.replicate_append_replicate, ← List.replicate_append_replicate, ← List.append_assoc, ← List.append_assoc, ee, h3]
            · rw [if_neg q2] at h
              refine ih _ _ _ _ mid_zero mid_zero (even_of ?_) h
              rw [show (0:Int).toNat = 0 from rfl, read_end hx, read_end hy, expE, expE, if_pos h1, if_pos h2]
              have e1 : a.n.toNat = da.toNat + (a.n - da).toNat := by omega
              have e2 : b.n.toNat = db.toNat + (a.n - da).toNat := by omega
              rw [e1, e2, ← List.replicate_append_replicate, ← List.replicate_append_replicate, ← List.append_assoc, ← List.append_assoc, ee, h3]
        · rw [if_neg hc] at h
          by_cases hs : a.kind ≠ 1 ∧ sameE a b
          · rw [if_pos hs] at h
            have hab := ent_ext hs.2
            subst hab
            have z1 := mid0 ma hx hs.1
            have z2 := mid0 mb hy hs.1
            subst z1 z2
            have ee := even_eq he
            simp only [show (0:Int).toNat = 0 from rfl, List.take_zero, List.append_nil] at ee
            refine ih _ _ _ _ mid_zero mid_zero (even_of ?_) h
            rw [show (0:Int).toNat = 0 from rfl, read_end hx, read_end hy, ee]
          · rw [if_neg hs] at h
            by_cases hq : a.kind = 1 ∧ b.kind ≠ 1
            · rw [if_pos hq] at h
              injection h with g1 g2 g3 g4
              subst g1 g2 g3 g4
              exact ⟨da, db, ma, mb, he, a, hx, .inr ⟨b, hy, hc, hs, .inl ⟨hq.1, hq.2, rfl, rfl⟩⟩⟩
            · rw [if_neg hq] at h
              injection h with g1 g2 g3 g4
              subst g1 g2 g3 g4
              exact ⟨da, db, ma, mb, he, a, hx, .inr ⟨b, hy, hc, hs, .inr ⟨hq, rfl, rfl⟩⟩⟩

/-- What was read before a stop is a beginning of both. -/
theorem stop_before {A B : List Ent} {i k : Nat} {da db : Int} (he : Even A B i k da db) : exp (A.take i) <+: exp B := by
  obtain ⟨C, _, h2, h3, _⟩ := he
  rw [h2, h3, List.append_assoc]
  exact List.prefix_append _ _

/-- With the entry of the stop it is none. -/
theorem stop_more {A B : List Ent} (sa : Sized A) (sb : Sized B) {i k : Nat} {da db : Int} {e : Ent} {x : Bool} (ma : Mid A i da) (mb : Mid B k db) (he : Even A B i k da db) (hs : Stops A B i k e x) : ¬ exp (A.take (i + 1)) <+: exp B := by
  obtain ⟨C, h1, h2, h3, h4⟩ := he
  obtain ⟨a, hx, hs⟩ := hs
  have hi := (List.getElem?_eq_some_iff.1 hx).1
  have hx' : (A.take (i + 1))[i]? = some a := by rw [List.getElem?_take, if_pos (by omega), hx]
  have ma' : Mid (A.take (i + 1)) i da := ⟨ma.1, fun h => by
    obtain ⟨y, hy, h5, h6⟩ := ma.2 h
    rw [hx] at hy; injection hy with hy; subst hy
    exact ⟨a, hx', h5, h6⟩⟩
  have hp := cont_prefix (sized_take sa (i + 1)) sb ((A.take (i + 1)).length + B.length + 1) i k da db ma' mb (by omega)
  have hC : exp (A.take (i + 1)) = C ++ rem (A.take (i + 1)) i da := by
    rw [part_eq (A := A.take (i + 1)) (i := i) (d := da)]
    congr 1
    rw [h3, List.take_take, Nat.min_eq_left (by omega)]
    congr 1
    by_cases hk : a.kind = 1
    · obtain ⟨q1, q2⟩ := mid_lt ma sa hx hk
      rw [read_part hx' hk q1 (by omega), read_part hx hk q1 (by omega)]
    · have := mid0 ma hx hk
      subst this
      simp
  rw [hC, h2, List.prefix_append_right_inj, ← hp]
  rw [contF, hx']
  rcases hs with ⟨hy, _, _⟩ | ⟨b, hy, g1, g2, g3⟩
  · rw [hy]; simp [CR.is]
  · rw [hy]
    simp only
    rw [if_neg g1, if_neg g2]
    split <;> simp [CR.is]
end Go.Proofs.YtljmjkpmkpchoaaDoor

set_option linter.unusedSimpArgs false
namespace Go.Proofs.YtljmjkpmkpchoaaDoor
open Go Go.Cn Go.RowKit

/-- The inputs of a log. -/
def ins (E : List Ent) : List Ent := E.filter fun e => decide (e.kind ≠ 1)
theorem ins_cons_slice {x : Ent} {E : List Ent} (h : x.kind = 1) : ins (x :: E) = ins E := by simp [ins, h]
theorem ins_cons_inp {x : Ent} {E : List Ent} (h : x.kind ≠ 1) : ins (x :: E) = x :: ins E := by simp [ins, h]
theorem ins_nil : ins [] = [] := rfl
theorem ins_app {A B : List Ent} : ins (A ++ B) = ins A ++ ins B := by simp [ins]

def insT (l : List Tok) : List Ent := l.filterMap fun t => match t with | .inp e => some e | .step _ => none
theorem insT_rep {n : Nat} {c : Int} : insT (List.replicate n (.step c)) = [] := by
  induction n with
  | zero => rfl
  | succ n ih => rw [List.replicate_succ, insT, List.filterMap_cons]; exact ih
theorem insT_app {a b : List Tok} : insT (a ++ b) = insT a ++ insT b := by simp [insT]
theorem insT_exp : ∀ {E : List Ent}, insT (exp E) = ins E
  | [] => rfl
  | x :: E => by
    rw [exp_cons, insT_app, insT_exp, expE]
    by_cases h : x.kind = 1
    · rw [if_pos h, insT_rep, ins_cons_slice h]; rfl
    · rw [if_neg h, ins_cons_inp h]; rfl
theorem insT_part {A : List Ent} {i : Nat} {d : Int} (sa : Sized A) (hm : Mid A i d) : insT ((exp (A.drop i)).take d.toNat) = [] := by
  by_cases h : d = 0
  · subst h; rfl
  · obtain ⟨x, hx, h1, h2⟩ := hm.2 h
    rw [read_part hx h1 hm.1 (by omega), insT_rep]
theorem even_ins {A B : List Ent} {i k : Nat} {da db : Int} (sa : Sized A) (sb : Sized B) (ma : Mid A i da) (mb : Mid B k db) (h : Even A B i k da db) : ins (A.take i) = ins (B.take k) := by
  have := congrArg insT (even_eq h)
  rwa [insT_app, insT_app, insT_part sa ma, insT_part sb mb, List.append_nil, List.append_nil, insT_exp, insT_exp] at this

theorem drop_take_get {B : List Ent} {M k : Nat} {y : Ent} (hy : B[k]? = some y) (hk : k < M) : (B.take M).drop k = y :: (B.take M).drop (k + 1) := by
  have h1 := (List.getElem?_eq_some_iff.1 hy).1
  have h2 := (List.getElem?_eq_some_iff.1 hy).2
  rw [List.drop_eq_getElem_cons (by simp; omega)]
  congr 1
  simp [h2]

/-- What is found by the next entry that is not a slice. -/
theorem skip_ins {B : List Ent} {M : Nat} (hM : M ≤ B.length) : ∀ (f k : Nat), k ≤ B.length → f = B.length - k →
    ins ((B.take M).drop k) = match B[skipS B f k]? with
      | some y => if skipS B f k < M then y :: ins ((B.take M).drop (skipS B f k + 1)) else []
      | none => []
  | 0, k, hk, hf => by
    have : B[skipS B 0 k]? = none := by simp [skipS]; omega
    rw [this, List.drop_eq_nil_of_le (by simp; omega)]
    rfl
  | f + 1, k, hk, hf => by
    rw [skipS]
    obtain ⟨y, hy⟩ : ∃ y, B[k]? = some y := ⟨B[k], by rw [List.getElem?_eq_getElem (by omega)]⟩
    rw [hy]
    simp only
    by_cases hyk : y.kind = 1
    · rw [if_pos hyk, ← skip_ins hM f (k + 1) (by omega) (by omega)]
      by_cases hkM : k < M
      · rw [drop_take_get hy hkM, ins_cons_slice hyk]
      · rw [List.drop_eq_nil_of_le (by simp; omega), List.drop_eq_nil_of_le (by simp; omega)]
    · rw [if_neg hyk, hy]
      simp only
      split
      · rename_i hkM
        rw [drop_take_get hy hkM, ins_cons_inp hyk]
      · rename_i hkM
        rw [List.drop_eq_nil_of_le (by simp; omega)]
        rfl

theorem alk_ok {A B : List Ent} {m : Int} {M : Nat} (hM : M ≤ B.length) (h1 : 0 ≤ m → M = m.toNat) (h2 : m < 0 → M = B.length) : ∀ (f i k : Nat), k ≤ B.length → i + f ≤ A.length → ins ((A.drop i).take f) <+: ins ((B.take M).drop k) →
    ∃ k', alkF A B m f i k = some k' ∧ k' ≤ B.length ∧ ins ((B.take M).drop k) = ins ((A.drop i).take f) ++ ins ((B.take M).drop k')
  | 0, i, k, hk, _, _ => ⟨k, rfl, hk, by simp [ins]⟩
  | f + 1, i, k, hk, hi, hp => by
    obtain ⟨x, hx⟩ : ∃ x, A[i]? = some x := ⟨A[i], by rw [List.getElem?_eq_getElem (by omega)]⟩
    have hx2 := (List.getElem?_eq_some_iff.1 hx).2
    have hd : (A.drop i).take (f + 1) = x :: (A.drop (i + 1)).take f := by
      rw [List.drop_eq_getElem_cons (by omega), List.take_succ_cons, hx2]
    rw [hd] at hp ⊢
    rw [alkF, hx]
    simp only
    by_cases hxk : x.kind = 1
    · rw [if_pos hxk]
      rw [ins_cons_slice hxk] at hp ⊢
      exact alk_ok hM h1 h2 f (i + 1) k hk (by omega) hp
    · rw [if_neg hxk]
      rw [ins_cons_inp hxk] at hp ⊢
      have hs := skip_ins hM (B.length - k) k hk rfl
      have hsb := skipS_bounds (B := B) (f := B.length - k) hk
      generalize skipS B (B.length - k) k = K at hs hsb ⊢
      cases hy : B[K]? with
      | none =>
        rw [hy] at hs
        simp only at hs
        rw [hs] at hp
        have := List.prefix_nil.1 hp
        cases this
      | some y =>
        have hKl := (List.getElem?_eq_some_iff.1 hy).1
        rw [hy] at hs
        simp only at hs ⊢
        by_cases hKM : K < M
        · rw [if_pos hKM] at hs
          rw [hs, List.cons_prefix_cons] at hp
          obtain ⟨rfl, hp⟩ := hp
          have hn : ¬ (0 ≤ m ∧ m ≤ (K : Int)) := by
            rintro ⟨g1, g2⟩
            have := h1 g1
            omega
          rw [if_neg hn, if_pos ⟨rfl, rfl, rfl, rfl, rfl⟩]
          obtain ⟨k', e1, e2, e3⟩ := alk_ok hM h1 h2 f (i + 1) (K + 1) (by omega) (by omega) hp
          exact ⟨k', e1, e2, by rw [hs, e3]; rfl⟩
        · rw [if_neg hKM] at hs
          rw [hs] at hp
          have := List.prefix_nil.1 hp
          cases this

theorem skipT_all {B : List Ent} {m : Int} {M : Nat} (hM : M ≤ B.length) (h1 : M = m.toNat) (hm : 0 ≤ m) : ∀ (f k : Nat), k ≤ B.length → f = B.length - k → ins ((B.take M).drop k) = [] → m ≤ (skipT B m f k : Nat)
  | 0, k, hk, hf, _ => by rw [skipT]; omega
  | f + 1, k, hk, hf, hi => by
    rw [skipT]
    split
    · rename_i hkm
      obtain ⟨y, hy⟩ : ∃ y, B[k]? = some y := ⟨B[k], by rw [List.getElem?_eq_getElem (by omega)]⟩
      rw [drop_take_get hy (by omega)] at hi
      rw [hy]
      simp only
      by_cases hyk : y.kind = 1
      · rw [if_pos hyk]
        rw [ins_cons_slice hyk] at hi
        exact skipT_all hM h1 hm f (k + 1) (by omega) (by omega) hi
      · rw [ins_cons_inp hyk] at hi; cases hi
    · omega

theorem alike_upto {A B : List Ent} {i k : Nat} (hi : i ≤ A.length) (hk : k ≤ B.length) (h : ins (A.take i) = ins (B.take k)) : alikeF A i B k = true := by
  obtain ⟨k', e1, e2, e3⟩ := alk_ok (A := A) (B := B) (m := k) (M := k) hk (by omega) (by omega) i 0 0 (by omega) (by omega) (by simp [h])
  rw [alikeF, e1]
  simp only [List.drop_zero] at e3
  have : ins ((B.take k).drop k') = [] := by
    rw [h] at e3
    have := congrArg List.length e3
    rw [List.length_append] at this
    exact List.length_eq_zero_iff.1 (by omega)
  have := skipT_all (B := B) (m := (k : Int)) (M := k) hk (by omega) (by omega) (B.length - k') k' e2 rfl this
  simp only [Bool.or_eq_true, decide_eq_true_eq]
  exact .inr this
theorem alike_all {A B : List Ent} (h : ins A <+: ins B) : alikeF A A.length B (-1) = true := by
  obtain ⟨k', e1, _, _⟩ := alk_ok (A := A) (B := B) (m := -1) (M := B.length) (Nat.le_refl _) (by omega) (by omega) A.length 0 0 (by omega) (by omega) (by simpa using h)
  rw [alikeF, e1]
  rfl
theorem prefix_ins {A B : List Ent} (h : exp A <+: exp B) : ins A <+: ins B := by
  obtain ⟨C, hC⟩ := h
  rw [← insT_exp, ← insT_exp, ← hC, insT_app]
  exact List.prefix_append _ _
end Go.Proofs.YtljmjkpmkpchoaaDoor

set_option linter.unusedSimpArgs false
set_option linter.unusedVariables false
set_option maxRecDepth 10000
set_option maxHeartbeats 1000000
namespace Go.Proofs.YtljmjkpmkpchoaaDoor
open Go Go.Cn Go.RowKit

theorem cont_bound {A B : List Ent} : ∀ (f i k : Nat) (da db : Int) {i' k' : Nat} {e : Ent} {x : Bool}, k ≤ B.length → contF A B f i k da db = .stop i' k' e x → k' ≤ B.length := by
  intro f
  induction f with
  | zero => intro i k da db i' k' e x _ h; cases h
  | succ f ih =>
    intro i k da db i' k' e x hk h
    rw [contF] at h
    cases hx : A[i]? with
    | none => rw [hx] at h; cases h
    | some a =>
      cases hy : B[k]? with
      | none =>
        rw [hx, hy] at h
        simp only at h
        injection h with h1 h2 h3 h4
        omega
      | some b =>
        have hlt := (List.getElem?_eq_some_iff.1 hy).1
        rw [hx, hy] at h
        simp only at h
        split at h
        · split at h
          · exact ih _ _ _ _ (by omega) h
          · split at h
            · exact ih _ _ _ _ (by omega) h
            · exact ih _ _ _ _ (by omega) h
        · split at h
          · exact ih _ _ _ _ (by omega) h
          · split at h
            · injection h with h1 h2 h3 h4; omega
            · injection h with h1 h2 h3 h4; omega

theorem stop_all {A B : List Ent} (sa : Sized A) (sb : Sized B) {i k : Nat} {e : Ent} {x : Bool} (h : contF A B (A.length + B.length + 1) 0 0 0 0 = .stop i k e x) :
    Stops A B i k e x ∧ k ≤ B.length ∧ exp (A.take i) <+: exp B ∧ ¬ exp (A.take (i + 1)) <+: exp B ∧ alikeF A i B k = true := by
  obtain ⟨da, db, ma, mb, he, hs⟩ := cont_stop sa sb _ 0 0 0 0 mid_zero mid_zero (even_of (by simp)) h
  have hb := cont_bound _ _ _ _ _ (Nat.zero_le _) h
  refine ⟨hs, hb, stop_before he, stop_more sa sb ma mb he hs, alike_upto ?_ hb (even_ins sa sb ma mb he)⟩
  obtain ⟨a, hx, _⟩ := hs
  have := (List.getElem?_eq_some_iff.1 hx).1
  omega

theorem cut_nat {L : Lg} {k : Nat} (hk : k ≤ L.E.length) : cutF L k = (⟨L.d, L.c, L.E.take k, filt (fun _ s => decide (s.end_ ≤ (k : Int))) L.S⟩, 0) := by
  unfold cutF; rw [if_neg (by omega), Int.toNat_natCast]
theorem sets21 {x : List Value} (hx : x.length = 21) : sets [.int .u8 0, .int .u8 0, .int .u8 0, .int .u8 0, .int .u8 0, .int .u8 0, .int .u8 0, .int .u8 0, .int .u8 0, .int .u8 0, .int .u8 0, .int .u8 0, .int .u8 0, .int .u8 0, .int .u8 0, .int .u8 0, .int .i64 0, .slice none 0 0, .slice none 0 0, .int .i64 0, .int .i64 0] 0 x = x := by
  rw [sets_all (by rw [hx]; decide), hx, List.drop_eq_nil_of_le (by decide)]
  simp
theorem undef_eq : undef = Value.tuple #[] := _root_.id rfl

theorem law6 {σ : H} {la lb : List Value} {A B : Lg} (ha : RawLg σ la A) (hb : RawLg σ lb B) (hG : Glob σ) :
    App Tryd.prog (.func 6) #[] #[.agg la.toArray, .agg lb.toArray] σ fun v σ' => Old σ σ' ∧ v = .bool true := by
  refine App.of_sem mixed Tryd.func6 t6 k6 r6 (Nat.le_of_ble_eq_true rfl) ?_
  have la1 := ha.len19
  have lb1 := hb.len19
  have ta : la.take 19 = la := List.take_of_length_le (by omega)
  have tb : lb.take 19 = lb := List.take_of_length_le (by omega)
  unfold s6
  have e0 : ap σ [] = σ := ap_nil
  rw [← e0]
  simp only [↓eD0, ↓eD1, eC0, eC1, eC2, eC3, eC4, eC5, eC6, wantedE, ↓reduceIte, Nat.reduceEqDiff, Option.map_some, Option.map_none, reread, List.nil_append, List.cons_append, List.map_cons, List.map_nil, List.length_nil, List.length_cons, Value.cells, List.getElem?_cons_zero, List.getElem?_cons_succ, outE, lks, lkR, rdV, neg1, evs, opt, Nat.reduceAdd, Nat.reduceMul, and_self, reduceCtorEq, List.size_toArray, List.all_cons, List.all_nil, Value.oneCell', List.set_cons_zero, List.set_cons_succ, sets, fillL, Nat.reduceLeDiff, List.drop_succ_cons, List.drop_zero, List.take_succ_cons, List.take_zero, List.toList_toArray, argsE, Array.append_empty, Array.empty_append, List.getElem?_toArray, Int.reduceLT, Int.reduceLE, Int.reduceToNat, Int.reduceEq, Nat.reduceLT, la1, lb1, ta, tb]
  refine appK_of (few_app (ha.old .ap) (hG.Old .ap)) ?_
  rintro _ _ ⟨e2, rfl⟩
  rw [e2]
  clear e2
  cases fa : fewF A
  · simp only [↓eD0, ↓eD1, eC0, eC1, eC2, eC3, eC4, eC5, eC6, wantedE, ↓reduceIte, Nat.reduceEqDiff, Option.map_some, Option.map_none, reread, List.nil_append, List.cons_append, List.map_cons, List.map_nil, List.length_nil, List.length_cons, Value.cells, List.getElem?_cons_zero, List.getElem?_cons_succ, outE, lks, lkR, rdV, neg1, evs, opt, Nat.reduceAdd, Nat.reduceMul, and_self, reduceCtorEq, List.size_toArray, List.all_cons, List.all_nil, Value.oneCell', List.set_cons_zero, List.set_cons_succ, sets, fillL, Nat.reduceLeDiff, List.drop_succ_cons, List.drop_zero, List.take_succ_cons, List.take_zero, List.toList_toArray, argsE, Array.append_empty, Array.empty_append, List.getElem?_toArray, Int.reduceLT, Int.reduceLE, Int.reduceToNat, Int.reduceEq, Nat.reduceLT, fa, la1, lb1, ta, tb]
    refine appK_of sanity_app ?_
    rintro _ _ ⟨e2, rfl⟩
    rw [e2]
    clear e2
    simp only [↓eD0, ↓eD1, eC0, eC1, eC2, eC3, eC4, eC5, eC6, wantedE, ↓reduceIte, Nat.reduceEqDiff, Option.map_some, Option.map_none, reread, List.nil_append, List.cons_append, List.map_cons, List.map_nil, List.length_nil, List.length_cons, Value.cells, List.getElem?_cons_zero, List.getElem?_cons_succ, outE, lks, lkR, rdV, neg1, evs, opt, Nat.reduceAdd, Nat.reduceMul, and_self, reduceCtorEq, List.size_toArray, List.all_cons, List.all_nil, Value.oneCell', List.set_cons_zero, List.set_cons_succ, sets, fillL, Nat.reduceLeDiff, List.drop_succ_cons, List.drop_zero, List.take_succ_cons, List.take_zero, List.toList_toArray, argsE, Array.append_empty, Array.empty_append, List.getElem?_toArray, Int.reduceLT, Int.reduceLE, Int.reduceToNat, Int.reduceEq, Nat.reduceLT]
    exact .ap
  simp only [↓eD0, ↓eD1, eC0, eC1, eC2, eC3, eC4, eC5, eC6, wantedE, ↓reduceIte, Nat.reduceEqDiff, Option.map_some, Option.map_none, reread, List.nil_append, List.cons_append, List.map_cons, List.map_nil, List.length_nil, List.length_cons, Value.cells, List.getElem?_cons_zero, List.getElem?_cons_succ, outE, lks, lkR, rdV, neg1, evs, opt, Nat.reduceAdd, Nat.reduceMul, and_self, reduceCtorEq, List.size_toArray, List.all_cons, List.all_nil, Value.oneCell', List.set_cons_zero, List.set_cons_succ, sets, fillL, Nat.reduceLeDiff, List.drop_succ_cons, List.drop_zero, List.take_succ_cons, List.take_zero, List.toList_toArray, argsE, Array.append_empty, Array.empty_append, List.getElem?_toArray, Int.reduceLT, Int.reduceLE, Int.reduceToNat, Int.reduceEq, Nat.reduceLT, fa, la1, lb1, ta, tb]
  refine appK_of (few_app (hb.old .ap) (hG.Old .ap)) ?_
  rintro _ _ ⟨e2, rfl⟩
  rw [e2]
  clear e2
  cases fb : fewF B
  · simp only [↓eD0, ↓eD1, eC0, eC1, eC2, eC3, eC4, eC5, eC6, wantedE, ↓reduceIte, Nat.reduceEqDiff, Option.map_some, Option.map_none, reread, List.nil_append, List.cons_append, List.map_cons, List.map_nil, List.length_nil, List.length_cons, Value.cells, List.getElem?_cons_zero, List.getElem?_cons_succ, outE, lks, lkR, rdV, neg1, evs, opt, Nat.reduceAdd, Nat.reduceMul, and_self, reduceCtorEq, List.size_toArray, List.all_cons, List.all_nil, Value.oneCell', List.set_cons_zero, List.set_cons_succ, sets, fillL, Nat.reduceLeDiff, List.drop_succ_cons, List.drop_zero, List.take_succ_cons, List.take_zero, List.toList_toArray, argsE, Array.append_empty, Array.empty_append, List.getElem?_toArray, Int.reduceLT, Int.reduceLE, Int.reduceToNat, Int.reduceEq, Nat.reduceLT, fa, fb, la1, lb1, ta, tb]
    refine appK_of sanity_app ?_
    rintro _ _ ⟨e2, rfl⟩
    rw [e2]
    clear e2
    simp only [↓eD0, ↓eD1, eC0, eC1, eC2, eC3, eC4, eC5, eC6, wantedE, ↓reduceIte, Nat.reduceEqDiff, Option.map_some, Option.map_none, reread, List.nil_append, List.cons_append, List.map_cons, List.map_nil, List.length_nil, List.length_cons, Value.cells, List.getElem?_cons_zero, List.getElem?_cons_succ, outE, lks, lkR, rdV, neg1, evs, opt, Nat.reduceAdd, Nat.reduceMul, and_self, reduceCtorEq, List.size_toArray, List.all_cons, List.all_nil, Value.oneCell', List.set_cons_zero, List.set_cons_succ, sets, fillL, Nat.reduceLeDiff, List.drop_succ_cons, List.drop_zero, List.take_succ_cons, List.take_zero, List.toList_toArray, argsE, Array.append_empty, Array.empty_append, List.getElem?_toArray, Int.reduceLT, Int.reduceLE, Int.reduceToNat, Int.reduceEq, Nat.reduceLT]
    exact .ap
  have sa := few_sized fa
  have sb := few_sized fb
  have hA := ha.small fa
  have hB := hb.small fb
  have la2 := hA.log.dig
  have lb2 := hB.log.dig
  have la3 := hA.log.cpus
  have lb3 := hB.log.cpus
  have heq : aggEq (List.replicate 16 (.int .u8)) (digC A.d) (digC B.d) = some (decide (A.d = B.d)) := aggEq_dig hA.log.d16 hB.log.d16
  by_cases hd : A.d = B.d
  case neg =>
    have hdd : decide (A.d = B.d) = false := by simpa using hd
    simp only [↓eD0, ↓eD1, eC0, eC1, eC2, eC3, eC4, eC5, eC6, wantedE, ↓reduceIte, Nat.reduceEqDiff, Option.map_some, Option.map_none, reread, List.nil_append, List.cons_append, List.map_cons, List.map_nil, List.length_nil, List.length_cons, Value.cells, List.getElem?_cons_zero, List.getElem?_cons_succ, outE, lks, lkR, rdV, neg1, evs, opt, Nat.reduceAdd, Nat.reduceMul, and_self, reduceCtorEq, List.size_toArray, List.all_cons, List.all_nil, Value.oneCell', List.set_cons_zero, List.set_cons_succ, sets, fillL, Nat.reduceLeDiff, List.drop_succ_cons, List.drop_zero, List.take_succ_cons, List.take_zero, List.toList_toArray, argsE, Array.append_empty, Array.empty_append, List.getElem?_toArray, Int.reduceLT, Int.reduceLE, Int.reduceToNat, Int.reduceEq, Nat.reduceLT, fa, fb, la1, lb1, ta, tb, la2, lb2, la3, lb3, heq, hdd]
    refine appK_of sanity_app ?_
    rintro _ _ ⟨e2, rfl⟩
    rw [e2]
    clear e2
    simp only [↓eD0, ↓eD1, eC0, eC1, eC2, eC3, eC4, eC5, eC6, wantedE, ↓reduceIte, Nat.reduceEqDiff, Option.map_some, Option.map_none, reread, List.nil_append, List.cons_append, List.map_cons, List.map_nil, List.length_nil, List.length_cons, Value.cells, List.getElem?_cons_zero, List.getElem?_cons_succ, outE, lks, lkR, rdV, neg1, evs, opt, Nat.reduceAdd, Nat.reduceMul, and_self, reduceCtorEq, List.size_toArray, List.all_cons, List.all_nil, Value.oneCell', List.set_cons_zero, List.set_cons_succ, sets, fillL, Nat.reduceLeDiff, List.drop_succ_cons, List.drop_zero, List.take_succ_cons, List.take_zero, List.toList_toArray, argsE, Array.append_empty, Array.empty_append, List.getElem?_toArray, Int.reduceLT, Int.reduceLE, Int.reduceToNat, Int.reduceEq, Nat.reduceLT]
    exact .ap
  have hdd : decide (A.d = B.d) = true := by simpa using hd
  by_cases hc : A.c = B.c
  case neg =>
    have hcc : decide (A.c = B.c) = false := by simpa using hc
    simp only [↓eD0, ↓eD1, eC0, eC1, eC2, eC3, eC4, eC5, eC6, wantedE, ↓reduceIte, Nat.reduceEqDiff, Option.map_some, Option.map_none, reread, List.nil_append, List.cons_append, List.map_cons, List.map_nil, List.length_nil, List.length_cons, Value.cells, List.getElem?_cons_zero, List.getElem?_cons_succ, outE, lks, lkR, rdV, neg1, evs, opt, Nat.reduceAdd, Nat.reduceMul, and_self, reduceCtorEq, List.size_toArray, List.all_cons, List.all_nil, Value.oneCell', List.set_cons_zero, List.set_cons_succ, sets, fillL, Nat.reduceLeDiff, List.drop_succ_cons, List.drop_zero, List.take_succ_cons, List.take_zero, List.toList_toArray, argsE, Array.append_empty, Array.empty_append, List.getElem?_toArray, Int.reduceLT, Int.reduceLE, Int.reduceToNat, Int.reduceEq, Nat.reduceLT, fa, fb, la1, lb1, ta, tb, la2, lb2, la3, lb3, heq, hdd, hcc]
    refine appK_of sanity_app ?_
    rintro _ _ ⟨e2, rfl⟩
    rw [e2]
    clear e2
    simp only [↓eD0, ↓eD1, eC0, eC1, eC2, eC3, eC4, eC5, eC6, wantedE, ↓reduceIte, Nat.reduceEqDiff, Option.map_some, Option.map_none, reread, List.nil_append, List.cons_append, List.map_cons, List.map_nil, List.length_nil, List.length_cons, Value.cells, List.getElem?_cons_zero, List.getElem?_cons_succ, outE, lks, lkR, rdV, neg1, evs, opt, Nat.reduceAdd, Nat.reduceMul, and_self, reduceCtorEq, List.size_toArray, List.all_cons, List.all_nil, Value.oneCell', List.set_cons_zero, List.set_cons_succ, sets, fillL, Nat.reduceLeDiff, List.drop_succ_cons, List.drop_zero, List.take_succ_cons, List.take_zero, List.toList_toArray, argsE, Array.append_empty, Array.empty_append, List.getElem?_toArray, Int.reduceLT, Int.reduceLE, Int.reduceToNat, Int.reduceEq, Nat.reduceLT]
    exact .ap
  have hcc : decide (A.c = B.c) = true := by simpa using hc
  simp only [↓eD0, ↓eD1, eC0, eC1, eC2, eC3, eC4, eC5, eC6, wantedE, ↓reduceIte, Nat.reduceEqDiff, Option.map_some, Option.map_none, reread, List.nil_append, List.cons_append, List.map_cons, List.map_nil, List.length_nil, List.length_cons, Value.cells, List.getElem?_cons_zero, List.getElem?_cons_succ, outE, lks, lkR, rdV, neg1, evs, opt, Nat.reduceAdd, Nat.reduceMul, and_self, reduceCtorEq, List.size_toArray, List.all_cons, List.all_nil, Value.oneCell', List.set_cons_zero, List.set_cons_succ, sets, fillL, Nat.reduceLeDiff, List.drop_succ_cons, List.drop_zero, List.take_succ_cons, List.take_zero, List.toList_toArray, argsE, Array.append_empty, Array.empty_append, List.getElem?_toArray, Int.reduceLT, Int.reduceLE, Int.reduceToNat, Int.reduceEq, Nat.reduceLT, fa, fb, la1, lb1, ta, tb, la2, lb2, la3, lb3, heq, hdd, hcc]
  have own := cont_own sa
  refine appK_of (merge_app (hA.Old .ap).log (hB.Old .ap).log sa sb) ?_
  rintro _ _ ⟨e2, rfl⟩
  rw [e2]
  clear e2
  obtain ⟨a1, b1, a2, b2, hla, rA, _, _⟩ := hA.recs
  obtain ⟨c1, d1, c2, d2, hlb, rB, _, _⟩ := hB.recs
  have l17 : la[17]? = some (.slice a1 A.E.length b1) := by rw [hla]; exact rec17 hA.log.d16
  have m17 : lb[17]? = some (.slice c1 B.E.length d1) := by rw [hlb]; exact rec17 hB.log.d16
  have eA := (few_of fa).1
  have eB := (few_of fb).1
  have hcR : contR A.d A.c A.E B.d B.c B.E = contF A.E B.E (A.E.length + B.E.length + 1) 0 0 0 0 := by
    unfold contR; rw [if_neg (by simp [hd, hc])]
  cases hr : contR A.d A.c A.E B.d B.c B.E with
  | goesOn =>
    have hv : contV CR.goesOn = .tuple #[.agg #[.int .i64 0, .int .i64 0, .int .i64 0, .int .i64 0, .int .i64 0, .int .i64 0, .int .i64 0, .string ⟨#[]⟩, .bool false], .bool true] := rfl
    simp only [↓eD0, ↓eD1, eC0, eC1, eC2, eC3, eC4, eC5, eC6, wantedE, ↓reduceIte, Nat.reduceEqDiff, Option.map_some, Option.map_none, reread, List.nil_append, List.cons_append, List.map_cons, List.map_nil, List.length_nil, List.length_cons, Value.cells, List.getElem?_cons_zero, List.getElem?_cons_succ, outE, lks, lkR, rdV, neg1, evs, opt, Nat.reduceAdd, Nat.reduceMul, and_self, reduceCtorEq, List.size_toArray, List.all_cons, List.all_nil, Value.oneCell', List.set_cons_zero, List.set_cons_succ, sets, fillL, Nat.reduceLeDiff, List.drop_succ_cons, List.drop_zero, List.take_succ_cons, List.take_zero, List.toList_toArray, argsE, Array.append_empty, Array.empty_append, List.getElem?_toArray, Int.reduceLT, Int.reduceLE, Int.reduceToNat, Int.reduceEq, Nat.reduceLT, hv]
    refine appK_of sanity_app ?_
    rintro _ _ ⟨e2, rfl⟩
    rw [e2]
    clear e2
    simp only [↓eD0, ↓eD1, eC0, eC1, eC2, eC3, eC4, eC5, eC6, wantedE, ↓reduceIte, Nat.reduceEqDiff, Option.map_some, Option.map_none, reread, List.nil_append, List.cons_append, List.map_cons, List.map_nil, List.length_nil, List.length_cons, Value.cells, List.getElem?_cons_zero, List.getElem?_cons_succ, outE, lks, lkR, rdV, neg1, evs, opt, Nat.reduceAdd, Nat.reduceMul, and_self, reduceCtorEq, List.size_toArray, List.all_cons, List.all_nil, Value.oneCell', List.set_cons_zero, List.set_cons_succ, sets, fillL, Nat.reduceLeDiff, List.drop_succ_cons, List.drop_zero, List.take_succ_cons, List.take_zero, List.toList_toArray, argsE, Array.append_empty, Array.empty_append, List.getElem?_toArray, Int.reduceLT, Int.reduceLE, Int.reduceToNat, Int.reduceEq, Nat.reduceLT, la1, lb1, ta, tb, l17, m17]
    refine appK_of (alike_app (n := A.E.length) (m := -1) (hA.Old .ap) (hB.Old .ap) (by omega) (by omega)) ?_
    rintro _ _ ⟨e2, rfl⟩
    rw [e2]
    clear e2
    have hp := (contR_is sa sb).1 (show (contR A.d A.c A.E B.d B.c B.E).is = true by rw [hr]; rfl)
    have hal := alike_all (prefix_ins hp.2.2)
    simp only [↓eD0, ↓eD1, eC0, eC1, eC2, eC3, eC4, eC5, eC6, wantedE, ↓reduceIte, Nat.reduceEqDiff, Option.map_some, Option.map_none, reread, List.nil_append, List.cons_append, List.map_cons, List.map_nil, List.length_nil, List.length_cons, Value.cells, List.getElem?_cons_zero, List.getElem?_cons_succ, outE, lks, lkR, rdV, neg1, evs, opt, Nat.reduceAdd, Nat.reduceMul, and_self, reduceCtorEq, List.size_toArray, List.all_cons, List.all_nil, Value.oneCell', List.set_cons_zero, List.set_cons_succ, sets, fillL, Nat.reduceLeDiff, List.drop_succ_cons, List.drop_zero, List.take_succ_cons, List.take_zero, List.toList_toArray, argsE, Array.append_empty, Array.empty_append, List.getElem?_toArray, Int.reduceLT, Int.reduceLE, Int.reduceToNat, Int.reduceEq, Nat.reduceLT, hal]
    exact .ap
  | stop i k e x =>
    obtain ⟨hs, hkB, hpre, hmore, hal⟩ := stop_all sa sb (hcR.symm.trans hr)
    have hv : contV (CR.stop i k e x) = .tuple #[.agg #[.int .i64 0, .int .i64 i, .int .i64 k, .int .i64 e.kind, .int .i64 e.cpu, .int .i64 e.count, .int .i64 e.n, .string e.data, .bool x], .bool false] := rfl
    have hiA : i < A.E.length := by obtain ⟨a, hx, _⟩ := hs; exact (List.getElem?_eq_some_iff.1 hx).1
    have g1 : ((i : Int) < 0) = False := by simp
    have g2 : ((A.E.length : Int) ≤ (i : Int)) = False := by simp; omega
    have g3 : ((k : Int) < 0) = False := by simp
    have g4 : ((B.E.length : Int) < (k : Int)) = False := by simp; omega
    have bi : (0:Int) ≤ (i:Int) ∧ (i:Int) < (A.E.length : Int) := by omega
    cases x
    case' false =>
      obtain ⟨hx⟩ : Nonempty (A.E[i]? = some e) := by
        obtain ⟨a, hx, h1⟩ := hs
        rcases h1 with ⟨_, rfl, _⟩ | ⟨b, _, _, _, h1⟩
        · exact ⟨hx⟩
        · rcases h1 with ⟨_, _, _, h1⟩ | ⟨_, rfl, _⟩
          · cases h1
          · exact ⟨hx⟩
      obtain ⟨ba, oa, ea1, ha5⟩ := rA.at (i := i) (x := entV e) (by simp [hx])
      have l17' := l17
      rw [ea1] at l17'
      have hx5 : ∀ l, rdN (ap σ l) ⟨ba, oa + i * 5, none⟩ 5 = some (entV e) := fun l => rdN_Old .ap ha5
      have hdx : decide (e.kind = e.kind ∧ e.cpu = e.cpu ∧ e.count = e.count ∧ e.n = e.n ∧ e.data = e.data) = true := by simp
      simp only [↓eD0, ↓eD1, eC0, eC1, eC2, eC3, eC4, eC5, eC6, wantedE, ↓reduceIte, Nat.reduceEqDiff, Option.map_some, Option.map_none, reread, List.nil_append, List.cons_append, List.map_cons, List.map_nil, List.length_nil, List.length_cons, Value.cells, List.getElem?_cons_zero, List.getElem?_cons_succ, outE, lks, lkR, rdV, neg1, evs, opt, Nat.reduceAdd, Nat.reduceMul, and_self, reduceCtorEq, List.size_toArray, List.all_cons, List.all_nil, Value.oneCell', List.set_cons_zero, List.set_cons_succ, sets, fillL, Nat.reduceLeDiff, List.drop_succ_cons, List.drop_zero, List.take_succ_cons, List.take_zero, List.toList_toArray, argsE, Array.append_empty, Array.empty_append, List.getElem?_toArray, Int.reduceLT, Int.reduceLE, Int.reduceToNat, Int.reduceEq, Nat.reduceLT, hv, la1, lb1, ta, tb, l17', m17, g1, g2, g3, g4]
      simp only [↓eD0, ↓eD1, eC0, eC1, eC2, eC3, eC4, eC5, eC6, wantedE, ↓reduceIte, Nat.reduceEqDiff, Option.map_some, Option.map_none, reread, List.nil_append, List.cons_append, List.map_cons, List.map_nil, List.length_nil, List.length_cons, Value.cells, List.getElem?_cons_zero, List.getElem?_cons_succ, outE, lks, lkR, rdV, neg1, evs, opt, Nat.reduceAdd, Nat.reduceMul, and_self, reduceCtorEq, List.size_toArray, List.all_cons, List.all_nil, Value.oneCell', List.set_cons_zero, List.set_cons_succ, sets, fillL, Nat.reduceLeDiff, List.drop_succ_cons, List.drop_zero, List.take_succ_cons, List.take_zero, List.toList_toArray, argsE, Array.append_empty, Array.empty_append, List.getElem?_toArray, Int.reduceLT, Int.reduceLE, Int.reduceToNat, Int.reduceEq, Nat.reduceLT, undef_eq, la1, lb1, ta, tb, l17', m17, bi, Int.toNat_natCast, hx5, entV, ent_eq, hdx]
    case' true =>
      obtain ⟨hy, hek⟩ : B.E[k]? = some e ∧ e.kind ≠ 1 := by
        obtain ⟨a, hx, h1⟩ := hs
        rcases h1 with ⟨_, _, h1⟩ | ⟨b, hy, _, _, h1⟩
        · cases h1
        · rcases h1 with ⟨_, h2, rfl, _⟩ | ⟨_, _, h1⟩
          · exact ⟨hy, h2⟩
          · cases h1
      have hkl := (List.getElem?_eq_some_iff.1 hy).1
      obtain ⟨bb, ob, ec1, hb5⟩ := rB.at (i := k) (x := entV e) (by simp [hy])
      have m17' := m17
      rw [ec1] at m17'
      have hy5 : ∀ l, rdN (ap σ l) ⟨bb, ob + k * 5, none⟩ 5 = some (entV e) := fun l => rdN_Old .ap hb5
      have bk : (0:Int) ≤ (k:Int) ∧ (k:Int) < (B.E.length : Int) := by omega
      have dk : decide ((k:Int) = (B.E.length : Int)) = false := by simp; omega
      have dk2 : decide (e.kind = 1) = false := by simpa using hek
      have hdx : decide (e.kind = e.kind ∧ e.cpu = e.cpu ∧ e.count = e.count ∧ e.n = e.n ∧ e.data = e.data) = true := by simp
      simp only [↓eD0, ↓eD1, eC0, eC1, eC2, eC3, eC4, eC5, eC6, wantedE, ↓reduceIte, Nat.reduceEqDiff, Option.map_some, Option.map_none, reread, List.nil_append, List.cons_append, List.map_cons, List.map_nil, List.length_nil, List.length_cons, Value.cells, List.getElem?_cons_zero, List.getElem?_cons_succ, outE, lks, lkR, rdV, neg1, evs, opt, Nat.reduceAdd, Nat.reduceMul, and_self, reduceCtorEq, List.size_toArray, List.all_cons, List.all_nil, Value.oneCell', List.set_cons_zero, List.set_cons_succ, sets, fillL, Nat.reduceLeDiff, List.drop_succ_cons, List.drop_zero, List.take_succ_cons, List.take_zero, List.toList_toArray, argsE, Array.append_empty, Array.empty_append, List.getElem?_toArray, Int.reduceLT, Int.reduceLE, Int.reduceToNat, Int.reduceEq, Nat.reduceLT, hv, la1, lb1, ta, tb, l17, m17', g1, g2, g3, g4]
      simp only [↓eD0, ↓eD1, eC0, eC1, eC2, eC3, eC4, eC5, eC6, wantedE, ↓reduceIte, Nat.reduceEqDiff, Option.map_some, Option.map_none, reread, List.nil_append, List.cons_append, List.map_cons, List.map_nil, List.length_nil, List.length_cons, Value.cells, List.getElem?_cons_zero, List.getElem?_cons_succ, outE, lks, lkR, rdV, neg1, evs, opt, Nat.reduceAdd, Nat.reduceMul, and_self, reduceCtorEq, List.size_toArray, List.all_cons, List.all_nil, Value.oneCell', List.set_cons_zero, List.set_cons_succ, sets, fillL, Nat.reduceLeDiff, List.drop_succ_cons, List.drop_zero, List.take_succ_cons, List.take_zero, List.toList_toArray, argsE, Array.append_empty, Array.empty_append, List.getElem?_toArray, Int.reduceLT, Int.reduceLE, Int.reduceToNat, Int.reduceEq, Nat.reduceLT, undef_eq, la1, lb1, ta, tb, l17, m17', bk, dk, dk2, Int.toNat_natCast, hy5, entV, ent_eq, hdx]
    all_goals
      refine appK_of (cut_app (n := i) (hA.Old .ap)) ?_
      rintro _ τ1 ⟨ho1, l1, rfl, hKL, hK⟩
      rw [cut_nat (by omega)] at hKL hK ⊢
      obtain ⟨k1, k2, k3, k4, hl1, _, _, _⟩ := hKL.recs
      have o1 : (l1 ++ [Value.int .i64 0, Value.int .i64 0]).all Value.oneCell' = true := by rw [hl1]; exact rec_one2
      have n1 := (hK _ hA).len
      have n21 : (l1 ++ [Value.int .i64 0, Value.int .i64 0]).length = 21 := by simp [n1]
      have t21 : (l1 ++ [Value.int .i64 0, Value.int .i64 0]).take 21 = l1 ++ [Value.int .i64 0, Value.int .i64 0] := List.take_of_length_le (by omega)
      have t19 : (l1 ++ [Value.int .i64 0, Value.int .i64 0]).take 19 = l1 := List.take_left' n1
      generalize l1 ++ [Value.int .i64 0, Value.int .i64 0] = x1 at o1 n21 t21 t19 ⊢
      have s1 := sets21 n21
      have z1 : (x1 = []) = False := by simp; intro h; subst h; cases n21
      have p0 := (ho1.2 σ.size (by simp [ap_size])).trans ap_new0
      have p1 := (ho1.2 (σ.size + 1) (by simp [ap_size])).trans ap_new
      have p2 := (ho1.2 (σ.size + 2) (by simp [ap_size])).trans ap_new
      have e1 : ap τ1 [] = τ1 := ap_nil
      have y0 := (Array.getElem?_eq_some_iff.1 p0).1
      have y1 := (Array.getElem?_eq_some_iff.1 p1).1
      have y2 := (Array.getElem?_eq_some_iff.1 p2).1
      have ra : ∀ L, rdN (ap τ1 L) ⟨σ.size, 0, none⟩ 19 = some la := fun L => rdN_all ((ap_old y0).trans p0) la1
      have rb : ∀ L, rdN (ap τ1 L) ⟨σ.size + 1, 0, none⟩ 19 = some lb := fun L => rdN_all ((ap_old y1).trans p1) lb1
      have r1 : ∀ L, rd1 (ap τ1 L) ⟨σ.size + 2, 1, none⟩ = some (.int .i64 i) := fun L => by rw [rd1_eq, ap_old y2, p2]; rfl
      have wi : IntKind.wrap .i64 ((i:Int) + 1) = ((i + 1 : Nat) : Int) := by rw [wrap64 (by omega) (by omega)]; omega
      have ho1' : Old σ τ1 := Old.ap.trans ho1
      rw [← e1]
      simp only [↓eD0, ↓eD1, eC0, eC1, eC2, eC3, eC4, eC5, eC6, wantedE, ↓reduceIte, Nat.reduceEqDiff, Option.map_some, Option.map_none, reread, List.nil_append, List.cons_append, List.map_cons, List.map_nil, List.length_nil, List.length_cons, Value.cells, List.getElem?_cons_zero, List.getElem?_cons_succ, outE, lks, lkR, rdV, neg1, evs, opt, Nat.reduceAdd, Nat.reduceMul, and_self, reduceCtorEq, List.size_toArray, List.all_cons, List.all_nil, Value.oneCell', List.set_cons_zero, List.set_cons_succ, sets, fillL, Nat.reduceLeDiff, List.drop_succ_cons, List.drop_zero, List.take_succ_cons, List.take_zero, List.toList_toArray, argsE, Array.append_empty, Array.empty_append, List.getElem?_toArray, Int.reduceLT, Int.reduceLE, Int.reduceToNat, Int.reduceEq, Nat.reduceLT, n21, t21, o1, s1, z1, ra, r1, wi]
      refine appK_of (cut_app (n := ((i + 1 : Nat) : Int)) (hA.Old (ho1'.trans .ap))) ?_
      rintro _ τ2 ⟨ho2, l2, rfl, hML, hM⟩
      rw [cut_nat (by omega)] at hML hM ⊢
      obtain ⟨k5, k6, k7, k8, hl2, _, _, _⟩ := hML.recs
      have o2 : (l2 ++ [Value.int .i64 0, Value.int .i64 0]).all Value.oneCell' = true := by rw [hl2]; exact rec_one2
      have n2 := (hM _ hA).len
      have u21 : (l2 ++ [Value.int .i64 0, Value.int .i64 0]).length = 21 := by simp [n2]
      have v21 : (l2 ++ [Value.int .i64 0, Value.int .i64 0]).take 21 = l2 ++ [Value.int .i64 0, Value.int .i64 0] := List.take_of_length_le (by omega)
      have v19 : (l2 ++ [Value.int .i64 0, Value.int .i64 0]).take 19 = l2 := List.take_left' n2
      generalize l2 ++ [Value.int .i64 0, Value.int .i64 0] = x2 at o2 u21 v21 v19 ⊢
      have s2 := sets21 u21
      have z2 : (x2 = []) = False := by simp; intro h; subst h; cases u21
      have ho2' : Old τ1 τ2 := Old.ap.trans ho2
      have q0 := (ho2'.2 _ y0).trans p0
      have q1 := (ho2'.2 _ y1).trans p1
      have q2 := (ho2'.2 _ y2).trans p2
      have q3 := (ho2.2 τ1.size (by simp [ap_size])).trans ap_new0
      have e1 : ap τ2 [] = τ2 := ap_nil
      have w0 := (Array.getElem?_eq_some_iff.1 q0).1
      have w1 := (Array.getElem?_eq_some_iff.1 q1).1
      have w2 := (Array.getElem?_eq_some_iff.1 q2).1
      have w3 := (Array.getElem?_eq_some_iff.1 q3).1
      have ra2 : ∀ L, rdN (ap τ2 L) ⟨σ.size, 0, none⟩ 19 = some la := fun L => rdN_all ((ap_old w0).trans q0) la1
      have rb2 : ∀ L, rdN (ap τ2 L) ⟨σ.size + 1, 0, none⟩ 19 = some lb := fun L => rdN_all ((ap_old w1).trans q1) lb1
      have r12 : ∀ L, rd1 (ap τ2 L) ⟨σ.size + 2, 1, none⟩ = some (.int .i64 i) := fun L => by rw [rd1_eq, ap_old w2, q2]; rfl
      have r22 : ∀ L, rd1 (ap τ2 L) ⟨σ.size + 2, 2, none⟩ = some (.int .i64 k) := fun L => by rw [rd1_eq, ap_old w2, q2]; rfl
      have rx2 : ∀ L, rdN (ap τ2 L) ⟨τ1.size, 0, none⟩ 19 = some l1 := fun L => by
        rw [rdN_eq, if_neg (by decide), ap_old w3, q3]
        simp only [List.getElem?_cons_zero, rdcN_cells]
        rw [if_pos (by rw [n21]; decide), List.drop_zero, t19]
      have hoo : ∀ L, Old σ (ap τ2 L) := fun L => (ho1'.trans ho2').trans .ap
      rw [← e1]
      simp only [↓eD0, ↓eD1, eC0, eC1, eC2, eC3, eC4, eC5, eC6, wantedE, ↓reduceIte, Nat.reduceEqDiff, Option.map_some, Option.map_none, reread, List.nil_append, List.cons_append, List.map_cons, List.map_nil, List.length_nil, List.length_cons, Value.cells, List.getElem?_cons_zero, List.getElem?_cons_succ, outE, lks, lkR, rdV, neg1, evs, opt, Nat.reduceAdd, Nat.reduceMul, and_self, reduceCtorEq, List.size_toArray, List.all_cons, List.all_nil, Value.oneCell', List.set_cons_zero, List.set_cons_succ, sets, fillL, Nat.reduceLeDiff, List.drop_succ_cons, List.drop_zero, List.take_succ_cons, List.take_zero, List.toList_toArray, argsE, Array.append_empty, Array.empty_append, List.getElem?_toArray, Int.reduceLT, Int.reduceLE, Int.reduceToNat, Int.reduceEq, Nat.reduceLT, u21, v21, o2, s2, z2, ra2, rb2, rx2]
      refine appK_of (merge_app (hK _ (hA.Old (hoo _))) (hB.Old (hoo _)).log (sized_take sa i) sb) ?_
      rintro _ _ ⟨e2, rfl⟩
      rw [e2]
      clear e2
      obtain ⟨_, _, _, _, _, _, _, _, _, h1⟩ := contV_eq (contR A.d A.c (A.E.take i) B.d B.c B.E)
      have c1 : (contR A.d A.c (A.E.take i) B.d B.c B.E).is = true := (contR_is (sized_take sa i) sb).2 ⟨hd, hc, hpre⟩
      rw [c1] at h1
      simp only [↓eD0, ↓eD1, eC0, eC1, eC2, eC3, eC4, eC5, eC6, wantedE, ↓reduceIte, Nat.reduceEqDiff, Option.map_some, Option.map_none, reread, List.nil_append, List.cons_append, List.map_cons, List.map_nil, List.length_nil, List.length_cons, Value.cells, List.getElem?_cons_zero, List.getElem?_cons_succ, outE, lks, lkR, rdV, neg1, evs, opt, Nat.reduceAdd, Nat.reduceMul, and_self, reduceCtorEq, List.size_toArray, List.all_cons, List.all_nil, Value.oneCell', List.set_cons_zero, List.set_cons_succ, sets, fillL, Nat.reduceLeDiff, List.drop_succ_cons, List.drop_zero, List.take_succ_cons, List.take_zero, List.toList_toArray, argsE, Array.append_empty, Array.empty_append, List.getElem?_toArray, Int.reduceLT, Int.reduceLE, Int.reduceToNat, Int.reduceEq, Nat.reduceLT, h1, u21, v21, v19, o2, s2, z2, ra2, rb2, rx2]
      refine appK_of (merge_app (hM _ (hA.Old (hoo _))) (hB.Old (hoo _)).log (sized_take sa (i + 1)) sb) ?_
      rintro _ _ ⟨e2, rfl⟩
      rw [e2]
      clear e2
      obtain ⟨_, _, _, _, _, _, _, _, _, h2⟩ := contV_eq (contR A.d A.c (A.E.take (i + 1)) B.d B.c B.E)
      have c2 : (contR A.d A.c (A.E.take (i + 1)) B.d B.c B.E).is = false := by
        cases h : (contR A.d A.c (A.E.take (i + 1)) B.d B.c B.E).is
        · rfl
        · exact absurd ((contR_is (sized_take sa (i + 1)) sb).1 h).2.2 hmore
      rw [c2] at h2
      simp only [↓eD0, ↓eD1, eC0, eC1, eC2, eC3, eC4, eC5, eC6, wantedE, ↓reduceIte, Nat.reduceEqDiff, Option.map_some, Option.map_none, reread, List.nil_append, List.cons_append, List.map_cons, List.map_nil, List.length_nil, List.length_cons, Value.cells, List.getElem?_cons_zero, List.getElem?_cons_succ, outE, lks, lkR, rdV, neg1, evs, opt, Nat.reduceAdd, Nat.reduceMul, and_self, reduceCtorEq, List.size_toArray, List.all_cons, List.all_nil, Value.oneCell', List.set_cons_zero, List.set_cons_succ, sets, fillL, Nat.reduceLeDiff, List.drop_succ_cons, List.drop_zero, List.take_succ_cons, List.take_zero, List.toList_toArray, argsE, Array.append_empty, Array.empty_append, List.getElem?_toArray, Int.reduceLT, Int.reduceLE, Int.reduceToNat, Int.reduceEq, Nat.reduceLT, h2]
      refine appK_of sanity_app ?_
      rintro _ _ ⟨e2, rfl⟩
      rw [e2]
      clear e2
      simp only [↓eD0, ↓eD1, eC0, eC1, eC2, eC3, eC4, eC5, eC6, wantedE, ↓reduceIte, Nat.reduceEqDiff, Option.map_some, Option.map_none, reread, List.nil_append, List.cons_append, List.map_cons, List.map_nil, List.length_nil, List.length_cons, Value.cells, List.getElem?_cons_zero, List.getElem?_cons_succ, outE, lks, lkR, rdV, neg1, evs, opt, Nat.reduceAdd, Nat.reduceMul, and_self, reduceCtorEq, List.size_toArray, List.all_cons, List.all_nil, Value.oneCell', List.set_cons_zero, List.set_cons_succ, sets, fillL, Nat.reduceLeDiff, List.drop_succ_cons, List.drop_zero, List.take_succ_cons, List.take_zero, List.toList_toArray, argsE, Array.append_empty, Array.empty_append, List.getElem?_toArray, Int.reduceLT, Int.reduceLE, Int.reduceToNat, Int.reduceEq, Nat.reduceLT, ra2, rb2, r12, r22]
      refine appK_of (alike_app (n := i) (m := k) (hA.Old (hoo _)) (hB.Old (hoo _)) (by omega) (by omega)) ?_
      rintro _ _ ⟨e2, rfl⟩
      rw [e2]
      clear e2
      simp only [↓eD0, ↓eD1, eC0, eC1, eC2, eC3, eC4, eC5, eC6, wantedE, ↓reduceIte, Nat.reduceEqDiff, Option.map_some, Option.map_none, reread, List.nil_append, List.cons_append, List.map_cons, List.map_nil, List.length_nil, List.length_cons, Value.cells, List.getElem?_cons_zero, List.getElem?_cons_succ, outE, lks, lkR, rdV, neg1, evs, opt, Nat.reduceAdd, Nat.reduceMul, and_self, reduceCtorEq, List.size_toArray, List.all_cons, List.all_nil, Value.oneCell', List.set_cons_zero, List.set_cons_succ, sets, fillL, Nat.reduceLeDiff, List.drop_succ_cons, List.drop_zero, List.take_succ_cons, List.take_zero, List.toList_toArray, argsE, Array.append_empty, Array.empty_append, List.getElem?_toArray, Int.reduceLT, Int.reduceLE, Int.reduceToNat, Int.reduceEq, Nat.reduceLT, hal]
      exact hoo _
end Go.Proofs.YtljmjkpmkpchoaaDoor
