/- Walks of the functions that the claim reaches. Conditions: none. -/
import Derived.Test.YtljmjkpmkpchoaaDoorWb
set_option linter.all false
set_option linter.unusedSimpArgs false
set_option maxRecDepth 10000
set_option maxHeartbeats 2000000
namespace Go.Proofs.YtljmjkpmkpchoaaDoor
open Go Go.Cn Go.RowKit

theorem slice_lit {a b c d : Int} {s : ByteArray} {σ : H} : App Tryd.prog (.func 32) #[] #[.agg #[.int .i64 a, .int .i64 b, .int .i64 c, .int .i64 d, .string s]] σ fun v σ' => σ' = σ ∧ v = .bool (decide (a = 1)) :=
  slice_app (e := ⟨a, b, c, d, s⟩)

def foundV : CR → Value
  | .goesOn => .agg (obsV 0 0 zeroE false ++ [Value.bool true]).toArray
  | .stop a b e x => .agg (obsV a b e x ++ [Value.bool false]).toArray

def obstR (A B : List Ent) (i k : Nat) (x : Ent) : CR :=
  match B[k]? with
  | none => .stop i k x false
  | some y => if x.kind = 1 ∧ y.kind ≠ 1 then .stop i k y true else .stop i k x false

theorem obstacle_app {σ : H} {la lb : List Value} {da db : List Int} {ca cb : Int} {A B : List Ent} (ha : IsLog σ la da ca A) (hb : IsLog σ lb db cb B) {i k : Nat} {x : Ent} (hx : A[i]? = some x) :
    App Tryd.prog (.func 31) #[] #[.agg la.toArray, .agg lb.toArray, .int .i64 i, .int .i64 k] σ fun v σ' => σ' = σ ∧ v = foundV (obstR A B i k x) := by
  refine App.forget (App.of_sem mixed Tryd.func31 t31 k31 r31 (Nat.le_of_ble_eq_true rfl) ?_)
  have e0 : ap σ [] = σ := ap_nil
  have la1 := ha.len
  have lb1 := hb.len
  obtain ⟨sla, s17a, ra⟩ := ha.ents
  obtain ⟨slb, s17b, rb⟩ := hb.ents
  obtain ⟨basea, capa, rfl⟩ := ra.slice
  obtain ⟨baseb, capb, rfl⟩ := rb.slice
  have hi : i < A.length := (List.getElem?_eq_some_iff.1 hx).1
  obtain ⟨b', off, rfl, h1⟩ := ra.at (i := i) (x := entV x) (by simp [hx])
  have hx5 : ∀ l, rdN (ap σ l) ⟨b', off + i * 5, none⟩ 5 = some (entV x) := fun l => rdN_old h1
  have bi : (0:Int) ≤ (i:Int) ∧ (i:Int) < (A.length : Int) := by omega
  rw [← e0]
  unfold s31
  simp only [↓eD0, ↓eD1, eC0, eC1, eC2, eC3, eC4, eC5, eC6, wantedE, ↓reduceIte, Nat.reduceEqDiff, Option.map_some, Option.map_none, reread, List.nil_append, List.cons_append, List.map_cons, List.map_nil, List.length_nil, List.length_cons, Value.cells, List.getElem?_cons_zero, List.getElem?_cons_succ, outE, lks, lkR, rdV, neg1, evs, opt, Nat.reduceAdd, Nat.reduceMul, and_self, reduceCtorEq, List.size_toArray, List.all_cons, List.all_nil, Value.oneCell', List.set_cons_zero, List.set_cons_succ, sets, fillL, Nat.reduceLeDiff, List.drop_succ_cons, List.drop_zero, List.take_succ_cons, List.take_zero, List.toList_toArray, argsE, Array.append_empty, Array.empty_append, List.getElem?_toArray, Int.reduceLT, Int.reduceLE, Int.reduceToNat, Int.reduceEq, Nat.reduceLT, s17a, s17b, bi, Int.toNat_natCast, List.length_map, hx5, entV]
  by_cases hk : k < B.length
  · obtain ⟨y, hyi⟩ : ∃ y, B[k]? = some y := ⟨B[k], by simp [hk]⟩
    obtain ⟨c', offc, rfl, h2⟩ := rb.at (i := k) (x := entV y) (by simp [hyi])
    have hy5 : ∀ l, rdN (ap σ l) ⟨c', offc + k * 5, none⟩ 5 = some (entV y) := fun l => rdN_old h2
    have bk : (0:Int) ≤ (k:Int) ∧ (k:Int) < (B.length : Int) := by omega
    have hk' : (k:Int) < (B.length : Int) := by omega
    simp only [↓eD0, ↓eD1, eC0, eC1, eC2, eC3, eC4, eC5, eC6, wantedE, ↓reduceIte, Nat.reduceEqDiff, Option.map_some, Option.map_none, reread, List.nil_append, List.cons_append, List.map_cons, List.map_nil, List.length_nil, List.length_cons, Value.cells, List.getElem?_cons_zero, List.getElem?_cons_succ, outE, lks, lkR, rdV, neg1, evs, opt, Nat.reduceAdd, Nat.reduceMul, and_self, reduceCtorEq, List.size_toArray, List.all_cons, List.all_nil, Value.oneCell', List.set_cons_zero, List.set_cons_succ, sets, fillL, Nat.reduceLeDiff, List.drop_succ_cons, List.drop_zero, List.take_succ_cons, List.take_zero, List.toList_toArray, argsE, Array.append_empty, Array.empty_append, List.getElem?_toArray, Int.reduceLT, Int.reduceLE, Int.reduceToNat, Int.reduceEq, Nat.reduceLT, s17a, s17b, bi, bk, hk', Int.toNat_natCast, List.length_map, hx5, hy5, entV]
    refine appK_of slice_lit ?_
    rintro _ _ ⟨e2, rfl⟩
    rw [e2]
    clear e2
    by_cases hx1 : x.kind = 1
    · simp only [↓eD0, ↓eD1, eC0, eC1, eC2, eC3, eC4, eC5, eC6, wantedE, ↓reduceIte, Nat.reduceEqDiff, Option.map_some, Option.map_none, reread, List.nil_append, List.cons_append, List.map_cons, List.map_nil, List.length_nil, List.length_cons, Value.cells, List.getElem?_cons_zero, List.getElem?_cons_succ, outE, lks, lkR, rdV, neg1, evs, opt, Nat.reduceAdd, Nat.reduceMul, and_self, reduceCtorEq, List.size_toArray, List.all_cons, List.all_nil, Value.oneCell', List.set_cons_zero, List.set_cons_succ, sets, fillL, Nat.reduceLeDiff, List.drop_succ_cons, List.drop_zero, List.take_succ_cons, List.take_zero, List.toList_toArray, argsE, Array.append_empty, Array.empty_append, List.getElem?_toArray, Int.reduceLT, Int.reduceLE, Int.reduceToNat, Int.reduceEq, Nat.reduceLT, s17a, s17b, bi, bk, hk', Int.toNat_natCast, List.length_map, hx5, hy5, entV, hx1]
      refine appK_of slice_lit ?_
      rintro _ _ ⟨e2, rfl⟩
      rw [e2]
      clear e2
      by_cases hy1 : y.kind = 1
      · simp only [↓eD0, ↓eD1, eC0, eC1, eC2, eC3, eC4, eC5, eC6, wantedE, ↓reduceIte, Nat.reduceEqDiff, Option.map_some, Option.map_none, reread, List.nil_append, List.cons_append, List.map_cons, List.map_nil, List.length_nil, List.length_cons, Value.cells, List.getElem?_cons_zero, List.getElem?_cons_succ, outE, lks, lkR, rdV, neg1, evs, opt, Nat.reduceAdd, Nat.reduceMul, and_self, reduceCtorEq, List.size_toArray, List.all_cons, List.all_nil, Value.oneCell', List.set_cons_zero, List.set_cons_succ, sets, fillL, Nat.reduceLeDiff, List.drop_succ_cons, List.drop_zero, List.take_succ_cons, List.take_zero, List.toList_toArray, argsE, Array.append_empty, Array.empty_append, List.getElem?_toArray, Int.reduceLT, Int.reduceLE, Int.reduceToNat, Int.reduceEq, Nat.reduceLT, s17a, s17b, bi, bk, hk', Int.toNat_natCast, List.length_map, hx5, hy5, entV, hx1, hy1]
        exact ⟨.ap, by simp [flat, flat.flat1], by simp [obstR, foundV, hyi, hx1, hy1, obsV, entV]⟩
      · simp only [↓eD0, ↓eD1, eC0, eC1, eC2, eC3, eC4, eC5, eC6, wantedE, ↓reduceIte, Nat.reduceEqDiff, Option.map_some, Option.map_none, reread, List.nil_append, List.cons_append, List.map_cons, List.map_nil, List.length_nil, List.length_cons, Value.cells, List.getElem?_cons_zero, List.getElem?_cons_succ, outE, lks, lkR, rdV, neg1, evs, opt, Nat.reduceAdd, Nat.reduceMul, and_self, reduceCtorEq, List.size_toArray, List.all_cons, List.all_nil, Value.oneCell', List.set_cons_zero, List.set_cons_succ, sets, fillL, Nat.reduceLeDiff, List.drop_succ_cons, List.drop_zero, List.take_succ_cons, List.take_zero, List.toList_toArray, argsE, Array.append_empty, Array.empty_append, List.getElem?_toArray, Int.reduceLT, Int.reduceLE, Int.reduceToNat, Int.reduceEq, Nat.reduceLT, s17a, s17b, bi, bk, hk', Int.toNat_natCast, List.length_map, hx5, hy5, entV, hx1, hy1]
        exact ⟨.ap, by simp [flat, flat.flat1], by simp [obstR, foundV, hyi, hx1, hy1, obsV, entV]⟩
    · simp only [↓eD0, ↓eD1, eC0, eC1, eC2, eC3, eC4, eC5, eC6, wantedE, ↓reduceIte, Nat.reduceEqDiff, Option.map_some, Option.map_none, reread, List.nil_append, List.cons_append, List.map_cons, List.map_nil, List.length_nil, List.length_cons, Value.cells, List.getElem?_cons_zero, List.getElem?_cons_succ, outE, lks, lkR, rdV, neg1, evs, opt, Nat.reduceAdd, Nat.reduceMul, and_self, reduceCtorEq, List.size_toArray, List.all_cons, List.all_nil, Value.oneCell', List.set_cons_zero, List.set_cons_succ, sets, fillL, Nat.reduceLeDiff, List.drop_succ_cons, List.drop_zero, List.take_succ_cons, List.take_zero, List.toList_toArray, argsE, Array.append_empty, Array.empty_append, List.getElem?_toArray, Int.reduceLT, Int.reduceLE, Int.reduceToNat, Int.reduceEq, Nat.reduceLT, s17a, s17b, bi, bk, hk', Int.toNat_natCast, List.length_map, hx5, hy5, entV, hx1]
      exact ⟨.ap, by simp [flat, flat.flat1], by simp [obstR, foundV, hyi, hx1, obsV, entV]⟩
  · have hyi : B[k]? = none := by simp; omega
    have hk' : ¬ (k:Int) < (B.length : Int) := by omega
    simp only [↓eD0, ↓eD1, eC0, eC1, eC2, eC3, eC4, eC5, eC6, wantedE, ↓reduceIte, Nat.reduceEqDiff, Option.map_some, Option.map_none, reread, List.nil_append, List.cons_append, List.map_cons, List.map_nil, List.length_nil, List.length_cons, Value.cells, List.getElem?_cons_zero, List.getElem?_cons_succ, outE, lks, lkR, rdV, neg1, evs, opt, Nat.reduceAdd, Nat.reduceMul, and_self, reduceCtorEq, List.size_toArray, List.all_cons, List.all_nil, Value.oneCell', List.set_cons_zero, List.set_cons_succ, sets, fillL, Nat.reduceLeDiff, List.drop_succ_cons, List.drop_zero, List.take_succ_cons, List.take_zero, List.toList_toArray, argsE, Array.append_empty, Array.empty_append, List.getElem?_toArray, Int.reduceLT, Int.reduceLE, Int.reduceToNat, Int.reduceEq, Nat.reduceLT, s17a, s17b, bi, hk', Int.toNat_natCast, List.length_map, hx5, entV]
    exact ⟨.ap, by simp [flat, flat.flat1], by simp [obstR, foundV, hyi, obsV, entV]⟩
end Go.Proofs.YtljmjkpmkpchoaaDoor

set_option linter.unusedSimpArgs false
set_option maxRecDepth 10000
set_option maxHeartbeats 4000000
namespace Go.Proofs.YtljmjkpmkpchoaaDoor
open Go Go.Cn Go.RowKit

structure RInv (σ : H) (la lb : List Value) (A B : List Ent) (r : CR) (m : Nat) (e : Env) (τ : H) (b2 b3 b4 v2 v3 v4 i k : Nat) (da db : Int) : Prop where
  e : e = [(2, .pointer (some ⟨b2, 0, none⟩)), (3, .pointer (some ⟨b3, 0, none⟩)), (4, .pointer (some ⟨b4, 0, none⟩)), (5, .int .i64 i), (6, .int .i64 k), (7, .int .i64 da), (8, .int .i64 db)]
  old : Old σ τ
  l4 : σ.size ≤ b4
  h2 : τ[b2]? = some (.cells v2 la (0, 0))
  h3 : τ[b3]? = some (.cells v3 lb (0, 0))
  h4 : τ[b4]? = some (.cells v4 [.int .i64 0, .int .i64 0, .int .i64 0, .int .i64 0, .int .i64 0, .int .i64 0, .int .i64 0, .string ⟨#[]⟩, .bool false, .bool false] (0, 0))
  m6 : Mid A i da
  m7 : Mid B k db
  r : contF A B m i k da db = r
  m : (A.length - i) + (B.length - k) < m
  li : i ≤ A.length
  lk : k ≤ B.length

theorem refc_app {σ : H} {la lb : List Value} {da db : List Int} {ca cb : Int} {A B : List Ent} (ha : IsLog σ la da ca A) (hb : IsLog σ lb db cb B) (sa : Sized A) (sb : Sized B) :
    App Tryd.prog (.func 12) #[] #[.agg la.toArray, .agg lb.toArray] σ fun v σ' => σ' = σ ∧ v = foundV (contR da ca A db cb B) := by
  refine App.forget (App.of_sem mixed Tryd.func12 t12 k12 r12 (Nat.le_of_ble_eq_true rfl) ?_)
  have e0 : ap σ [] = σ := ap_nil
  have la1 := ha.len
  have lb1 := hb.len
  have la2 := ha.dig
  have lb2 := hb.dig
  have la3 := ha.cpus
  have lb3 := hb.cpus
  have heq : aggEq (List.replicate 16 (.int .u8)) (digC da) (digC db) = some (decide (da = db)) := aggEq_dig ha.d16 hb.d16
  have ta : la.take 19 = la := List.take_of_length_le (by omega)
  have tb : lb.take 19 = lb := List.take_of_length_le (by omega)
  rw [← e0]
  unfold s12
  simp only [↓eD0, ↓eD1, eC0, eC1, eC2, eC3, eC4, eC5, eC6, wantedE, ↓reduceIte, Nat.reduceEqDiff, Option.map_some, Option.map_none, reread, List.nil_append, List.cons_append, List.map_cons, List.map_nil, List.length_nil, List.length_cons, Value.cells, List.getElem?_cons_zero, List.getElem?_cons_succ, outE, lks, lkR, rdV, neg1, evs, opt, Nat.reduceAdd, Nat.reduceMul, and_self, reduceCtorEq, List.size_toArray, List.all_cons, List.all_nil, Value.oneCell', List.set_cons_zero, List.set_cons_succ, sets, fillL, Nat.reduceLeDiff, List.drop_succ_cons, List.drop_zero, List.take_succ_cons, List.take_zero, List.toList_toArray, argsE, Array.append_empty, Array.empty_append, List.getElem?_toArray, Int.reduceLT, Int.reduceLE, Int.reduceToNat, Int.reduceEq, Nat.reduceLT, la1, lb1, la2, lb2, la3, lb3, heq]
  by_cases hd : da = db
  · by_cases hc : ca = cb
    · subst hd hc
      simp only [↓eD0, ↓eD1, eC0, eC1, eC2, eC3, eC4, eC5, eC6, wantedE, ↓reduceIte, Nat.reduceEqDiff, Option.map_some, Option.map_none, reread, List.nil_append, List.cons_append, List.map_cons, List.map_nil, List.length_nil, List.length_cons, Value.cells, List.getElem?_cons_zero, List.getElem?_cons_succ, outE, lks, lkR, rdV, neg1, evs, opt, Nat.reduceAdd, Nat.reduceMul, and_self, reduceCtorEq, List.size_toArray, List.all_cons, List.all_nil, Value.oneCell', List.set_cons_zero, List.set_cons_succ, sets, fillL, Nat.reduceLeDiff, List.drop_succ_cons, List.drop_zero, List.take_succ_cons, List.take_zero, List.toList_toArray, argsE, Array.append_empty, Array.empty_append, List.getElem?_toArray, Int.reduceLT, Int.reduceLE, Int.reduceToNat, Int.reduceEq, Nat.reduceLT, la1, lb1, la2, lb2, la3, lb3, heq, ta, tb]
      refine loop_of (fun m e τ => ∃ b2 b3 b4 v2 v3 v4 i k da db, RInv σ la lb A B (contF A B (A.length + B.length + 1) 0 0 0 0) m e τ b2 b3 b4 v2 v3 v4 i k da db) (A.length + B.length + 1) ?_ ?_
      · refine ⟨_, _, _, 0, 0, 0, 0, 0, 0, 0, rfl, .ap, ?_, ap_new0, ap_new, ap_new, ⟨by omega, by omega⟩, ⟨by omega, by omega⟩, rfl, by omega, by omega, by omega⟩ <;> omega
      · rintro m e τ ⟨b2, b3, b4, v2, v3, v4, i, k, ia, ib, hI⟩
        obtain ⟨he, ho, l4, h2, h3, h4, m6, m7, hr, hm, li, lk⟩ := hI
        subst he
        clear ta tb e0 lb2 heq la2 lb3 la3
        obtain ⟨sla, s17a, ra⟩ := ha.ents
        obtain ⟨slb, s17b, rb⟩ := hb.ents
        obtain ⟨basea, capa, rfl⟩ := ra.slice
        obtain ⟨baseb, capb, rfl⟩ := rb.slice
        have e1 : ap τ [] = τ := ap_nil
        have t2 : b2 < τ.size := (Array.getElem?_eq_some_iff.1 h2).1
        have t3 : b3 < τ.size := (Array.getElem?_eq_some_iff.1 h3).1
        have t4 : b4 < τ.size := (Array.getElem?_eq_some_iff.1 h4).1
        have h4' : ∀ l, (ap τ l)[b4]? = some _ := fun l => (ap_old t4).trans h4
        have h2' : ∀ l, (ap τ l)[b2]? = some _ := fun l => (ap_old t2).trans h2
        have h3' : ∀ l, (ap τ l)[b3]? = some _ := fun l => (ap_old t3).trans h3
        have w4 : ∀ l (a b c d e f g : Int) s t u, wrN (ap τ l) ⟨b4, 0, none⟩ [.int .i64 a, .int .i64 b, .int .i64 c, .int .i64 d, .int .i64 e, .int .i64 f, .int .i64 g, .string s, .bool t, .bool u] = some ((ap τ l).setIfInBounds b4 (.cells (v4 + 1) [.int .i64 a, .int .i64 b, .int .i64 c, .int .i64 d, .int .i64 e, .int .i64 f, .int .i64 g, .string s, .bool t, .bool u] (0, 0))) := fun l a b c d e f g s t u => by
          rw [wrN_eq, h4', wrc_cells]; simp [sets, Value.oneCell']
        have r4 : ∀ l v (x : List Value), x.length = 10 → rdN ((ap τ l).setIfInBounds b4 (.cells v x (0, 0))) ⟨b4, 0, none⟩ 10 = some x := fun l v x hx => by
          rw [rdN_eq, get_set (h4' l), rdcN_cells]; simp [hx, List.take_of_length_le]
        have a17 : ∀ l, rd1 (ap τ l) ⟨b2, 17, none⟩ = some (.slice basea A.length capa) := fun l => by rw [rd1_eq, h2', rdc1_cells, s17a]; simp
        have b17 : ∀ l, rd1 (ap τ l) ⟨b3, 17, none⟩ = some (.slice baseb B.length capb) := fun l => by rw [rd1_eq, h3', rdc1_cells, s17b]; simp
        have aL : ∀ l, rdN (ap τ l) ⟨b2, 0, none⟩ 19 = some la := fun l => by rw [rdN_eq, h2', rdcN_cells]; simp [la1, List.take_of_length_le]
        have bL : ∀ l, rdN (ap τ l) ⟨b3, 0, none⟩ 19 = some lb := fun l => by rw [rdN_eq, h3', rdcN_cells]; simp [lb1, List.take_of_length_le]
        have hEA : A.length < 9223372036854775807 := ha.few
        have hEB : B.length < 9223372036854775807 := hb.few
        obtain ⟨m', rfl⟩ : ∃ m', m = m' + 1 := ⟨m - 1, by omega⟩
        rw [← e1]
        by_cases hi : i < A.length
        · obtain ⟨x, hxi⟩ : ∃ x, A[i]? = some x := ⟨A[i], by simp [hi]⟩
          have hiI : (i:Int) < (A.length : Int) := by omega
          by_cases hk : k < B.length
          · obtain ⟨y, hyi⟩ : ∃ y, B[k]? = some y := ⟨B[k], by simp [hk]⟩
            have hkI : ¬ (B.length : Int) ≤ (k:Int) := by omega
            obtain ⟨b', off, rfl, h1⟩ := ra.at (i := i) (x := entV x) (by simp [hxi])
            have hx5 : ∀ l, rdN (ap τ l) ⟨b', off + i * 5, none⟩ 5 = some (entV x) := fun l => rdN_Old (ho.trans .ap) h1
            have bi : (0:Int) ≤ (i:Int) ∧ (i:Int) < (A.length : Int) := by omega
            obtain ⟨c', offc, rfl, h2⟩ := rb.at (i := k) (x := entV y) (by simp [hyi])
            have hy5 : ∀ l, rdN (ap τ l) ⟨c', offc + k * 5, none⟩ 5 = some (entV y) := fun l => rdN_Old (ho.trans .ap) h2
            have bk : (0:Int) ≤ (k:Int) ∧ (k:Int) < (B.length : Int) := by omega
            simp only [↓eD0, ↓eD1, eC0, eC1, eC2, eC3, eC4, eC5, eC6, wantedE, ↓reduceIte, Nat.reduceEqDiff, Option.map_some, Option.map_none, reread, List.nil_append, List.cons_append, List.map_cons, List.map_nil, List.length_nil, List.length_cons, Value.cells, List.getElem?_cons_zero, List.getElem?_cons_succ, outE, lks, lkR, rdV, neg1, evs, opt, Nat.reduceAdd, Nat.reduceMul, and_self, reduceCtorEq, List.size_toArray, List.all_cons, List.all_nil, Value.oneCell', List.set_cons_zero, List.set_cons_succ, sets, fillL, Nat.reduceLeDiff, List.drop_succ_cons, List.drop_zero, List.take_succ_cons, List.take_zero, List.toList_toArray, argsE, Array.append_empty, Array.empty_append, List.getElem?_toArray, Int.reduceLT, Int.reduceLE, Int.reduceToNat, Int.reduceEq, Nat.reduceLT, a17, b17, hiI, hkI, bi, bk, Int.toNat_natCast, hx5, hy5, entV]
            have hn0 : ∀ (E : List Ent) (j : Nat), Mid E j 0 := fun E j => ⟨by omega, fun h => absurd rfl h⟩
            have wi : IntKind.wrap .i64 ((i:Int) + 1) = (i:Int) + 1 := wrap64 (by omega) (by omega)
            have wk : IntKind.wrap .i64 ((k:Int) + 1) = (k:Int) + 1 := wrap64 (by omega) (by omega)
            have fin : ∀ (L : List Blk) (i' k' : Nat) (ia' ib' j6 j7 : Int), j6 = (i' : Int) → j7 = (k' : Int) → Mid A i' ia' → Mid B k' ib' → contF A B m' i' k' ia' ib' = contF A B (m' + 1) i k ia ib → (A.length - i') + (B.length - k') < m' → i' ≤ A.length → k' ≤ B.length →
                ∃ m, m < m' + 1 ∧ ∃ c4 c6 c7 w4 w6 w7 ci ck ca cb, RInv σ la lb A B (contF A B (A.length + B.length + 1) 0 0 0 0) m [(2, .pointer (some ⟨b2, 0, none⟩)), (3, .pointer (some ⟨b3, 0, none⟩)), (4, .pointer (some ⟨b4, 0, none⟩)), (5, .int .i64 j6), (6, .int .i64 j7), (7, .int .i64 ia'), (8, .int .i64 ib')]
                  (ap τ L) c4 c6 c7 w4 w6 w7 ci ck ca cb := by
              rintro L i' k' ia' ib' _ _ rfl rfl p1 p2 p3 p4 p5 p6
              exact ⟨m', by omega, b2, b3, b4, v2, v3, v4, i', k', ia', ib', rfl, ho.trans .ap, l4, h2' L, h3' L, h4' L, p1, p2, p3.trans hr, p4, p5, p6⟩
            have stop : ∀ (L : List Blk) (x' : Ent) (e' : Bool), obstR A B i k x = .stop i k x' e' → contF A B (m' + 1) i k ia ib = .stop i k x' e' → Old σ ((ap τ L).setIfInBounds b4 (.cells (v4 + 1) (obsV i k x' e' ++ [Value.bool false]) (0, 0))) ∧ flat (Value.agg (obsV i k x' e' ++ [Value.bool false]).toArray) = true ∧ Value.agg (obsV i k x' e' ++ [Value.bool false]).toArray = foundV (contR da ca A da ca B) := by
              intro L x' e' p1 p2
              refine ⟨(ho.trans .ap).set l4, by simp [flat, flat.flat1, obsV, entV], ?_⟩
              simp [foundV, contR, ← hr, p2]
            refine appK_of slice_lit ?_
            rintro _ _ ⟨e2, rfl⟩
            rw [e2]
            clear e2
            by_cases hx1 : x.kind = 1
            · simp only [↓eD0, ↓eD1, eC0, eC1, eC2, eC3, eC4, eC5, eC6, wantedE, ↓reduceIte, Nat.reduceEqDiff, Option.map_some, Option.map_none, reread, List.nil_append, List.cons_append, List.map_cons, List.map_nil, List.length_nil, List.length_cons, Value.cells, List.getElem?_cons_zero, List.getElem?_cons_succ, outE, lks, lkR, rdV, neg1, evs, opt, Nat.reduceAdd, Nat.reduceMul, and_self, reduceCtorEq, List.size_toArray, List.all_cons, List.all_nil, Value.oneCell', List.set_cons_zero, List.set_cons_succ, sets, fillL, Nat.reduceLeDiff, List.drop_succ_cons, List.drop_zero, List.take_succ_cons, List.take_zero, List.toList_toArray, argsE, Array.append_empty, Array.empty_append, List.getElem?_toArray, Int.reduceLT, Int.reduceLE, Int.reduceToNat, Int.reduceEq, Nat.reduceLT, hx1]
              refine appK_of slice_lit ?_
              rintro _ _ ⟨e2, rfl⟩
              rw [e2]
              clear e2
              by_cases hy1 : y.kind = 1
              · by_cases hc : x.cpu = y.cpu
                · have sx := sa x (List.mem_of_getElem? hxi) hx1
                  have sy := sb y (List.mem_of_getElem? hyi) hy1
                  have bx : 0 ≤ ia ∧ ia < x.n := ⟨m6.1, by by_cases h0 : ia = 0; omega; obtain ⟨x', hx', _, h3⟩ := m6.2 h0; rw [hxi] at hx'; injection hx' with hx'; subst hx'; exact h3⟩
                  have bby : 0 ≤ ib ∧ ib < y.n := ⟨m7.1, by by_cases h0 : ib = 0; omega; obtain ⟨x', hx', _, h3⟩ := m7.2 h0; rw [hyi] at hx'; injection hx' with hx'; subst hx'; exact h3⟩
                  have wx : IntKind.wrap .i64 (x.n - ia) = x.n - ia := wrap64 (by omega) (by omega)
                  have wy : IntKind.wrap .i64 (y.n - ib) = y.n - ib := wrap64 (by omega) (by omega)
                  have hcf : contF A B (m' + 1) i k ia ib = (if x.n - ia < y.n - ib then contF A B m' (i + 1) k 0 (ib + (x.n - ia))
                      else if y.n - ib < x.n - ia then contF A B m' i (k + 1) (ia + (y.n - ib)) 0 else contF A B m' (i + 1) (k + 1) 0 0) := by
                    simp [contF, hxi, hyi, hx1, hy1, hc]
                  rcases Int.lt_trichotomy (x.n - ia) (y.n - ib) with h | h | h
                  · have q1 : ¬ y.n - ib < x.n - ia := by omega
                    have q2 : IntKind.wrap .i64 (ia + (x.n - ia)) = x.n := by rw [wrap64 (by omega) (by omega)]; omega
                    have q3 : IntKind.wrap .i64 (ib + (x.n - ia)) = ib + (x.n - ia) := wrap64 (by omega) (by omega)
                    have q4 : ¬ ib + (x.n - ia) = y.n := by omega
                    simp only [↓eD0, ↓eD1, eC0, eC1, eC2, eC3, eC4, eC5, eC6, wantedE, ↓reduceIte, Nat.reduceEqDiff, Option.map_some, Option.map_none, reread, List.nil_append, List.cons_append, List.map_cons, List.map_nil, List.length_nil, List.length_cons, Value.cells, List.getElem?_cons_zero, List.getElem?_cons_succ, outE, lks, lkR, rdV, neg1, evs, opt, Nat.reduceAdd, Nat.reduceMul, and_self, reduceCtorEq, List.size_toArray, List.all_cons, List.all_nil, Value.oneCell', List.set_cons_zero, List.set_cons_succ, sets, fillL, Nat.reduceLeDiff, List.drop_succ_cons, List.drop_zero, List.take_succ_cons, List.take_zero, List.toList_toArray, argsE, Array.append_empty, Array.empty_append, List.getElem?_toArray, Int.reduceLT, Int.reduceLE, Int.reduceToNat, Int.reduceEq, Nat.reduceLT, hx1, hy1, hc, wx, wy, wi, wk, q1, q2, q3, q4]
                    exact fin _ (i + 1) k 0 (ib + (x.n - ia)) ((i:Int) + 1) k rfl rfl (hn0 _ _) ⟨by omega, fun _ => ⟨y, hyi, hy1, by omega⟩⟩ (by rw [hcf]; simp [h]) (by omega) (by omega) (by omega)
                  · have q1 : ¬ y.n - ib < x.n - ia := by omega
                    have q0 : ¬ x.n - ia < y.n - ib := by omega
                    have q2 : IntKind.wrap .i64 (ia + (x.n - ia)) = x.n := by rw [wrap64 (by omega) (by omega)]; omega
                    have q3 : IntKind.wrap .i64 (ib + (x.n - ia)) = y.n := by rw [wrap64 (by omega) (by omega)]; omega
                    simp only [↓eD0, ↓eD1, eC0, eC1, eC2, eC3, eC4, eC5, eC6, wantedE, ↓reduceIte, Nat.reduceEqDiff, Option.map_some, Option.map_none, reread, List.nil_append, List.cons_append, List.map_cons, List.map_nil, List.length_nil, List.length_cons, Value.cells, List.getElem?_cons_zero, List.getElem?_cons_succ, outE, lks, lkR, rdV, neg1, evs, opt, Nat.reduceAdd, Nat.reduceMul, and_self, reduceCtorEq, List.size_toArray, List.all_cons, List.all_nil, Value.oneCell', List.set_cons_zero, List.set_cons_succ, sets, fillL, Nat.reduceLeDiff, List.drop_succ_cons, List.drop_zero, List.take_succ_cons, List.take_zero, List.toList_toArray, argsE, Array.append_empty, Array.empty_append, List.getElem?_toArray, Int.reduceLT, Int.reduceLE, Int.reduceToNat, Int.reduceEq, Nat.reduceLT, hx1, hy1, hc, wx, wy, wi, wk, q1, q2, q3]
                    exact fin _ (i + 1) (k + 1) 0 0 ((i:Int) + 1) ((k:Int) + 1) rfl rfl (hn0 _ _) (hn0 _ _) (by rw [hcf]; simp [q0, q1]) (by omega) (by omega) (by omega)
                  · have q0 : ¬ x.n - ia < y.n - ib := by omega
                    have q2 : IntKind.wrap .i64 (ia + (y.n - ib)) = ia + (y.n - ib) := wrap64 (by omega) (by omega)
                    have q3 : IntKind.wrap .i64 (ib + (y.n - ib)) = y.n := by rw [wrap64 (by omega) (by omega)]; omega
                    have q4 : ¬ ia + (y.n - ib) = x.n := by omega
                    simp only [↓eD0, ↓eD1, eC0, eC1, eC2, eC3, eC4, eC5, eC6, wantedE, ↓reduceIte, Nat.reduceEqDiff, Option.map_some, Option.map_none, reread, List.nil_append, List.cons_append, List.map_cons, List.map_nil, List.length_nil, List.length_cons, Value.cells, List.getElem?_cons_zero, List.getElem?_cons_succ, outE, lks, lkR, rdV, neg1, evs, opt, Nat.reduceAdd, Nat.reduceMul, and_self, reduceCtorEq, List.size_toArray, List.all_cons, List.all_nil, Value.oneCell', List.set_cons_zero, List.set_cons_succ, sets, fillL, Nat.reduceLeDiff, List.drop_succ_cons, List.drop_zero, List.take_succ_cons, List.take_zero, List.toList_toArray, argsE, Array.append_empty, Array.empty_append, List.getElem?_toArray, Int.reduceLT, Int.reduceLE, Int.reduceToNat, Int.reduceEq, Nat.reduceLT, hx1, hy1, hc, wx, wy, wi, wk, h, q2, q3, q4]
                    exact fin _ i (k + 1) (ia + (y.n - ib)) 0 i ((k:Int) + 1) rfl rfl ⟨by omega, fun _ => ⟨x, hxi, hx1, by omega⟩⟩ (hn0 _ _) (by rw [hcf]; simp [h, q0]) (by omega) (by omega) (by omega)
                · simp only [↓eD0, ↓eD1, eC0, eC1, eC2, eC3, eC4, eC5, eC6, wantedE, ↓reduceIte, Nat.reduceEqDiff, Option.map_some, Option.map_none, reread, List.nil_append, List.cons_append, List.map_cons, List.map_nil, List.length_nil, List.length_cons, Value.cells, List.getElem?_cons_zero, List.getElem?_cons_succ, outE, lks, lkR, rdV, neg1, evs, opt, Nat.reduceAdd, Nat.reduceMul, and_self, reduceCtorEq, List.size_toArray, List.all_cons, List.all_nil, Value.oneCell', List.set_cons_zero, List.set_cons_succ, sets, fillL, Nat.reduceLeDiff, List.drop_succ_cons, List.drop_zero, List.take_succ_cons, List.take_zero, List.toList_toArray, argsE, Array.append_empty, Array.empty_append, List.getElem?_toArray, Int.reduceLT, Int.reduceLE, Int.reduceToNat, Int.reduceEq, Nat.reduceLT, hx1, hy1, hc]
                  refine appK_of slice_lit ?_
                  rintro _ _ ⟨e2, rfl⟩
                  rw [e2]
                  clear e2
                  simp only [↓eD0, ↓eD1, eC0, eC1, eC2, eC3, eC4, eC5, eC6, wantedE, ↓reduceIte, Nat.reduceEqDiff, Option.map_some, Option.map_none, reread, List.nil_append, List.cons_append, List.map_cons, List.map_nil, List.length_nil, List.length_cons, Value.cells, List.getElem?_cons_zero, List.getElem?_cons_succ, outE, lks, lkR, rdV, neg1, evs, opt, Nat.reduceAdd, Nat.reduceMul, and_self, reduceCtorEq, List.size_toArray, List.all_cons, List.all_nil, Value.oneCell', List.set_cons_zero, List.set_cons_succ, sets, fillL, Nat.reduceLeDiff, List.drop_succ_cons, List.drop_zero, List.take_succ_cons, List.take_zero, List.toList_toArray, argsE, Array.append_empty, Array.empty_append, List.getElem?_toArray, Int.reduceLT, Int.reduceLE, Int.reduceToNat, Int.reduceEq, Nat.reduceLT, hx1, hy1, hc, aL, bL]
                  refine appK_of (obstacle_app (ha.Old (ho.trans .ap)) (hb.Old (ho.trans .ap)) hxi) ?_
                  rintro _ _ ⟨e2, rfl⟩
                  rw [e2]
                  clear e2
                  have ho' : obstR A B i k x = .stop i k x false := by simp [obstR, hyi, hx1, hy1]
                  rw [ho']
                  simp only [↓eD0, ↓eD1, eC0, eC1, eC2, eC3, eC4, eC5, eC6, wantedE, ↓reduceIte, Nat.reduceEqDiff, Option.map_some, Option.map_none, reread, List.nil_append, List.cons_append, List.map_cons, List.map_nil, List.length_nil, List.length_cons, Value.cells, List.getElem?_cons_zero, List.getElem?_cons_succ, outE, lks, lkR, rdV, neg1, evs, opt, Nat.reduceAdd, Nat.reduceMul, and_self, reduceCtorEq, List.size_toArray, List.all_cons, List.all_nil, Value.oneCell', List.set_cons_zero, List.set_cons_succ, sets, fillL, Nat.reduceLeDiff, List.drop_succ_cons, List.drop_zero, List.take_succ_cons, List.take_zero, List.toList_toArray, argsE, Array.append_empty, Array.empty_append, List.getElem?_toArray, Int.reduceLT, Int.reduceLE, Int.reduceToNat, Int.reduceEq, Nat.reduceLT, foundV, obsV, entV, w4, r4]
                  exact stop _ x false ho' (by simp [contF, hxi, hyi, hx1, hy1, hc])
              · simp only [↓eD0, ↓eD1, eC0, eC1, eC2, eC3, eC4, eC5, eC6, wantedE, ↓reduceIte, Nat.reduceEqDiff, Option.map_some, Option.map_none, reread, List.nil_append, List.cons_append, List.map_cons, List.map_nil, List.length_nil, List.length_cons, Value.cells, List.getElem?_cons_zero, List.getElem?_cons_succ, outE, lks, lkR, rdV, neg1, evs, opt, Nat.reduceAdd, Nat.reduceMul, and_self, reduceCtorEq, List.size_toArray, List.all_cons, List.all_nil, Value.oneCell', List.set_cons_zero, List.set_cons_succ, sets, fillL, Nat.reduceLeDiff, List.drop_succ_cons, List.drop_zero, List.take_succ_cons, List.take_zero, List.toList_toArray, argsE, Array.append_empty, Array.empty_append, List.getElem?_toArray, Int.reduceLT, Int.reduceLE, Int.reduceToNat, Int.reduceEq, Nat.reduceLT, hx1, hy1]
                refine appK_of slice_lit ?_
                rintro _ _ ⟨e2, rfl⟩
                rw [e2]
                clear e2
                simp only [↓eD0, ↓eD1, eC0, eC1, eC2, eC3, eC4, eC5, eC6, wantedE, ↓reduceIte, Nat.reduceEqDiff, Option.map_some, Option.map_none, reread, List.nil_append, List.cons_append, List.map_cons, List.map_nil, List.length_nil, List.length_cons, Value.cells, List.getElem?_cons_zero, List.getElem?_cons_succ, outE, lks, lkR, rdV, neg1, evs, opt, Nat.reduceAdd, Nat.reduceMul, and_self, reduceCtorEq, List.size_toArray, List.all_cons, List.all_nil, Value.oneCell', List.set_cons_zero, List.set_cons_succ, sets, fillL, Nat.reduceLeDiff, List.drop_succ_cons, List.drop_zero, List.take_succ_cons, List.take_zero, List.toList_toArray, argsE, Array.append_empty, Array.empty_append, List.getElem?_toArray, Int.reduceLT, Int.reduceLE, Int.reduceToNat, Int.reduceEq, Nat.reduceLT, hx1, hy1, aL, bL]
                refine appK_of (obstacle_app (ha.Old (ho.trans .ap)) (hb.Old (ho.trans .ap)) hxi) ?_
                rintro _ _ ⟨e2, rfl⟩
                rw [e2]
                clear e2
                have ho' : obstR A B i k x = .stop i k y true := by simp [obstR, hyi, hx1, hy1]
                rw [ho']
                simp only [↓eD0, ↓eD1, eC0, eC1, eC2, eC3, eC4, eC5, eC6, wantedE, ↓reduceIte, Nat.reduceEqDiff, Option.map_some, Option.map_none, reread, List.nil_append, List.cons_append, List.map_cons, List.map_nil, List.length_nil, List.length_cons, Value.cells, List.getElem?_cons_zero, List.getElem?_cons_succ, outE, lks, lkR, rdV, neg1, evs, opt, Nat.reduceAdd, Nat.reduceMul, and_self, reduceCtorEq, List.size_toArray, List.all_cons, List.all_nil, Value.oneCell', List.set_cons_zero, List.set_cons_succ, sets, fillL, Nat.reduceLeDiff, List.drop_succ_cons, List.drop_zero, List.take_succ_cons, List.take_zero, List.toList_toArray, argsE, Array.append_empty, Array.empty_append, List.getElem?_toArray, Int.reduceLT, Int.reduceLE, Int.reduceToNat, Int.reduceEq, Nat.reduceLT, foundV, obsV, entV, w4, r4]
                exact stop _ y true ho' (by simp [contF, hxi, hyi, hx1, hy1])
            · simp only [↓eD0, ↓eD1, eC0, eC1, eC2, eC3, eC4, eC5, eC6, wantedE, ↓reduceIte, Nat.reduceEqDiff, Option.map_some, Option.map_none, reread, List.nil_append, List.cons_append, List.map_cons, List.map_nil, List.length_nil, List.length_cons, Value.cells, List.getElem?_cons_zero, List.getElem?_cons_succ, outE, lks, lkR, rdV, neg1, evs, opt, Nat.reduceAdd, Nat.reduceMul, and_self, reduceCtorEq, List.size_toArray, List.all_cons, List.all_nil, Value.oneCell', List.set_cons_zero, List.set_cons_succ, sets, fillL, Nat.reduceLeDiff, List.drop_succ_cons, List.drop_zero, List.take_succ_cons, List.take_zero, List.toList_toArray, argsE, Array.append_empty, Array.empty_append, List.getElem?_toArray, Int.reduceLT, Int.reduceLE, Int.reduceToNat, Int.reduceEq, Nat.reduceLT, hx1]
              refine appK_of slice_lit ?_
              rintro _ _ ⟨e2, rfl⟩
              rw [e2]
              clear e2
              simp only [↓eD0, ↓eD1, eC0, eC1, eC2, eC3, eC4, eC5, eC6, wantedE, ↓reduceIte, Nat.reduceEqDiff, Option.map_some, Option.map_none, reread, List.nil_append, List.cons_append, List.map_cons, List.map_nil, List.length_nil, List.length_cons, Value.cells, List.getElem?_cons_zero, List.getElem?_cons_succ, outE, lks, lkR, rdV, neg1, evs, opt, Nat.reduceAdd, Nat.reduceMul, and_self, reduceCtorEq, List.size_toArray, List.all_cons, List.all_nil, Value.oneCell', List.set_cons_zero, List.set_cons_succ, sets, fillL, Nat.reduceLeDiff, List.drop_succ_cons, List.drop_zero, List.take_succ_cons, List.take_zero, List.toList_toArray, argsE, Array.append_empty, Array.empty_append, List.getElem?_toArray, Int.reduceLT, Int.reduceLE, Int.reduceToNat, Int.reduceEq, Nat.reduceLT, hx1]
              refine appK_of slice_lit ?_
              rintro _ _ ⟨e2, rfl⟩
              rw [e2]
              clear e2
              have ho' : obstR A B i k x = .stop i k x false := by simp [obstR, hyi, hx1]
              by_cases hy1 : y.kind = 1
              · simp only [↓eD0, ↓eD1, eC0, eC1, eC2, eC3, eC4, eC5, eC6, wantedE, ↓reduceIte, Nat.reduceEqDiff, Option.map_some, Option.map_none, reread, List.nil_append, List.cons_append, List.map_cons, List.map_nil, List.length_nil, List.length_cons, Value.cells, List.getElem?_cons_zero, List.getElem?_cons_succ, outE, lks, lkR, rdV, neg1, evs, opt, Nat.reduceAdd, Nat.reduceMul, and_self, reduceCtorEq, List.size_toArray, List.all_cons, List.all_nil, Value.oneCell', List.set_cons_zero, List.set_cons_succ, sets, fillL, Nat.reduceLeDiff, List.drop_succ_cons, List.drop_zero, List.take_succ_cons, List.take_zero, List.toList_toArray, argsE, Array.append_empty, Array.empty_append, List.getElem?_toArray, Int.reduceLT, Int.reduceLE, Int.reduceToNat, Int.reduceEq, Nat.reduceLT, hx1, hy1, aL, bL]
                refine appK_of (obstacle_app (ha.Old (ho.trans .ap)) (hb.Old (ho.trans .ap)) hxi) ?_
                rintro _ _ ⟨e2, rfl⟩
                rw [e2]
                clear e2
                rw [ho']
                simp only [↓eD0, ↓eD1, eC0, eC1, eC2, eC3, eC4, eC5, eC6, wantedE, ↓reduceIte, Nat.reduceEqDiff, Option.map_some, Option.map_none, reread, List.nil_append, List.cons_append, List.map_cons, List.map_nil, List.length_nil, List.length_cons, Value.cells, List.getElem?_cons_zero, List.getElem?_cons_succ, outE, lks, lkR, rdV, neg1, evs, opt, Nat.reduceAdd, Nat.reduceMul, and_self, reduceCtorEq, List.size_toArray, List.all_cons, List.all_nil, Value.oneCell', List.set_cons_zero, List.set_cons_succ, sets, fillL, Nat.reduceLeDiff, List.drop_succ_cons, List.drop_zero, List.take_succ_cons, List.take_zero, List.toList_toArray, argsE, Array.append_empty, Array.empty_append, List.getElem?_toArray, Int.reduceLT, Int.reduceLE, Int.reduceToNat, Int.reduceEq, Nat.reduceLT, foundV, obsV, entV, w4, r4]
                exact stop _ x false ho' (by simp [contF, hxi, hyi, hx1, hy1, sameE])
              · by_cases hs : x.kind = y.kind ∧ x.cpu = y.cpu ∧ x.count = y.count ∧ x.n = y.n ∧ x.data = y.data
                · have hia : ia = 0 := by
                    by_cases h0 : ia = 0
                    · exact h0
                    · obtain ⟨x', hx', h3, _⟩ := m6.2 h0; rw [hxi] at hx'; injection hx' with hx'; subst hx'; exact absurd h3 hx1
                  have hib : ib = 0 := by
                    by_cases h0 : ib = 0
                    · exact h0
                    · obtain ⟨x', hx', h3, _⟩ := m7.2 h0; rw [hyi] at hx'; injection hx' with hx'; subst hx'; exact absurd h3 hy1
                  subst hia hib
                  simp only [↓eD0, ↓eD1, eC0, eC1, eC2, eC3, eC4, eC5, eC6, wantedE, ↓reduceIte, Nat.reduceEqDiff, Option.map_some, Option.map_none, reread, List.nil_append, List.cons_append, List.map_cons, List.map_nil, List.length_nil, List.length_cons, Value.cells, List.getElem?_cons_zero, List.getElem?_cons_succ, outE, lks, lkR, rdV, neg1, evs, opt, Nat.reduceAdd, Nat.reduceMul, and_self, reduceCtorEq, List.size_toArray, List.all_cons, List.all_nil, Value.oneCell', List.set_cons_zero, List.set_cons_succ, sets, fillL, Nat.reduceLeDiff, List.drop_succ_cons, List.drop_zero, List.take_succ_cons, List.take_zero, List.toList_toArray, argsE, Array.append_empty, Array.empty_append, List.getElem?_toArray, Int.reduceLT, Int.reduceLE, Int.reduceToNat, Int.reduceEq, Nat.reduceLT, hx1, hy1, ent_eq, hs, wi, wk]
                  exact fin _ (i + 1) (k + 1) 0 0 ((i:Int) + 1) ((k:Int) + 1) rfl rfl (hn0 _ _) (hn0 _ _) (by simp [contF, hxi, hyi, hx1, hy1, sameE, hs]) (by omega) (by omega) (by omega)
                · simp only [↓eD0, ↓eD1, eC0, eC1, eC2, eC3, eC4, eC5, eC6, wantedE, ↓reduceIte, Nat.reduceEqDiff, Option.map_some, Option.map_none, reread, List.nil_append, List.cons_append, List.map_cons, List.map_nil, List.length_nil, List.length_cons, Value.cells, List.getElem?_cons_zero, List.getElem?_cons_succ, outE, lks, lkR, rdV, neg1, evs, opt, Nat.reduceAdd, Nat.reduceMul, and_self, reduceCtorEq, List.size_toArray, List.all_cons, List.all_nil, Value.oneCell', List.set_cons_zero, List.set_cons_succ, sets, fillL, Nat.reduceLeDiff, List.drop_succ_cons, List.drop_zero, List.take_succ_cons, List.take_zero, List.toList_toArray, argsE, Array.append_empty, Array.empty_append, List.getElem?_toArray, Int.reduceLT, Int.reduceLE, Int.reduceToNat, Int.reduceEq, Nat.reduceLT, hx1, hy1, ent_eq, hs, aL, bL]
                  refine appK_of (obstacle_app (ha.Old (ho.trans .ap)) (hb.Old (ho.trans .ap)) hxi) ?_
                  rintro _ _ ⟨e2, rfl⟩
                  rw [e2]
                  clear e2
                  rw [ho']
                  simp only [↓eD0, ↓eD1, eC0, eC1, eC2, eC3, eC4, eC5, eC6, wantedE, ↓reduceIte, Nat.reduceEqDiff, Option.map_some, Option.map_none, reread, List.nil_append, List.cons_append, List.map_cons, List.map_nil, List.length_nil, List.length_cons, Value.cells, List.getElem?_cons_zero, List.getElem?_cons_succ, outE, lks, lkR, rdV, neg1, evs, opt, Nat.reduceAdd, Nat.reduceMul, and_self, reduceCtorEq, List.size_toArray, List.all_cons, List.all_nil, Value.oneCell', List.set_cons_zero, List.set_cons_succ, sets, fillL, Nat.reduceLeDiff, List.drop_succ_cons, List.drop_zero, List.take_succ_cons, List.take_zero, List.toList_toArray, argsE, Array.append_empty, Array.empty_append, List.getElem?_toArray, Int.reduceLT, Int.reduceLE, Int.reduceToNat, Int.reduceEq, Nat.reduceLT, foundV, obsV, entV, w4, r4]
                  exact stop _ x false ho' (by simp [contF, hxi, hyi, hx1, hy1, sameE, hs])
          · have hkI : (B.length : Int) ≤ (k:Int) := by omega
            simp only [↓eD0, ↓eD1, eC0, eC1, eC2, eC3, eC4, eC5, eC6, wantedE, ↓reduceIte, Nat.reduceEqDiff, Option.map_some, Option.map_none, reread, List.nil_append, List.cons_append, List.map_cons, List.map_nil, List.length_nil, List.length_cons, Value.cells, List.getElem?_cons_zero, List.getElem?_cons_succ, outE, lks, lkR, rdV, neg1, evs, opt, Nat.reduceAdd, Nat.reduceMul, and_self, reduceCtorEq, List.size_toArray, List.all_cons, List.all_nil, Value.oneCell', List.set_cons_zero, List.set_cons_succ, sets, fillL, Nat.reduceLeDiff, List.drop_succ_cons, List.drop_zero, List.take_succ_cons, List.take_zero, List.toList_toArray, argsE, Array.append_empty, Array.empty_append, List.getElem?_toArray, Int.reduceLT, Int.reduceLE, Int.reduceToNat, Int.reduceEq, Nat.reduceLT, a17, b17, hiI, hkI, aL, bL]
            refine appK_of (obstacle_app (ha.Old (ho.trans .ap)) (hb.Old (ho.trans .ap)) hxi) ?_
            rintro _ _ ⟨e2, rfl⟩
            rw [e2]
            clear e2
            have hyi : B[k]? = none := by simp; omega
            have hf : contF A B (A.length + B.length + 1) 0 0 0 0 = .stop i k x false := by rw [← hr]; simp [contF, hxi, hyi]
            simp only [↓eD0, ↓eD1, eC0, eC1, eC2, eC3, eC4, eC5, eC6, wantedE, ↓reduceIte, Nat.reduceEqDiff, Option.map_some, Option.map_none, reread, List.nil_append, List.cons_append, List.map_cons, List.map_nil, List.length_nil, List.length_cons, Value.cells, List.getElem?_cons_zero, List.getElem?_cons_succ, outE, lks, lkR, rdV, neg1, evs, opt, Nat.reduceAdd, Nat.reduceMul, and_self, reduceCtorEq, List.size_toArray, List.all_cons, List.all_nil, Value.oneCell', List.set_cons_zero, List.set_cons_succ, sets, fillL, Nat.reduceLeDiff, List.drop_succ_cons, List.drop_zero, List.take_succ_cons, List.take_zero, List.toList_toArray, argsE, Array.append_empty, Array.empty_append, List.getElem?_toArray, Int.reduceLT, Int.reduceLE, Int.reduceToNat, Int.reduceEq, Nat.reduceLT, obstR, hyi, foundV, obsV, entV, w4, r4]
            refine ⟨(ho.trans .ap).set l4, by simp [flat, flat.flat1], ?_⟩
            simp [contR, hf, obsV, entV]
        · have hiI : ¬ (i:Int) < (A.length : Int) := by omega
          have hxi : A[i]? = none := by simp; omega
          have hf : contF A B (A.length + B.length + 1) 0 0 0 0 = .goesOn := by rw [← hr]; simp [contF, hxi]
          simp only [↓eD0, ↓eD1, eC0, eC1, eC2, eC3, eC4, eC5, eC6, wantedE, ↓reduceIte, Nat.reduceEqDiff, Option.map_some, Option.map_none, reread, List.nil_append, List.cons_append, List.map_cons, List.map_nil, List.length_nil, List.length_cons, Value.cells, List.getElem?_cons_zero, List.getElem?_cons_succ, outE, lks, lkR, rdV, neg1, evs, opt, Nat.reduceAdd, Nat.reduceMul, and_self, reduceCtorEq, List.size_toArray, List.all_cons, List.all_nil, Value.oneCell', List.set_cons_zero, List.set_cons_succ, sets, fillL, Nat.reduceLeDiff, List.drop_succ_cons, List.drop_zero, List.take_succ_cons, List.take_zero, List.toList_toArray, argsE, Array.append_empty, Array.empty_append, List.getElem?_toArray, Int.reduceLT, Int.reduceLE, Int.reduceToNat, Int.reduceEq, Nat.reduceLT, a17, b17, hiI, w4, r4]
          refine ⟨(ho.trans .ap).set l4, by simp [flat, flat.flat1], ?_⟩
          simp [contR, foundV, hf, obsV, entV, zeroE]
    · simp only [↓eD0, ↓eD1, eC0, eC1, eC2, eC3, eC4, eC5, eC6, wantedE, ↓reduceIte, Nat.reduceEqDiff, Option.map_some, Option.map_none, reread, List.nil_append, List.cons_append, List.map_cons, List.map_nil, List.length_nil, List.length_cons, Value.cells, List.getElem?_cons_zero, List.getElem?_cons_succ, outE, lks, lkR, rdV, neg1, evs, opt, Nat.reduceAdd, Nat.reduceMul, and_self, reduceCtorEq, List.size_toArray, List.all_cons, List.all_nil, Value.oneCell', List.set_cons_zero, List.set_cons_succ, sets, fillL, Nat.reduceLeDiff, List.drop_succ_cons, List.drop_zero, List.take_succ_cons, List.take_zero, List.toList_toArray, argsE, Array.append_empty, Array.empty_append, List.getElem?_toArray, Int.reduceLT, Int.reduceLE, Int.reduceToNat, Int.reduceEq, Nat.reduceLT, la1, lb1, la2, lb2, la3, lb3, heq, hd, hc]
      exact ⟨.ap, by simp [flat, flat.flat1], by simp [foundV, contR, hc, obsV, entV, zeroE]⟩
  · simp only [↓eD0, ↓eD1, eC0, eC1, eC2, eC3, eC4, eC5, eC6, wantedE, ↓reduceIte, Nat.reduceEqDiff, Option.map_some, Option.map_none, reread, List.nil_append, List.cons_append, List.map_cons, List.map_nil, List.length_nil, List.length_cons, Value.cells, List.getElem?_cons_zero, List.getElem?_cons_succ, outE, lks, lkR, rdV, neg1, evs, opt, Nat.reduceAdd, Nat.reduceMul, and_self, reduceCtorEq, List.size_toArray, List.all_cons, List.all_nil, Value.oneCell', List.set_cons_zero, List.set_cons_succ, sets, fillL, Nat.reduceLeDiff, List.drop_succ_cons, List.drop_zero, List.take_succ_cons, List.take_zero, List.toList_toArray, argsE, Array.append_empty, Array.empty_append, List.getElem?_toArray, Int.reduceLT, Int.reduceLE, Int.reduceToNat, Int.reduceEq, Nat.reduceLT, la1, lb1, la2, lb2, la3, lb3, heq, hd]
    exact ⟨.ap, by simp [flat, flat.flat1], by simp [foundV, contR, hd, obsV, entV, zeroE]⟩
end Go.Proofs.YtljmjkpmkpchoaaDoor
