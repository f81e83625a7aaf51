/- Walks of the functions that the claim reaches. Conditions: none. -/
import Derived.Test.YtljmjkpmkpchoaaDoorWa
set_option linter.all false
set_option linter.unusedSimpArgs false
set_option maxRecDepth 10000
set_option maxHeartbeats 2000000
namespace Go.Proofs.YtljmjkpmkpchoaaDoor
open Go Go.Cn Go.RowKit

def contR (da : List Int) (ca : Int) (A : List Ent) (db : List Int) (cb : Int) (B : List Ent) : CR :=
  if da ≠ db ∨ ca ≠ cb then .stop 0 0 zeroE true else contF A B (A.length + B.length + 1) 0 0 0 0

def contV : CR → Value
  | .goesOn => .tuple #[.agg (obsV 0 0 zeroE false).toArray, .bool true]
  | .stop a b e x => .tuple #[.agg (obsV a b e x).toArray, .bool false]

def rdr0 : List Value := [.int .u8 0, .int .u8 0, .int .u8 0, .int .u8 0, .int .u8 0, .int .u8 0, .int .u8 0, .int .u8 0, .int .u8 0, .int .u8 0, .int .u8 0, .int .u8 0, .int .u8 0, .int .u8 0, .int .u8 0, .int .u8 0, .int .i64 0, .slice none 0 0, .slice none 0 0, .int .i64 0, .int .i64 0]

theorem sets_rdr {l : List Value} (h : l.length = 19) : sets rdr0 0 l = rdrC l 0 0 := by
  rw [sets_all (by simp [h, rdr0])]
  simp [h, rdr0, rdrC]

section
variable {l : List Value} (hl : l.length = 19)
include hl
theorem c20 {x y : Int} : (rdrC l x y)[20]? = some (.int .i64 y) := by simp [rdrC, List.getElem?_append_right, hl]
theorem c19 {x y : Int} : (rdrC l x y)[19]? = some (.int .i64 x) := by simp [rdrC, List.getElem?_append_right, hl]
theorem c17 {x y : Int} {sl : Value} (h17 : l[17]? = some sl) : (rdrC l x y)[17]? = some sl := by rw [rdrC, List.getElem?_append_left (by omega)]; exact h17
end

theorem isSlice_lit {a b c d : Int} {s : ByteArray} {σ : H} : App Tryd.prog (.func 25) #[] #[.agg #[.int .i64 a, .int .i64 b, .int .i64 c, .int .i64 d, .string s]] σ fun v σ' => σ' = σ ∧ v = .bool (decide (a = 1)) :=
  isSlice_app (e := ⟨a, b, c, d, s⟩)

theorem ent_eq {a b c d a' b' c' d' : Int} {s s' : ByteArray} : aggEq [.int .i64, .int .i64, .int .i64, .int .i64, .string] [.int .i64 a, .int .i64 b, .int .i64 c, .int .i64 d, .string s] [.int .i64 a', .int .i64 b', .int .i64 c', .int .i64 d', .string s'] = some (decide (a = a' ∧ b = b' ∧ c = c' ∧ d = d' ∧ s = s')) := by
  simp only [aggEq, Leaf.fits, leafEq, decide_true, and_self, ↓reduceIte]
  by_cases h1 : a = a' <;> by_cases h2 : b = b' <;> by_cases h3 : c = c' <;> by_cases h4 : d = d' <;> by_cases h5 : s = s' <;> simp [h1, h2, h3, h4, h5]

structure CInv (σ : H) (la lb : List Value) (A B : List Ent) (r : CR) (m : Nat) (e : Env) (τ : H) (b4 b6 b7 v4 v6 v7 i k : Nat) (da db : Int) : Prop where
  e : e = [(4, .pointer (some ⟨b4, 0, none⟩)), (6, .pointer (some ⟨b6, 0, none⟩)), (7, .pointer (some ⟨b7, 0, none⟩))]
  old : Old σ τ
  l4 : σ.size ≤ b4
  l6 : σ.size ≤ b6
  l7 : σ.size ≤ b7
  n46 : b4 ≠ b6
  n47 : b4 ≠ b7
  n67 : b6 ≠ b7
  h4 : τ[b4]? = some (.cells v4 [.int .i64 0, .int .i64 0, .int .i64 0, .int .i64 0, .int .i64 0, .int .i64 0, .int .i64 0, .string ⟨#[]⟩, .bool false] (0, 0))
  h6 : τ[b6]? = some (.cells v6 (rdrC la i da) (0, 0))
  h7 : τ[b7]? = some (.cells v7 (rdrC lb k db) (0, 0))
  m6 : Mid A i da
  m7 : Mid B k db
  r : contF A B m i k da db = r
  m : (A.length - i) + (B.length - k) < m
  li : i ≤ A.length
  lk : k ≤ B.length

theorem merge_app {σ : H} {la lb : List Value} {da db : List Int} {ca cb : Int} {A B : List Ent} (ha : IsLog σ la da ca A) (hb : IsLog σ lb db cb B) (sa : Sized A) (sb : Sized B) :
    App Tryd.prog (.func 10) #[] #[.agg la.toArray, .agg lb.toArray] σ fun v σ' => σ' = σ ∧ v = contV (contR da ca A db cb B) := by
  refine App.forget (App.of_sem mixed Tryd.func10 t10 k10 r10 (Nat.le_of_ble_eq_true rfl) ?_)
  have e0 : ap σ [] = σ := ap_nil
  have la1 := ha.len
  have lb1 := hb.len
  have la2 := ha.dig
  have lb2 := hb.dig
  have la3 := ha.cpus
  have lb3 := hb.cpus
  have heq : aggEq (List.replicate 16 (.int .u8)) (digC da) (digC db) = some (decide (da = db)) := aggEq_dig ha.d16 hb.d16
  have ta : la.take 19 = la := List.take_of_length_le (by omega)
  have tb : lb.take 19 = lb := List.take_of_length_le (by omega)
  have za := sets_rdr la1
  have zb := sets_rdr lb1
  unfold rdr0 at za zb
  rw [← e0]
  unfold s10
  simp only [↓eD0, ↓eD1, eC0, eC1, eC2, eC3, eC4, eC5, eC6, wantedE, ↓reduceIte, Nat.reduceEqDiff, Option.map_some, Option.map_none, reread, List.nil_append, List.cons_append, List.map_cons, List.map_nil, List.length_nil, List.length_cons, Value.cells, List.getElem?_cons_zero, List.getElem?_cons_succ, outE, lks, lkR, rdV, neg1, evs, opt, Nat.reduceAdd, Nat.reduceMul, and_self, reduceCtorEq, List.size_toArray, List.all_cons, List.all_nil, Value.oneCell', List.set_cons_zero, List.set_cons_succ, sets, fillL, Nat.reduceLeDiff, List.drop_succ_cons, List.drop_zero, List.take_succ_cons, List.take_zero, List.toList_toArray, argsE, Array.append_empty, Array.empty_append, List.getElem?_toArray, Int.reduceLT, Int.reduceLE, Int.reduceToNat, Int.reduceEq, Nat.reduceLT, la1, lb1, la2, lb2, la3, lb3, heq]
  by_cases hd : da = db
  · by_cases hc : ca = cb
    · subst hd hc
      simp only [↓eD0, ↓eD1, eC0, eC1, eC2, eC3, eC4, eC5, eC6, wantedE, ↓reduceIte, Nat.reduceEqDiff, Option.map_some, Option.map_none, reread, List.nil_append, List.cons_append, List.map_cons, List.map_nil, List.length_nil, List.length_cons, Value.cells, List.getElem?_cons_zero, List.getElem?_cons_succ, outE, lks, lkR, rdV, neg1, evs, opt, Nat.reduceAdd, Nat.reduceMul, and_self, reduceCtorEq, List.size_toArray, List.all_cons, List.all_nil, Value.oneCell', List.set_cons_zero, List.set_cons_succ, sets, fillL, Nat.reduceLeDiff, List.drop_succ_cons, List.drop_zero, List.take_succ_cons, List.take_zero, List.toList_toArray, argsE, Array.append_empty, Array.empty_append, List.getElem?_toArray, Int.reduceLT, Int.reduceLE, Int.reduceToNat, Int.reduceEq, Nat.reduceLT, la1, lb1, la2, lb2, la3, lb3, heq, ta, tb, za, zb]
      refine loop_of (fun m e τ => ∃ b4 b6 b7 v4 v6 v7 i k da db, CInv σ la lb A B (contF A B (A.length + B.length + 1) 0 0 0 0) m e τ b4 b6 b7 v4 v6 v7 i k da db) (A.length + B.length + 1) ?_ ?_
      · refine ⟨_, _, _, 0, 0, 0, 0, 0, 0, 0, rfl, .ap, ?_, ?_, ?_, ?_, ?_, ?_, ap_new, ap_new, ap_new, ⟨by omega, by omega⟩, ⟨by omega, by omega⟩, rfl, by omega, by omega, by omega⟩ <;> omega
      · rintro m e τ ⟨b4, b6, b7, v4, v6, v7, i, k, ia, ib, hI⟩
        obtain ⟨he, ho, l4, l6, l7, n46, n47, n67, h4, h6, h7, m6, m7, hr, hm, li, lk⟩ := hI
        subst he
        obtain ⟨sla, s17a, ra⟩ := ha.ents
        obtain ⟨slb, s17b, rb⟩ := hb.ents
        have e1 : ap τ [] = τ := ap_nil
        have t6 : b6 < τ.size := (Array.getElem?_eq_some_iff.1 h6).1
        have t7 : b7 < τ.size := (Array.getElem?_eq_some_iff.1 h7).1
        have t4 : b4 < τ.size := (Array.getElem?_eq_some_iff.1 h4).1
        have h4 : ∀ l, (ap τ l)[b4]? = some _ := fun l => (ap_old t4).trans h4
        have h6 : ∀ l, (ap τ l)[b6]? = some _ := fun l => (ap_old t6).trans h6
        have h7 : ∀ l, (ap τ l)[b7]? = some _ := fun l => (ap_old t7).trans h7
        have w4 : ∀ l (a b c d e f g : Int) s t, wrN (ap τ l) ⟨b4, 0, none⟩ [.int .i64 a, .int .i64 b, .int .i64 c, .int .i64 d, .int .i64 e, .int .i64 f, .int .i64 g, .string s, .bool t] = some ((ap τ l).setIfInBounds b4 (.cells (v4 + 1) [.int .i64 a, .int .i64 b, .int .i64 c, .int .i64 d, .int .i64 e, .int .i64 f, .int .i64 g, .string s, .bool t] (0, 0))) := fun l a b c d e f g s t => by
          rw [wrN_eq, h4, wrc_cells]; simp [sets, Value.oneCell']
        have r4 : ∀ l v (x : List Value), x.length = 9 → rdN ((ap τ l).setIfInBounds b4 (.cells v x (0, 0))) ⟨b4, 0, none⟩ 9 = some x := fun l v x hx => by
          rw [rdN_eq, get_set (h4 l), rdcN_cells]; simp [hx, List.take_of_length_le]
        have g6 : ∀ l, rd1 (ap τ l) ⟨b6, 20, none⟩ = some (.int .i64 ia) := fun l => by rw [rd1_eq, h6, rdc1_cells, c20 la1]
        have g7 : ∀ l, rd1 (ap τ l) ⟨b7, 20, none⟩ = some (.int .i64 ib) := fun l => by rw [rd1_eq, h7, rdc1_cells, c20 lb1]
        have f6 : ∀ l, rd1 (ap τ l) ⟨b6, 19, none⟩ = some (.int .i64 i) := fun l => by rw [rd1_eq, h6, rdc1_cells, c19 la1]
        have f7 : ∀ l, rd1 (ap τ l) ⟨b7, 19, none⟩ = some (.int .i64 k) := fun l => by rw [rd1_eq, h7, rdc1_cells, c19 lb1]
        rw [← e1]
        simp only [↓eD0, ↓eD1, eC0, eC1, eC2, eC3, eC4, eC5, eC6, wantedE, ↓reduceIte, Nat.reduceEqDiff, Option.map_some, Option.map_none, reread, List.nil_append, List.cons_append, List.map_cons, List.map_nil, List.length_nil, List.length_cons, Value.cells, List.getElem?_cons_zero, List.getElem?_cons_succ, outE, lks, lkR, rdV, neg1, evs, opt, Nat.reduceAdd, Nat.reduceMul, and_self, reduceCtorEq, List.size_toArray, List.all_cons, List.all_nil, Value.oneCell', List.set_cons_zero, List.set_cons_succ, sets, fillL, Nat.reduceLeDiff, List.drop_succ_cons, List.drop_zero, List.take_succ_cons, List.take_zero, List.toList_toArray, argsE, Array.append_empty, Array.empty_append, List.getElem?_toArray, Int.reduceLT, Int.reduceLE, Int.reduceToNat, Int.reduceEq, Nat.reduceLT]
        refine appK_of (next_app (E := A) (i := i) (sl := sla) (by rw [rd1_eq, h6, rdc1_cells, (c19 la1)]) (by rw [rd1_eq, h6, rdc1_cells, (c17 la1 s17a)]) (ra.Old (ho.trans .ap))) ?_
        rintro _ _ ⟨e2, rfl⟩
        rw [e2]
        clear e2
        simp only [↓eD0, ↓eD1, eC0, eC1, eC2, eC3, eC4, eC5, eC6, wantedE, ↓reduceIte, Nat.reduceEqDiff, Option.map_some, Option.map_none, reread, List.nil_append, List.cons_append, List.map_cons, List.map_nil, List.length_nil, List.length_cons, Value.cells, List.getElem?_cons_zero, List.getElem?_cons_succ, outE, lks, lkR, rdV, neg1, evs, opt, Nat.reduceAdd, Nat.reduceMul, and_self, reduceCtorEq, List.size_toArray, List.all_cons, List.all_nil, Value.oneCell', List.set_cons_zero, List.set_cons_succ, sets, fillL, Nat.reduceLeDiff, List.drop_succ_cons, List.drop_zero, List.take_succ_cons, List.take_zero, List.toList_toArray, argsE, Array.append_empty, Array.empty_append, List.getElem?_toArray, Int.reduceLT, Int.reduceLE, Int.reduceToNat, Int.reduceEq, Nat.reduceLT, entV]
        refine appK_of (next_app (E := B) (i := k) (sl := slb) (by rw [rd1_eq, h7, rdc1_cells, (c19 lb1)]) (by rw [rd1_eq, h7, rdc1_cells, (c17 lb1 s17b)]) (rb.Old (ho.trans .ap))) ?_
        rintro _ _ ⟨e2, rfl⟩
        rw [e2]
        clear e2
        simp only [↓eD0, ↓eD1, eC0, eC1, eC2, eC3, eC4, eC5, eC6, wantedE, ↓reduceIte, Nat.reduceEqDiff, Option.map_some, Option.map_none, reread, List.nil_append, List.cons_append, List.map_cons, List.map_nil, List.length_nil, List.length_cons, Value.cells, List.getElem?_cons_zero, List.getElem?_cons_succ, outE, lks, lkR, rdV, neg1, evs, opt, Nat.reduceAdd, Nat.reduceMul, and_self, reduceCtorEq, List.size_toArray, List.all_cons, List.all_nil, Value.oneCell', List.set_cons_zero, List.set_cons_succ, sets, fillL, Nat.reduceLeDiff, List.drop_succ_cons, List.drop_zero, List.take_succ_cons, List.take_zero, List.toList_toArray, argsE, Array.append_empty, Array.empty_append, List.getElem?_toArray, Int.reduceLT, Int.reduceLE, Int.reduceToNat, Int.reduceEq, Nat.reduceLT, entV]
        clear za zb ta tb e0 lb2 heq la2 lb3 la3
        by_cases hi : i < A.length
        · simp only [↓eD0, ↓eD1, eC0, eC1, eC2, eC3, eC4, eC5, eC6, wantedE, ↓reduceIte, Nat.reduceEqDiff, Option.map_some, Option.map_none, reread, List.nil_append, List.cons_append, List.map_cons, List.map_nil, List.length_nil, List.length_cons, Value.cells, List.getElem?_cons_zero, List.getElem?_cons_succ, outE, lks, lkR, rdV, neg1, evs, opt, Nat.reduceAdd, Nat.reduceMul, and_self, reduceCtorEq, List.size_toArray, List.all_cons, List.all_nil, Value.oneCell', List.set_cons_zero, List.set_cons_succ, sets, fillL, Nat.reduceLeDiff, List.drop_succ_cons, List.drop_zero, List.take_succ_cons, List.take_zero, List.toList_toArray, argsE, Array.append_empty, Array.empty_append, List.getElem?_toArray, Int.reduceLT, Int.reduceLE, Int.reduceToNat, Int.reduceEq, Nat.reduceLT, hi]
          generalize hx : A.getD i zeroE = x
          generalize hy : B.getD k zeroE = y
          have hxi : A[i]? = some x := by rw [← hx]; simp [List.getD_eq_getElem?_getD, hi]
          by_cases hk : k < B.length
          · have hyi : B[k]? = some y := by rw [← hy]; simp [List.getD_eq_getElem?_getD, hk]
            simp only [↓eD0, ↓eD1, eC0, eC1, eC2, eC3, eC4, eC5, eC6, wantedE, ↓reduceIte, Nat.reduceEqDiff, Option.map_some, Option.map_none, reread, List.nil_append, List.cons_append, List.map_cons, List.map_nil, List.length_nil, List.length_cons, Value.cells, List.getElem?_cons_zero, List.getElem?_cons_succ, outE, lks, lkR, rdV, neg1, evs, opt, Nat.reduceAdd, Nat.reduceMul, and_self, reduceCtorEq, List.size_toArray, List.all_cons, List.all_nil, Value.oneCell', List.set_cons_zero, List.set_cons_succ, sets, fillL, Nat.reduceLeDiff, List.drop_succ_cons, List.drop_zero, List.take_succ_cons, List.take_zero, List.toList_toArray, argsE, Array.append_empty, Array.empty_append, List.getElem?_toArray, Int.reduceLT, Int.reduceLE, Int.reduceToNat, Int.reduceEq, Nat.reduceLT, hk]
            refine appK_of isSlice_lit ?_
            rintro _ _ ⟨e2, rfl⟩
            rw [e2]
            clear e2
            obtain ⟨m', rfl⟩ : ∃ m', m = m' + 1 := ⟨m - 1, by omega⟩
            have hi' : i < A.length := hi
            have hxA : A[i] = x := by rw [List.getElem?_eq_getElem hi'] at hxi; injection hxi
            have hyB : B[k] = y := by rw [List.getElem?_eq_getElem hk] at hyi; injection hyi
            have fin : ∀ (L : List Blk) (v6 v7 i' k' : Nat) (ia' ib' j6 j7 : Int), j6 = (i' : Int) → j7 = (k' : Int) → Mid A i' ia' → Mid B k' ib' → contF A B m' i' k' ia' ib' = contF A B (m' + 1) i k ia ib → (A.length - i') + (B.length - k') < m' → i' ≤ A.length → k' ≤ B.length →
                ∃ m, m < m' + 1 ∧ ∃ c4 c6 c7 w4 w6 w7 ci ck ca cb, CInv σ la lb A B (contF A B (A.length + B.length + 1) 0 0 0 0) m [(4, .pointer (some ⟨b4, 0, none⟩)), (6, .pointer (some ⟨b6, 0, none⟩)), (7, .pointer (some ⟨b7, 0, none⟩))]
                  (((ap τ L).setIfInBounds b6 (.cells v6 (rdrC la j6 ia') (0, 0))).setIfInBounds b7 (.cells v7 (rdrC lb j7 ib') (0, 0))) c4 c6 c7 w4 w6 w7 ci ck ca cb := by
              rintro L u6 u7 i' k' ia' ib' _ _ rfl rfl p1 p2 p3 p4 p5 p6
              refine ⟨m', by omega, b4, b6, b7, v4, u6, u7, i', k', ia', ib', rfl, ((ho.trans .ap).set l6).set l7, l4, l6, l7, n46, n47, n67, ?_, ?_, ?_, p1, p2, p3.trans hr, p4, p5, p6⟩
              · rw [get_set_ne n47.symm, get_set_ne n46.symm]; exact h4 L
              · rw [get_set_ne n67.symm]; exact get_set (h6 L)
              · exact get_set (k0 := .cells v7 (rdrC lb k ib) (0, 0)) (by rw [get_set_ne n67]; exact h7 L)
            have hn0 : ∀ (E : List Ent) (j : Nat), Mid E j 0 := fun E j => ⟨by omega, fun h => absurd rfl h⟩
            have hEA : A.length < 9223372036854775807 := ha.few
            have hEB : B.length < 9223372036854775807 := hb.few
            by_cases hx1 : x.kind = 1
            · simp only [↓eD0, ↓eD1, eC0, eC1, eC2, eC3, eC4, eC5, eC6, wantedE, ↓reduceIte, Nat.reduceEqDiff, Option.map_some, Option.map_none, reread, List.nil_append, List.cons_append, List.map_cons, List.map_nil, List.length_nil, List.length_cons, Value.cells, List.getElem?_cons_zero, List.getElem?_cons_succ, outE, lks, lkR, rdV, neg1, evs, opt, Nat.reduceAdd, Nat.reduceMul, and_self, reduceCtorEq, List.size_toArray, List.all_cons, List.all_nil, Value.oneCell', List.set_cons_zero, List.set_cons_succ, sets, fillL, Nat.reduceLeDiff, List.drop_succ_cons, List.drop_zero, List.take_succ_cons, List.take_zero, List.toList_toArray, argsE, Array.append_empty, Array.empty_append, List.getElem?_toArray, Int.reduceLT, Int.reduceLE, Int.reduceToNat, Int.reduceEq, Nat.reduceLT, hk, hx1]
              refine appK_of isSlice_lit ?_
              rintro _ _ ⟨e2, rfl⟩
              rw [e2]
              clear e2
              by_cases hy1 : y.kind = 1
              · by_cases hc : x.cpu = y.cpu
                · have sx := sa x (List.mem_of_getElem? hxi) hx1
                  have sy := sb y (List.mem_of_getElem? hyi) hy1
                  have bx : 0 ≤ ia ∧ ia < x.n := ⟨m6.1, by by_cases h0 : ia = 0; omega; obtain ⟨x', hx', _, h3⟩ := m6.2 h0; rw [hxi] at hx'; injection hx' with hx'; subst hx'; exact h3⟩
                  have bby : 0 ≤ ib ∧ ib < y.n := ⟨m7.1, by by_cases h0 : ib = 0; omega; obtain ⟨x', hx', _, h3⟩ := m7.2 h0; rw [hyi] at hx'; injection hx' with hx'; subst hx'; exact h3⟩
                  have wx : IntKind.wrap .i64 (x.n - ia) = x.n - ia := wrap64 (by omega) (by omega)
                  have wy : IntKind.wrap .i64 (y.n - ib) = y.n - ib := wrap64 (by omega) (by omega)
                  simp only [↓eD0, ↓eD1, eC0, eC1, eC2, eC3, eC4, eC5, eC6, wantedE, ↓reduceIte, Nat.reduceEqDiff, Option.map_some, Option.map_none, reread, List.nil_append, List.cons_append, List.map_cons, List.map_nil, List.length_nil, List.length_cons, Value.cells, List.getElem?_cons_zero, List.getElem?_cons_succ, outE, lks, lkR, rdV, neg1, evs, opt, Nat.reduceAdd, Nat.reduceMul, and_self, reduceCtorEq, List.size_toArray, List.all_cons, List.all_nil, Value.oneCell', List.set_cons_zero, List.set_cons_succ, sets, fillL, Nat.reduceLeDiff, List.drop_succ_cons, List.drop_zero, List.take_succ_cons, List.take_zero, List.toList_toArray, argsE, Array.append_empty, Array.empty_append, List.getElem?_toArray, Int.reduceLT, Int.reduceLE, Int.reduceToNat, Int.reduceEq, Nat.reduceLT, hk, hx1, hy1, hc, g6, g7, wx, wy]
                  refine appK_of (skip_app (σ0 := σ) la1 s17a (h6 _) (ho.trans .ap) l6 ra hi' hEA) ?_
                  rintro _ _ ⟨rfl, u6, _, rfl⟩
                  simp only [↓eD0, ↓eD1, eC0, eC1, eC2, eC3, eC4, eC5, eC6, wantedE, ↓reduceIte, Nat.reduceEqDiff, Option.map_some, Option.map_none, reread, List.nil_append, List.cons_append, List.map_cons, List.map_nil, List.length_nil, List.length_cons, Value.cells, List.getElem?_cons_zero, List.getElem?_cons_succ, outE, lks, lkR, rdV, neg1, evs, opt, Nat.reduceAdd, Nat.reduceMul, and_self, reduceCtorEq, List.size_toArray, List.all_cons, List.all_nil, Value.oneCell', List.set_cons_zero, List.set_cons_succ, sets, fillL, Nat.reduceLeDiff, List.drop_succ_cons, List.drop_zero, List.take_succ_cons, List.take_zero, List.toList_toArray, argsE, Array.append_empty, Array.empty_append, List.getElem?_toArray, Int.reduceLT, Int.reduceLE, Int.reduceToNat, Int.reduceEq, Nat.reduceLT]
                  refine appK_of (skip_app (σ0 := σ) (ver := v7) lb1 s17b (by rw [get_set_ne n67]; exact h7 _) ((ho.trans .ap).set l6) l7 rb hk hEB) ?_
                  rintro _ _ ⟨rfl, u7, _, rfl⟩
                  simp only [↓eD0, ↓eD1, eC0, eC1, eC2, eC3, eC4, eC5, eC6, wantedE, ↓reduceIte, Nat.reduceEqDiff, Option.map_some, Option.map_none, reread, List.nil_append, List.cons_append, List.map_cons, List.map_nil, List.length_nil, List.length_cons, Value.cells, List.getElem?_cons_zero, List.getElem?_cons_succ, outE, lks, lkR, rdV, neg1, evs, opt, Nat.reduceAdd, Nat.reduceMul, and_self, reduceCtorEq, List.size_toArray, List.all_cons, List.all_nil, Value.oneCell', List.set_cons_zero, List.set_cons_succ, sets, fillL, Nat.reduceLeDiff, List.drop_succ_cons, List.drop_zero, List.take_succ_cons, List.take_zero, List.toList_toArray, argsE, Array.append_empty, Array.empty_append, List.getElem?_toArray, Int.reduceLT, Int.reduceLE, Int.reduceToNat, Int.reduceEq, Nat.reduceLT, hxA, hyB]
                  have hcf : contF A B (m' + 1) i k ia ib = (if x.n - ia < y.n - ib then contF A B m' (i + 1) k 0 (ib + (x.n - ia))
                      else if y.n - ib < x.n - ia then contF A B m' i (k + 1) (ia + (y.n - ib)) 0 else contF A B m' (i + 1) (k + 1) 0 0) := by
                    simp [contF, hxi, hyi, hx1, hy1, hc]
                  rcases Int.lt_trichotomy (x.n - ia) (y.n - ib) with h | h | h
                  · have q1 : ¬ y.n - ib < x.n - ia := by omega
                    have q2 : IntKind.wrap .i64 (ia + (x.n - ia)) = x.n := by rw [wrap64 (by omega) (by omega)]; omega
                    have q3 : IntKind.wrap .i64 (ib + (x.n - ia)) = ib + (x.n - ia) := wrap64 (by omega) (by omega)
                    have q4 : ¬ (y.n ≤ ib + (x.n - ia) ∨ x.n - ia = 0) := by omega
                    simp only [q1, q2, q3, q4, ↓reduceIte, Int.le_refl, true_or]
                    exact fin _ _ _ (i + 1) k 0 (ib + (x.n - ia)) ((i:Int) + 1) k rfl rfl (hn0 _ _) ⟨by omega, fun _ => ⟨y, hyi, hy1, by omega⟩⟩ (by rw [hcf]; simp [h]) (by omega) (by omega) (by omega)
                  · have q1 : ¬ y.n - ib < x.n - ia := by omega
                    have q0 : ¬ x.n - ia < y.n - ib := by omega
                    have q2 : IntKind.wrap .i64 (ia + (x.n - ia)) = x.n := by rw [wrap64 (by omega) (by omega)]; omega
                    have q3 : IntKind.wrap .i64 (ib + (x.n - ia)) = y.n := by rw [wrap64 (by omega) (by omega)]; omega
                    simp only [q1, q2, q3, ↓reduceIte, Int.le_refl, true_or]
                    exact fin _ _ _ (i + 1) (k + 1) 0 0 ((i:Int) + 1) ((k:Int) + 1) rfl rfl (hn0 _ _) (hn0 _ _) (by rw [hcf]; simp [q0, q1]) (by omega) (by omega) (by omega)
                  · have q0 : ¬ x.n - ia < y.n - ib := by omega
                    have q2 : IntKind.wrap .i64 (ia + (y.n - ib)) = ia + (y.n - ib) := wrap64 (by omega) (by omega)
                    have q3 : IntKind.wrap .i64 (ib + (y.n - ib)) = y.n := by rw [wrap64 (by omega) (by omega)]; omega
                    have q4 : ¬ (x.n ≤ ia + (y.n - ib) ∨ y.n - ib = 0) := by omega
                    simp only [h, q2, q3, q4, ↓reduceIte, Int.le_refl, true_or]
                    exact fin _ _ _ i (k + 1) (ia + (y.n - ib)) 0 i ((k:Int) + 1) rfl rfl ⟨by omega, fun _ => ⟨x, hxi, hx1, by omega⟩⟩ (hn0 _ _) (by rw [hcf]; simp [h, q0]) (by omega) (by omega) (by omega)
                · simp only [↓eD0, ↓eD1, eC0, eC1, eC2, eC3, eC4, eC5, eC6, wantedE, ↓reduceIte, Nat.reduceEqDiff, Option.map_some, Option.map_none, reread, List.nil_append, List.cons_append, List.map_cons, List.map_nil, List.length_nil, List.length_cons, Value.cells, List.getElem?_cons_zero, List.getElem?_cons_succ, outE, lks, lkR, rdV, neg1, evs, opt, Nat.reduceAdd, Nat.reduceMul, and_self, reduceCtorEq, List.size_toArray, List.all_cons, List.all_nil, Value.oneCell', List.set_cons_zero, List.set_cons_succ, sets, fillL, Nat.reduceLeDiff, List.drop_succ_cons, List.drop_zero, List.take_succ_cons, List.take_zero, List.toList_toArray, argsE, Array.append_empty, Array.empty_append, List.getElem?_toArray, Int.reduceLT, Int.reduceLE, Int.reduceToNat, Int.reduceEq, Nat.reduceLT, hk, hx1, hy1, hc]
                  iterate 3
                    refine appK_of isSlice_lit ?_
                    rintro _ _ ⟨e2, rfl⟩
                    rw [e2]
                    clear e2
                    simp only [↓eD0, ↓eD1, eC0, eC1, eC2, eC3, eC4, eC5, eC6, wantedE, ↓reduceIte, Nat.reduceEqDiff, Option.map_some, Option.map_none, reread, List.nil_append, List.cons_append, List.map_cons, List.map_nil, List.length_nil, List.length_cons, Value.cells, List.getElem?_cons_zero, List.getElem?_cons_succ, outE, lks, lkR, rdV, neg1, evs, opt, Nat.reduceAdd, Nat.reduceMul, and_self, reduceCtorEq, List.size_toArray, List.all_cons, List.all_nil, Value.oneCell', List.set_cons_zero, List.set_cons_succ, sets, fillL, Nat.reduceLeDiff, List.drop_succ_cons, List.drop_zero, List.take_succ_cons, List.take_zero, List.toList_toArray, argsE, Array.append_empty, Array.empty_append, List.getElem?_toArray, Int.reduceLT, Int.reduceLE, Int.reduceToNat, Int.reduceEq, Nat.reduceLT, hk, hx1, hy1, hc, f6, f7, w4, r4]
                  have hf : contF A B (A.length + B.length + 1) 0 0 0 0 = .stop i k x false := by rw [← hr]; simp [contF, hxi, hyi, hx1, hy1, hc]
                  refine ⟨(ho.trans .ap).set l4, by simp [flat, flat.flat1], ?_⟩
                  simp [contR, contV, hf, obsV, entV, hx1]
              · simp only [↓eD0, ↓eD1, eC0, eC1, eC2, eC3, eC4, eC5, eC6, wantedE, ↓reduceIte, Nat.reduceEqDiff, Option.map_some, Option.map_none, reread, List.nil_append, List.cons_append, List.map_cons, List.map_nil, List.length_nil, List.length_cons, Value.cells, List.getElem?_cons_zero, List.getElem?_cons_succ, outE, lks, lkR, rdV, neg1, evs, opt, Nat.reduceAdd, Nat.reduceMul, and_self, reduceCtorEq, List.size_toArray, List.all_cons, List.all_nil, Value.oneCell', List.set_cons_zero, List.set_cons_succ, sets, fillL, Nat.reduceLeDiff, List.drop_succ_cons, List.drop_zero, List.take_succ_cons, List.take_zero, List.toList_toArray, argsE, Array.append_empty, Array.empty_append, List.getElem?_toArray, Int.reduceLT, Int.reduceLE, Int.reduceToNat, Int.reduceEq, Nat.reduceLT, hk, hx1, hy1]
                iterate 3
                  refine appK_of isSlice_lit ?_
                  rintro _ _ ⟨e2, rfl⟩
                  rw [e2]
                  clear e2
                  simp only [↓eD0, ↓eD1, eC0, eC1, eC2, eC3, eC4, eC5, eC6, wantedE, ↓reduceIte, Nat.reduceEqDiff, Option.map_some, Option.map_none, reread, List.nil_append, List.cons_append, List.map_cons, List.map_nil, List.length_nil, List.length_cons, Value.cells, List.getElem?_cons_zero, List.getElem?_cons_succ, outE, lks, lkR, rdV, neg1, evs, opt, Nat.reduceAdd, Nat.reduceMul, and_self, reduceCtorEq, List.size_toArray, List.all_cons, List.all_nil, Value.oneCell', List.set_cons_zero, List.set_cons_succ, sets, fillL, Nat.reduceLeDiff, List.drop_succ_cons, List.drop_zero, List.take_succ_cons, List.take_zero, List.toList_toArray, argsE, Array.append_empty, Array.empty_append, List.getElem?_toArray, Int.reduceLT, Int.reduceLE, Int.reduceToNat, Int.reduceEq, Nat.reduceLT, hk, hx1, hy1, f6, f7, w4, r4]
                have hf : contF A B (A.length + B.length + 1) 0 0 0 0 = .stop i k y true := by rw [← hr]; simp [contF, hxi, hyi, hx1, hy1]
                refine ⟨(ho.trans .ap).set l4, by simp [flat, flat.flat1], ?_⟩
                simp [contR, contV, hf, obsV, entV]
            · simp only [↓eD0, ↓eD1, eC0, eC1, eC2, eC3, eC4, eC5, eC6, wantedE, ↓reduceIte, Nat.reduceEqDiff, Option.map_some, Option.map_none, reread, List.nil_append, List.cons_append, List.map_cons, List.map_nil, List.length_nil, List.length_cons, Value.cells, List.getElem?_cons_zero, List.getElem?_cons_succ, outE, lks, lkR, rdV, neg1, evs, opt, Nat.reduceAdd, Nat.reduceMul, and_self, reduceCtorEq, List.size_toArray, List.all_cons, List.all_nil, Value.oneCell', List.set_cons_zero, List.set_cons_succ, sets, fillL, Nat.reduceLeDiff, List.drop_succ_cons, List.drop_zero, List.take_succ_cons, List.take_zero, List.toList_toArray, argsE, Array.append_empty, Array.empty_append, List.getElem?_toArray, Int.reduceLT, Int.reduceLE, Int.reduceToNat, Int.reduceEq, Nat.reduceLT, hk, hx1]
              refine appK_of isSlice_lit ?_
              rintro _ _ ⟨e2, rfl⟩
              rw [e2]
              clear e2
              by_cases hs : x.kind = y.kind ∧ x.cpu = y.cpu ∧ x.count = y.count ∧ x.n = y.n ∧ x.data = y.data
              · have hy1 : ¬ y.kind = 1 := hs.1 ▸ hx1
                simp only [↓eD0, ↓eD1, eC0, eC1, eC2, eC3, eC4, eC5, eC6, wantedE, ↓reduceIte, Nat.reduceEqDiff, Option.map_some, Option.map_none, reread, List.nil_append, List.cons_append, List.map_cons, List.map_nil, List.length_nil, List.length_cons, Value.cells, List.getElem?_cons_zero, List.getElem?_cons_succ, outE, lks, lkR, rdV, neg1, evs, opt, Nat.reduceAdd, Nat.reduceMul, and_self, reduceCtorEq, List.size_toArray, List.all_cons, List.all_nil, Value.oneCell', List.set_cons_zero, List.set_cons_succ, sets, fillL, Nat.reduceLeDiff, List.drop_succ_cons, List.drop_zero, List.take_succ_cons, List.take_zero, List.toList_toArray, argsE, Array.append_empty, Array.empty_append, List.getElem?_toArray, Int.reduceLT, Int.reduceLE, Int.reduceToNat, Int.reduceEq, Nat.reduceLT, hk, hx1, hy1, ent_eq, hs]
                refine appK_of (skip_app (σ0 := σ) la1 s17a (h6 _) (ho.trans .ap) l6 ra hi' hEA) ?_
                rintro _ _ ⟨rfl, u6, _, rfl⟩
                simp only [↓eD0, ↓eD1, eC0, eC1, eC2, eC3, eC4, eC5, eC6, wantedE, ↓reduceIte, Nat.reduceEqDiff, Option.map_some, Option.map_none, reread, List.nil_append, List.cons_append, List.map_cons, List.map_nil, List.length_nil, List.length_cons, Value.cells, List.getElem?_cons_zero, List.getElem?_cons_succ, outE, lks, lkR, rdV, neg1, evs, opt, Nat.reduceAdd, Nat.reduceMul, and_self, reduceCtorEq, List.size_toArray, List.all_cons, List.all_nil, Value.oneCell', List.set_cons_zero, List.set_cons_succ, sets, fillL, Nat.reduceLeDiff, List.drop_succ_cons, List.drop_zero, List.take_succ_cons, List.take_zero, List.toList_toArray, argsE, Array.append_empty, Array.empty_append, List.getElem?_toArray, Int.reduceLT, Int.reduceLE, Int.reduceToNat, Int.reduceEq, Nat.reduceLT]
                refine appK_of (skip_app (σ0 := σ) (ver := v7) lb1 s17b (by rw [get_set_ne n67]; exact h7 _) ((ho.trans .ap).set l6) l7 rb hk hEB) ?_
                rintro _ _ ⟨rfl, u7, _, rfl⟩
                simp only [↓eD0, ↓eD1, eC0, eC1, eC2, eC3, eC4, eC5, eC6, wantedE, ↓reduceIte, Nat.reduceEqDiff, Option.map_some, Option.map_none, reread, List.nil_append, List.cons_append, List.map_cons, List.map_nil, List.length_nil, List.length_cons, Value.cells, List.getElem?_cons_zero, List.getElem?_cons_succ, outE, lks, lkR, rdV, neg1, evs, opt, Nat.reduceAdd, Nat.reduceMul, and_self, reduceCtorEq, List.size_toArray, List.all_cons, List.all_nil, Value.oneCell', List.set_cons_zero, List.set_cons_succ, sets, fillL, Nat.reduceLeDiff, List.drop_succ_cons, List.drop_zero, List.take_succ_cons, List.take_zero, List.toList_toArray, argsE, Array.append_empty, Array.empty_append, List.getElem?_toArray, Int.reduceLT, Int.reduceLE, Int.reduceToNat, Int.reduceEq, Nat.reduceLT, or_true]
                exact fin _ _ _ (i + 1) (k + 1) 0 0 ((i:Int) + 1) ((k:Int) + 1) rfl rfl (hn0 _ _) (hn0 _ _) (by simp [contF, hxi, hyi, hx1, hy1, sameE, hs]) (by omega) (by omega) (by omega)
              · simp only [↓eD0, ↓eD1, eC0, eC1, eC2, eC3, eC4, eC5, eC6, wantedE, ↓reduceIte, Nat.reduceEqDiff, Option.map_some, Option.map_none, reread, List.nil_append, List.cons_append, List.map_cons, List.map_nil, List.length_nil, List.length_cons, Value.cells, List.getElem?_cons_zero, List.getElem?_cons_succ, outE, lks, lkR, rdV, neg1, evs, opt, Nat.reduceAdd, Nat.reduceMul, and_self, reduceCtorEq, List.size_toArray, List.all_cons, List.all_nil, Value.oneCell', List.set_cons_zero, List.set_cons_succ, sets, fillL, Nat.reduceLeDiff, List.drop_succ_cons, List.drop_zero, List.take_succ_cons, List.take_zero, List.toList_toArray, argsE, Array.append_empty, Array.empty_append, List.getElem?_toArray, Int.reduceLT, Int.reduceLE, Int.reduceToNat, Int.reduceEq, Nat.reduceLT, hk, hx1, ent_eq, hs]
                refine appK_of isSlice_lit ?_
                rintro _ _ ⟨e2, rfl⟩
                rw [e2]
                clear e2
                simp only [↓eD0, ↓eD1, eC0, eC1, eC2, eC3, eC4, eC5, eC6, wantedE, ↓reduceIte, Nat.reduceEqDiff, Option.map_some, Option.map_none, reread, List.nil_append, List.cons_append, List.map_cons, List.map_nil, List.length_nil, List.length_cons, Value.cells, List.getElem?_cons_zero, List.getElem?_cons_succ, outE, lks, lkR, rdV, neg1, evs, opt, Nat.reduceAdd, Nat.reduceMul, and_self, reduceCtorEq, List.size_toArray, List.all_cons, List.all_nil, Value.oneCell', List.set_cons_zero, List.set_cons_succ, sets, fillL, Nat.reduceLeDiff, List.drop_succ_cons, List.drop_zero, List.take_succ_cons, List.take_zero, List.toList_toArray, argsE, Array.append_empty, Array.empty_append, List.getElem?_toArray, Int.reduceLT, Int.reduceLE, Int.reduceToNat, Int.reduceEq, Nat.reduceLT, hk, hx1, f6, f7, w4, r4]
                have hf : contF A B (A.length + B.length + 1) 0 0 0 0 = .stop i k x false := by rw [← hr]; simp [contF, hxi, hyi, hx1, sameE, hs]
                refine ⟨(ho.trans .ap).set l4, by simp [flat, flat.flat1], ?_⟩
                simp [contR, contV, hf, obsV, entV]
          · simp only [↓eD0, ↓eD1, eC0, eC1, eC2, eC3, eC4, eC5, eC6, wantedE, ↓reduceIte, Nat.reduceEqDiff, Option.map_some, Option.map_none, reread, List.nil_append, List.cons_append, List.map_cons, List.map_nil, List.length_nil, List.length_cons, Value.cells, List.getElem?_cons_zero, List.getElem?_cons_succ, outE, lks, lkR, rdV, neg1, evs, opt, Nat.reduceAdd, Nat.reduceMul, and_self, reduceCtorEq, List.size_toArray, List.all_cons, List.all_nil, Value.oneCell', List.set_cons_zero, List.set_cons_succ, sets, fillL, Nat.reduceLeDiff, List.drop_succ_cons, List.drop_zero, List.take_succ_cons, List.take_zero, List.toList_toArray, argsE, Array.append_empty, Array.empty_append, List.getElem?_toArray, Int.reduceLT, Int.reduceLE, Int.reduceToNat, Int.reduceEq, Nat.reduceLT, hk, f6, f7, w4, r4]
            have hyi : B[k]? = none := by simp; omega
            obtain ⟨m', rfl⟩ : ∃ m', m = m' + 1 := ⟨m - 1, by omega⟩
            have hf : contF A B (A.length + B.length + 1) 0 0 0 0 = .stop i k x false := by rw [← hr]; simp [contF, hxi, hyi]
            refine ⟨(ho.trans .ap).set l4, by simp [flat, flat.flat1], ?_⟩
            simp [contR, contV, hf, obsV, entV]
        · simp only [↓eD0, ↓eD1, eC0, eC1, eC2, eC3, eC4, eC5, eC6, wantedE, ↓reduceIte, Nat.reduceEqDiff, Option.map_some, Option.map_none, reread, List.nil_append, List.cons_append, List.map_cons, List.map_nil, List.length_nil, List.length_cons, Value.cells, List.getElem?_cons_zero, List.getElem?_cons_succ, outE, lks, lkR, rdV, neg1, evs, opt, Nat.reduceAdd, Nat.reduceMul, and_self, reduceCtorEq, List.size_toArray, List.all_cons, List.all_nil, Value.oneCell', List.set_cons_zero, List.set_cons_succ, sets, fillL, Nat.reduceLeDiff, List.drop_succ_cons, List.drop_zero, List.take_succ_cons, List.take_zero, List.toList_toArray, argsE, Array.append_empty, Array.empty_append, List.getElem?_toArray, Int.reduceLT, Int.reduceLE, Int.reduceToNat, Int.reduceEq, Nat.reduceLT, hi, w4, r4]
          have hxi : A[i]? = none := by simp; omega
          obtain ⟨m', rfl⟩ : ∃ m', m = m' + 1 := ⟨m - 1, by omega⟩
          have hf : contF A B (A.length + B.length + 1) 0 0 0 0 = .goesOn := by rw [← hr]; simp [contF, hxi]
          refine ⟨(ho.trans .ap).set l4, by simp [flat, flat.flat1], ?_⟩
          simp [contR, contV, hf, obsV, entV, zeroE]
    · simp only [↓eD0, ↓eD1, eC0, eC1, eC2, eC3, eC4, eC5, eC6, wantedE, ↓reduceIte, Nat.reduceEqDiff, Option.map_some, Option.map_none, reread, List.nil_append, List.cons_append, List.map_cons, List.map_nil, List.length_nil, List.length_cons, Value.cells, List.getElem?_cons_zero, List.getElem?_cons_succ, outE, lks, lkR, rdV, neg1, evs, opt, Nat.reduceAdd, Nat.reduceMul, and_self, reduceCtorEq, List.size_toArray, List.all_cons, List.all_nil, Value.oneCell', List.set_cons_zero, List.set_cons_succ, sets, fillL, Nat.reduceLeDiff, List.drop_succ_cons, List.drop_zero, List.take_succ_cons, List.take_zero, List.toList_toArray, argsE, Array.append_empty, Array.empty_append, List.getElem?_toArray, Int.reduceLT, Int.reduceLE, Int.reduceToNat, Int.reduceEq, Nat.reduceLT, la1, lb1, la2, lb2, la3, lb3, heq, hd, hc]
      exact ⟨.ap, by simp [flat, flat.flat1], by simp [contV, contR, hc, obsV, entV, zeroE]⟩
  · simp only [↓eD0, ↓eD1, eC0, eC1, eC2, eC3, eC4, eC5, eC6, wantedE, ↓reduceIte, Nat.reduceEqDiff, Option.map_some, Option.map_none, reread, List.nil_append, List.cons_append, List.map_cons, List.map_nil, List.length_nil, List.length_cons, Value.cells, List.getElem?_cons_zero, List.getElem?_cons_succ, outE, lks, lkR, rdV, neg1, evs, opt, Nat.reduceAdd, Nat.reduceMul, and_self, reduceCtorEq, List.size_toArray, List.all_cons, List.all_nil, Value.oneCell', List.set_cons_zero, List.set_cons_succ, sets, fillL, Nat.reduceLeDiff, List.drop_succ_cons, List.drop_zero, List.take_succ_cons, List.take_zero, List.toList_toArray, argsE, Array.append_empty, Array.empty_append, List.getElem?_toArray, Int.reduceLT, Int.reduceLE, Int.reduceToNat, Int.reduceEq, Nat.reduceLT, la1, lb1, la2, lb2, la3, lb3, heq, hd]
    exact ⟨.ap, by simp [flat, flat.flat1], by simp [contV, contR, hd, obsV, entV, zeroE]⟩
end Go.Proofs.YtljmjkpmkpchoaaDoor
