/- Walks of the functions that the claim reaches. Conditions: none. -/
import Derived.Test.YtljmjkpmkpchoaaDoorWd
set_option linter.all false
set_option linter.unusedSimpArgs false
set_option maxRecDepth 10000
set_option maxHeartbeats 4000000
namespace Go.Proofs.YtljmjkpmkpchoaaDoor
open Go Go.Cn Go.RowKit

/-- The cells of a log. -/
def recC (d : List Int) (c : Int) (v w : Value) : List Value := digC d ++ [Value.int .i64 c, v, w]

section
variable {d : List Int} (hd : d.length = 16) {c : Int} {v w x : Value}
include hd
theorem digC_len : (digC d).length = 16 := by simp [digC, hd]
theorem rec_len : (recC d c v w).length = 19 := by simp [recC, digC, hd]
theorem rec16 : (recC d c v w)[16]? = some (.int .i64 c) := by rw [recC, List.getElem?_append_right (by rw [digC_len hd]; omega), digC_len hd]; rfl
theorem rec17 : (recC d c v w)[17]? = some v := by rw [recC, List.getElem?_append_right (by rw [digC_len hd]; omega), digC_len hd]; rfl
theorem rec18 : (recC d c v w)[18]? = some w := by rw [recC, List.getElem?_append_right (by rw [digC_len hd]; omega), digC_len hd]; rfl
theorem rec_s17 : (recC d c v w).set 17 x = recC d c x w := by simp [recC, List.set_append, digC_len hd]
theorem rec_s18 : (recC d c v w).set 18 x = recC d c v x := by simp [recC, List.set_append, digC_len hd]
theorem rec_take : (recC d c v w).take 19 = recC d c v w := List.take_of_length_le (by rw [rec_len hd]; omega)
theorem rec_take16 : (recC d c v w).take 16 = digC d := by rw [recC, List.take_left' (digC_len hd)]
theorem rec_sets {z : List Value} (hz : z.length = 19) : sets z 0 (recC d c v w) = recC d c v w := by
  rw [sets_all (by rw [rec_len hd]; omega), rec_len hd]; simp [hz]
theorem rec_sets20 {a b e f g h i j k l m n o p q r s t u y : Value} : sets [a, b, e, f, g, h, i, j, k, l, m, n, o, p, q, r, s, t, u, y] 0 (recC d c v w) = recC d c v w ++ [y] := by
  rw [sets_all (by simp [rec_len hd]), rec_len hd]; simp
theorem rec_sets21 {a b e f g h i j k l m n o p q r s t u y z : Value} : sets [a, b, e, f, g, h, i, j, k, l, m, n, o, p, q, r, s, t, u, y, z] 0 (recC d c v w) = recC d c v w ++ [y, z] := by
  rw [sets_all (by simp [rec_len hd]), rec_len hd]; simp
theorem rec_build {a b e f g h i j k l m n o p q r : Value} : sets [a, b, e, f, g, h, i, j, k, l, m, n, o, p, q, r, .int .i64 0, v, w] 0 (digC d) = recC d 0 v w := by
  rw [sets_all (by simp [digC_len hd]), digC_len hd]; simp [recC]
theorem rec_s16 {y : Int} : (recC d c v w).set 16 (.int .i64 y) = recC d y v w := by simp [recC, List.set_append, digC_len hd]
end
theorem rec_one {d : List Int} {c : Int} {a a' : Option Addr} {b b' e e' : Nat} : (recC d c (.slice a b e) (.slice a' b' e')).all Value.oneCell' = true := by
  simp only [recC, List.all_append, digC_one, List.all_cons, List.all_nil]; rfl
theorem rec_one1 {d : List Int} {c : Int} {a a' : Option Addr} {b b' e e' : Nat} {y : Int} : (recC d c (.slice a b e) (.slice a' b' e') ++ [Value.int .i64 y]).all Value.oneCell' = true := by
  rw [List.all_append, rec_one]; rfl
theorem rec_one2 {d : List Int} {c : Int} {a a' : Option Addr} {b b' e e' : Nat} {y z : Int} : (recC d c (.slice a b e) (.slice a' b' e') ++ [Value.int .i64 y, Value.int .i64 z]).all Value.oneCell' = true := by
  rw [List.all_append, rec_one]; rfl
theorem rec_oneV {d : List Int} {c : Int} {v w : Value} (hv : v.oneCell' = true) (hw : w.oneCell' = true) : (recC d c v w).all Value.oneCell' = true := by
  simp only [recC, List.all_append, digC_one, List.all_cons, List.all_nil, hv, hw]; rfl
theorem rec_ne {d : List Int} {c : Int} {v w : Value} : (recC d c v w = []) = False := by simp [recC]
theorem rec_ne1 {d : List Int} {c : Int} {v w : Value} {r : List Value} : (recC d c v w ++ r = []) = False := by simp [recC]
theorem digC_ne {d : List Int} (hd : d.length = 16) : (digC d = []) = False := by cases d with
  | nil => simp at hd
  | cons _ _ => simp [digC]

theorem zeroL_rec : zeroL = recC (List.replicate 16 0) 0 (.slice none 0 0) (.slice none 0 0) := rfl

theorem IsLg.recs {σ : H} {l : List Value} {L : Lg} (h : IsLg σ l L) : ∃ a b a' b', l = recC L.d L.c (.slice a L.E.length b) (.slice a' L.S.length b') ∧ Row σ 5 (.slice a L.E.length b) (L.E.map entV) ∧ Row σ 33 (.slice a' L.S.length b') (L.S.map seaV) ∧ CapOk 5 (.slice a L.E.length b) := by
  obtain ⟨v, w, rfl, hv, hw⟩ := h.eq
  have hcap : CapOk 5 v := by
    obtain ⟨sl, h1, h2⟩ := h.cap
    have : (digC L.d).length = 16 := by simp [digC, h.log.d16]
    rw [List.getElem?_append_right (by omega), this] at h1
    injection h1 with h1; subst h1; exact h2
  obtain ⟨a, b, rfl⟩ := hv.slice
  obtain ⟨a', b', rfl⟩ := hw.slice
  simp only [List.length_map] at hv hw hcap ⊢
  exact ⟨a, b, a', b', rfl, hv, hw, hcap⟩

/-- A log being made, in the block after its source and after the result. -/
structure Mk (σ τ : H) (l z : List Value) (d : List Int) (c : Int) (v w : Value) : Prop where
  old : Old σ τ
  len : σ.size + 3 ≤ τ.size
  h2 : τ[σ.size]? = some (.cells 0 l (0, 0))
  h4 : τ[σ.size + 1]? = some (.cells 0 z (0, 0))
  h5 : ∃ ver, τ[σ.size + 2]? = some (.cells ver (recC d c v w) (0, 0))

theorem Mk.ap {σ τ : H} {l z : List Value} {d : List Int} {c : Int} {v w : Value} (h : Mk σ τ l z d c v w) {L : List Blk} : Mk σ (ap τ L) l z d c v w :=
  have o : Old τ (Cn.ap τ L) := .ap
  have hl := h.len
  ⟨h.old.trans o, Nat.le_trans hl o.1, (o.2 _ (by omega)).trans h.h2, (o.2 _ (by omega)).trans h.h4, let ⟨ver, h5⟩ := h.h5; ⟨ver, (o.2 _ (by omega)).trans h5⟩⟩

theorem Mk.app {σ τ τ' : H} {l z : List Value} {d : List Int} {c : Int} {v w u u' : Value} {s n n' N : Nat} {cs cs' : List Value} (h : Mk σ τ l z d c v w) (ha : Ap (sized N) τ τ' s u u' cs' n') (hg : Grown (sized N) τ s u cs n) (hN : σ.size + 3 ≤ N) : Mk σ τ' l z d c v w :=
  have hl := h.len
  have q : ∀ c, c < σ.size + 3 → c < (sized N).size := fun c hc => by rw [sized_size]; omega
  ⟨ha.Old' hg (by rw [sized_size]; omega) h.old, Nat.le_trans hl ha.size, ha.low hg (q _ (by omega)) h.h2, ha.low hg (q _ (by omega)) h.h4, let ⟨ver, h5⟩ := h.h5; ⟨ver, ha.low hg (q _ (by omega)) h5⟩⟩

theorem Mk.set {σ τ : H} {l z : List Value} {d : List Int} {c : Int} {v w v' w' : Value} (h : Mk σ τ l z d c v w) {ver : Nat} : Mk σ (τ.setIfInBounds (σ.size + 2) (.cells ver (recC d c v' w') (0, 0))) l z d c v' w' :=
  let ⟨_, h5⟩ := h.h5
  ⟨h.old.set (by omega), by simpa using h.len, (get_set_ne (by omega)).trans h.h2, (get_set_ne (by omega)).trans h.h4, ver, get_set h5⟩

def rd0 : List Value := [.int .u8 0, .int .u8 0, .int .u8 0, .int .u8 0, .int .u8 0, .int .u8 0, .int .u8 0, .int .u8 0, .int .u8 0, .int .u8 0, .int .u8 0, .int .u8 0, .int .u8 0, .int .u8 0, .int .u8 0, .int .u8 0, .int .i64 0, .slice none 0 0, .slice none 0 0, .int .i64 0]

theorem rdrop_app {σ : H} {l : List Value} {L : Lg} {i : Int} (h : IsLg σ l L) :
    App Tryd.prog (.func 13) #[] #[.agg l.toArray, .int .i64 i] σ fun v σ' => Old σ σ' ∧ ∃ l', v = .agg (l' ++ [Value.int .i64 (dropF L i).2]).toArray ∧ IsLg σ' l' (dropF L i).1 := by
  refine App.of_sem mixed Tryd.func13 t13 k13 r13 (Nat.le_of_ble_eq_true rfl) ?_
  obtain ⟨a1, b1, a2, b2, rfl, hv, hw, hcap⟩ := h.recs
  have hd := h.log.d16
  have e0 : ap σ [] = σ := ap_nil
  rw [← e0]
  unfold s13
  simp only [↓eD0, ↓eD1, eC0, eC1, eC2, eC3, eC4, eC5, eC6, wantedE, ↓reduceIte, Nat.reduceEqDiff, Option.map_some, Option.map_none, reread, List.nil_append, List.cons_append, List.map_cons, List.map_nil, List.length_nil, List.length_cons, Value.cells, List.getElem?_cons_zero, List.getElem?_cons_succ, outE, lks, lkR, rdV, neg1, evs, opt, Nat.reduceAdd, Nat.reduceMul, and_self, reduceCtorEq, List.size_toArray, List.all_cons, List.all_nil, Value.oneCell', List.set_cons_zero, List.set_cons_succ, sets, fillL, Nat.reduceLeDiff, List.drop_succ_cons, List.drop_zero, List.take_succ_cons, List.take_zero, List.toList_toArray, argsE, Array.append_empty, Array.empty_append, List.getElem?_toArray, Int.reduceLT, Int.reduceLE, Int.reduceToNat, Int.reduceEq, Nat.reduceLT, rec17 hd]
  by_cases h0 : i < 0
  · simp only [↓eD0, ↓eD1, eC0, eC1, eC2, eC3, eC4, eC5, eC6, wantedE, ↓reduceIte, Nat.reduceEqDiff, Option.map_some, Option.map_none, reread, List.nil_append, List.cons_append, List.map_cons, List.map_nil, List.length_nil, List.length_cons, Value.cells, List.getElem?_cons_zero, List.getElem?_cons_succ, outE, lks, lkR, rdV, neg1, evs, opt, Nat.reduceAdd, Nat.reduceMul, and_self, reduceCtorEq, List.size_toArray, List.all_cons, List.all_nil, Value.oneCell', List.set_cons_zero, List.set_cons_succ, sets, fillL, Nat.reduceLeDiff, List.drop_succ_cons, List.drop_zero, List.take_succ_cons, List.take_zero, List.toList_toArray, argsE, Array.append_empty, Array.empty_append, List.getElem?_toArray, Int.reduceLT, Int.reduceLE, Int.reduceToNat, Int.reduceEq, Nat.reduceLT, h0, rec17 hd]
    exact ⟨.ap, zeroL, by simp [dropF, h0, zeroL], by simp only [dropF, h0, true_or, if_true]; exact isLg_zero⟩
  · by_cases h1 : (L.E.length : Int) ≤ i
    · simp only [↓eD0, ↓eD1, eC0, eC1, eC2, eC3, eC4, eC5, eC6, wantedE, ↓reduceIte, Nat.reduceEqDiff, Option.map_some, Option.map_none, reread, List.nil_append, List.cons_append, List.map_cons, List.map_nil, List.length_nil, List.length_cons, Value.cells, List.getElem?_cons_zero, List.getElem?_cons_succ, outE, lks, lkR, rdV, neg1, evs, opt, Nat.reduceAdd, Nat.reduceMul, and_self, reduceCtorEq, List.size_toArray, List.all_cons, List.all_nil, Value.oneCell', List.set_cons_zero, List.set_cons_succ, sets, fillL, Nat.reduceLeDiff, List.drop_succ_cons, List.drop_zero, List.take_succ_cons, List.take_zero, List.toList_toArray, argsE, Array.append_empty, Array.empty_append, List.getElem?_toArray, Int.reduceLT, Int.reduceLE, Int.reduceToNat, Int.reduceEq, Nat.reduceLT, h0, h1, rec17 hd]
      exact ⟨.ap, zeroL, by simp [dropF, h0, h1, zeroL], by simp only [dropF, h1, true_or, or_true, if_true]; exact isLg_zero⟩
    · obtain ⟨k, rfl⟩ : ∃ k : Nat, i = k := ⟨i.toNat, by omega⟩
      have hk : k < L.E.length := by omega
      obtain ⟨b', off, rfl, hx⟩ := hv.at (i := k) (x := entV L.E[k]) (by simp [hk])
      have hx5 : ∀ l, rdN (ap σ l) ⟨b', off + k * 5, none⟩ 5 = some (entV L.E[k]) := fun l => rdN_old hx
      have bi : (0:Int) ≤ (k:Int) ∧ (k:Int) < (L.E.length : Int) := by omega
      simp only [↓eD0, ↓eD1, eC0, eC1, eC2, eC3, eC4, eC5, eC6, wantedE, ↓reduceIte, Nat.reduceEqDiff, Option.map_some, Option.map_none, reread, List.nil_append, List.cons_append, List.map_cons, List.map_nil, List.length_nil, List.length_cons, Value.cells, List.getElem?_cons_zero, List.getElem?_cons_succ, outE, lks, lkR, rdV, neg1, evs, opt, Nat.reduceAdd, Nat.reduceMul, and_self, reduceCtorEq, List.size_toArray, List.all_cons, List.all_nil, Value.oneCell', List.set_cons_zero, List.set_cons_succ, sets, fillL, Nat.reduceLeDiff, List.drop_succ_cons, List.drop_zero, List.take_succ_cons, List.take_zero, List.toList_toArray, argsE, Array.append_empty, Array.empty_append, List.getElem?_toArray, Int.reduceLT, Int.reduceLE, Int.reduceToNat, Int.reduceEq, Nat.reduceLT, h0, h1, rec17 hd, bi, Int.toNat_natCast, hx5, entV]
      refine appK_of slice_lit ?_
      rintro _ _ ⟨e2, rfl⟩
      rw [e2]
      clear e2
      have hg : L.E.getD k zeroE = L.E[k] := by simp [List.getD_eq_getElem?_getD, hk]
      by_cases h2 : L.E[k].kind = 1
      · simp only [↓eD0, ↓eD1, eC0, eC1, eC2, eC3, eC4, eC5, eC6, wantedE, ↓reduceIte, Nat.reduceEqDiff, Option.map_some, Option.map_none, reread, List.nil_append, List.cons_append, List.map_cons, List.map_nil, List.length_nil, List.length_cons, Value.cells, List.getElem?_cons_zero, List.getElem?_cons_succ, outE, lks, lkR, rdV, neg1, evs, opt, Nat.reduceAdd, Nat.reduceMul, and_self, reduceCtorEq, List.size_toArray, List.all_cons, List.all_nil, Value.oneCell', List.set_cons_zero, List.set_cons_succ, sets, fillL, Nat.reduceLeDiff, List.drop_succ_cons, List.drop_zero, List.take_succ_cons, List.take_zero, List.toList_toArray, argsE, Array.append_empty, Array.empty_append, List.getElem?_toArray, Int.reduceLT, Int.reduceLE, Int.reduceToNat, Int.reduceEq, Nat.reduceLT, h0, h1, rec17 hd, h2]
        exact ⟨.ap, zeroL, by simp only [dropF, Int.toNat_natCast, hg, h2, or_true, if_true, zeroL]; rfl, by simp only [dropF, Int.toNat_natCast, hg, h2, or_true, if_true]; exact isLg_zero⟩
      · have hdr : dropF L k = (⟨L.d, L.c, filt (fun j _ => !decide ((j : Int) = k)) L.E, filt (fun _ s => decide (s.end_ ≤ (k : Int))) L.S⟩, 0) := by
          unfold dropF; rw [if_neg]; simp only [Int.toNat_natCast, hg]; omega
        simp only [↓eD0, ↓eD1, eC0, eC1, eC2, eC3, eC4, eC5, eC6, wantedE, ↓reduceIte, Nat.reduceEqDiff, Option.map_some, Option.map_none, reread, List.nil_append, List.cons_append, List.map_cons, List.map_nil, List.length_nil, List.length_cons, Value.cells, List.getElem?_cons_zero, List.getElem?_cons_succ, outE, lks, lkR, rdV, neg1, evs, opt, Nat.reduceAdd, Nat.reduceMul, and_self, reduceCtorEq, List.size_toArray, List.all_cons, List.all_nil, Value.oneCell', List.set_cons_zero, List.set_cons_succ, sets, fillL, Nat.reduceLeDiff, List.drop_succ_cons, List.drop_zero, List.take_succ_cons, List.take_zero, List.toList_toArray, argsE, Array.append_empty, Array.empty_append, List.getElem?_toArray, Int.reduceLT, Int.reduceLE, Int.reduceToNat, Int.reduceEq, Nat.reduceLT, h0, h1, h2, rec16 hd, rec17 hd, rec_len hd, rec_take16 hd, digC_len hd, rec_build hd, rec_s16 hd, rec_take hd, rec_sets hd, rec_one, rec_ne]
        refine loop_for (J := fun i e τ => i ≤ L.E.length ∧ ∃ v, Mk σ τ (recC L.d L.c (.slice (some ⟨b', off, none⟩) L.E.length b1) (.slice a2 L.S.length b2)) rd0 L.d L.c v (.slice none 0 0) ∧
          e = [(1, .int .i64 k), (2, .pointer (some ⟨σ.size, 0, none⟩)), (4, .pointer (some ⟨σ.size + 1, 0, none⟩)), (5, .pointer (some ⟨σ.size + 2, 0, none⟩)), (6, .int .i64 i)] ∧
          Grown (sized (σ.size + 3)) τ 5 v ((filt (fun j (_ : Ent) => !decide ((j : Int) = k)) (L.E.take i)).map entV).flatten (filt (fun j (_ : Ent) => !decide ((j : Int) = k)) (L.E.take i)).length) L.E.length
          ⟨by omega, _, ⟨.ap, by simp [ap_size], ap_new0, ap_new, 1, ap_new⟩, rfl, .nil⟩ ?_
        rintro i e τ hi ⟨_, v, hM, rfl, hg⟩
        obtain ⟨ver, h5⟩ := hM.h5
        have e1 : ap τ [] = τ := ap_nil
        have t2 : ∀ l, rd1 (ap τ l) ⟨σ.size, 17, none⟩ = some (.slice (some ⟨b', off, none⟩) L.E.length b1) := fun l => by rw [rd1_eq, hM.ap.h2, rdc1_cells, rec17 hd]
        have t5 : ∀ l, rd1 (ap τ l) ⟨σ.size + 2, 17, none⟩ = some v := fun l => by obtain ⟨_, h5⟩ := (hM.ap (L := l)).h5; rw [rd1_eq, h5, rdc1_cells, rec17 hd]
        rw [← e1]
        simp only [↓eD0, ↓eD1, eC0, eC1, eC2, eC3, eC4, eC5, eC6, wantedE, ↓reduceIte, Nat.reduceEqDiff, Option.map_some, Option.map_none, reread, List.nil_append, List.cons_append, List.map_cons, List.map_nil, List.length_nil, List.length_cons, Value.cells, List.getElem?_cons_zero, List.getElem?_cons_succ, outE, lks, lkR, rdV, neg1, evs, opt, Nat.reduceAdd, Nat.reduceMul, and_self, reduceCtorEq, List.size_toArray, List.all_cons, List.all_nil, Value.oneCell', List.set_cons_zero, List.set_cons_succ, sets, fillL, Nat.reduceLeDiff, List.drop_succ_cons, List.drop_zero, List.take_succ_cons, List.take_zero, List.toList_toArray, argsE, Array.append_empty, Array.empty_append, List.getElem?_toArray, Int.reduceLT, Int.reduceLE, Int.reduceToNat, Int.reduceEq, Nat.reduceLT, t2, t5]
        refine onI_dec (fun hlt => ?_) (fun hge => ?_)
        · have hlt : i < L.E.length := by simpa using hlt
          have hx : (L.E.map entV)[i]? = some (entV L.E[i]) := by simp [hlt]
          obtain ⟨_, _, hbb, h1⟩ := hv.at hx
          injection hbb with hbb; injection hbb with hb1 hb2; subst hb1 hb2
          have hr : ∀ l, rdN (ap τ l) ⟨b', off + i * 5, none⟩ 5 = some (entV L.E[i]) := fun l => rdN_Old (hM.ap.old) h1
          have hb : (0:Int) ≤ (i:Int) ∧ (i:Int) < (L.E.length : Int) := by omega
          have hw' : IntKind.wrap .i64 ((i:Int) + 1) = ((i + 1 : Nat) : Int) := by rw [wrap64 (by omega) (by have := h.fewE; omega)]; omega
          have ht := filt_take (p := fun j (_ : Ent) => !decide ((j : Int) = k)) hlt
          by_cases hik : (i:Int) = (k:Int)
          · have hdec : decide ((i:Int) = (k:Int)) = true := by simpa using hik
            simp only [↓eD0, ↓eD1, eC0, eC1, eC2, eC3, eC4, eC5, eC6, wantedE, ↓reduceIte, Nat.reduceEqDiff, Option.map_some, Option.map_none, reread, List.nil_append, List.cons_append, List.map_cons, List.map_nil, List.length_nil, List.length_cons, Value.cells, List.getElem?_cons_zero, List.getElem?_cons_succ, outE, lks, lkR, rdV, neg1, evs, opt, Nat.reduceAdd, Nat.reduceMul, and_self, reduceCtorEq, List.size_toArray, List.all_cons, List.all_nil, Value.oneCell', List.set_cons_zero, List.set_cons_succ, sets, fillL, Nat.reduceLeDiff, List.drop_succ_cons, List.drop_zero, List.take_succ_cons, List.take_zero, List.toList_toArray, argsE, Array.append_empty, Array.empty_append, List.getElem?_toArray, Int.reduceLT, Int.reduceLE, Int.reduceToNat, Int.reduceEq, Nat.reduceLT, t2, t5, hdec, hb, Int.toNat_natCast, hr, entV, hw']
            have g := hg.old (Old.ap (l := []))
            rw [ht, if_neg (by simp [hik]), List.append_nil]
            first
            | exact ⟨hlt, by omega, v, hM.ap, g⟩
            | exact ⟨hlt, by omega, v, hM.ap, rfl, g⟩
          · simp only [↓eD0, ↓eD1, eC0, eC1, eC2, eC3, eC4, eC5, eC6, wantedE, ↓reduceIte, Nat.reduceEqDiff, Option.map_some, Option.map_none, reread, List.nil_append, List.cons_append, List.map_cons, List.map_nil, List.length_nil, List.length_cons, Value.cells, List.getElem?_cons_zero, List.getElem?_cons_succ, outE, lks, lkR, rdV, neg1, evs, opt, Nat.reduceAdd, Nat.reduceMul, and_self, reduceCtorEq, List.size_toArray, List.all_cons, List.all_nil, Value.oneCell', List.set_cons_zero, List.set_cons_succ, sets, fillL, Nat.reduceLeDiff, List.drop_succ_cons, List.drop_zero, List.take_succ_cons, List.take_zero, List.toList_toArray, argsE, Array.append_empty, Array.empty_append, List.getElem?_toArray, Int.reduceLT, Int.reduceLE, Int.reduceToNat, Int.reduceEq, Nat.reduceLT, t2, t5, hik, hb, Int.toNat_natCast, hr, entV]
            have hl : (filt (fun j (_ : Ent) => !decide ((j : Int) = k)) (L.E.take i)).length ≤ i := Nat.le_trans filt_len (by simp; omega)
            have hl2 := hM.len
            have hlE := h.fewE
            obtain ⟨v', τ', ha, hA⟩ := append_grown (σ := ap τ [.cells 0 (entV L.E[i]) (0, 0)]) (xa := .slice (some ⟨τ.size, 0, none⟩) 1 1) (bytes := 48) (m := 1) (new := entV L.E[i]) (hg.old .ap) (by omega) (by rw [sized_size, ap_size]; omega) (by
              show (rdN (ap τ _) ⟨τ.size, 0, none⟩ (1 * 5)).map (1, ·) = _
              simp only [rdN_ap0, List.getElem?_cons_zero, rdcN_cells]
              rfl) rfl rfl (by omega) (by omega)
            refine onV_of ha ?_
            have hM' := (hM.ap (L := [.cells 0 (entV L.E[i]) (0, 0)])).app hA (hg.old .ap) (Nat.le_refl _)
            obtain ⟨a', c', rfl⟩ := hA.grown.slice
            obtain ⟨ver', h5'⟩ := hM'.h5
            simp only [↓eD0, ↓eD1, eC0, eC1, eC2, eC3, eC4, eC5, eC6, wantedE, ↓reduceIte, Nat.reduceEqDiff, Option.map_some, Option.map_none, reread, List.nil_append, List.cons_append, List.map_cons, List.map_nil, List.length_nil, List.length_cons, Value.cells, List.getElem?_cons_zero, List.getElem?_cons_succ, outE, lks, lkR, rdV, neg1, evs, opt, Nat.reduceAdd, Nat.reduceMul, and_self, reduceCtorEq, List.size_toArray, List.all_cons, List.all_nil, Value.oneCell', List.set_cons_zero, List.set_cons_succ, sets, fillL, Nat.reduceLeDiff, List.drop_succ_cons, List.drop_zero, List.take_succ_cons, List.take_zero, List.toList_toArray, argsE, Array.append_empty, Array.empty_append, List.getElem?_toArray, Int.reduceLT, Int.reduceLE, Int.reduceToNat, Int.reduceEq, Nat.reduceLT, wrN_eq, h5', rec_len hd, rec_s17 hd, hw']
            have g := hA.grown.set (b := σ.size + 2) (k := .cells (ver' + 1) (recC L.d L.c (.slice a' ((filt (fun j (_ : Ent) => !decide ((j : Int) = k)) (L.E.take i)).length + 1) c') (.slice none 0 0)) (0, 0)) (by rw [sized_size]; omega)
            rw [ht, if_pos (by simp [hik]), List.map_append, List.flatten_append, List.length_append]
            refine ⟨hlt, by omega, _, hM'.set, ?_⟩
            first
            | exact ⟨rfl, by simpa using g⟩
            | simpa using g
        · have : i = L.E.length := by omega
          subst this
          simp only [↓eD0, ↓eD1, eC0, eC1, eC2, eC3, eC4, eC5, eC6, wantedE, ↓reduceIte, Nat.reduceEqDiff, Option.map_some, Option.map_none, reread, List.nil_append, List.cons_append, List.map_cons, List.map_nil, List.length_nil, List.length_cons, Value.cells, List.getElem?_cons_zero, List.getElem?_cons_succ, outE, lks, lkR, rdV, neg1, evs, opt, Nat.reduceAdd, Nat.reduceMul, and_self, reduceCtorEq, List.size_toArray, List.all_cons, List.all_nil, Value.oneCell', List.set_cons_zero, List.set_cons_succ, sets, fillL, Nat.reduceLeDiff, List.drop_succ_cons, List.drop_zero, List.take_succ_cons, List.take_zero, List.toList_toArray, argsE, Array.append_empty, Array.empty_append, List.getElem?_toArray, Int.reduceLT, Int.reduceLE, Int.reduceToNat, Int.reduceEq, Nat.reduceLT, List.take_length] at hg ⊢
          have hlE := h.fewE
          have ov := hg.one
          have hbase : ∀ c, baseOf v = some c → c < τ.size := fun c hc => (hg.base hc).2
          have hM0 := hM.len
          generalize hN : τ.size = N at hbase hM0
          refine loop_for (J := fun i e τ => i ≤ L.S.length ∧ ∃ w', Mk σ τ (recC L.d L.c (.slice (some ⟨b', off, none⟩) L.E.length b1) (.slice a2 L.S.length b2)) rd0 L.d L.c v w' ∧
            e = [(1, .int .i64 k), (2, .pointer (some ⟨σ.size, 0, none⟩)), (4, .pointer (some ⟨σ.size + 1, 0, none⟩)), (5, .pointer (some ⟨σ.size + 2, 0, none⟩)), (7, .int .i64 i)] ∧ N ≤ τ.size ∧
            Grown (sized (σ.size + 3)) τ 5 v ((filt (fun j (_ : Ent) => !decide ((j : Int) = k)) L.E).map entV).flatten (filt (fun j (_ : Ent) => !decide ((j : Int) = k)) L.E).length ∧
            Grown (sized N) τ 33 w' ((filt (fun _ s => decide (s.end_ ≤ (k : Int))) (L.S.take i)).map seaV).flatten (filt (fun _ s => decide (s.end_ ≤ (k : Int))) (L.S.take i)).length) L.S.length
            ⟨by omega, _, hM.ap, rfl, by rw [ap_size]; omega, hg.old .ap, .nil⟩ ?_
          clear hg hM t2 t5 h5 e1
          clear hN τ
          rintro i e τ hi ⟨_, w', hM, rfl, hNτ, hgv, hg⟩
          obtain ⟨ver, h5⟩ := hM.h5
          have e1 : ap τ [] = τ := ap_nil
          have t2 : ∀ l, rd1 (ap τ l) ⟨σ.size, 18, none⟩ = some (.slice a2 L.S.length b2) := fun l => by rw [rd1_eq, hM.ap.h2, rdc1_cells, rec18 hd]
          have t5 : ∀ l, rd1 (ap τ l) ⟨σ.size + 2, 18, none⟩ = some w' := fun l => by obtain ⟨_, h5⟩ := (hM.ap (L := l)).h5; rw [rd1_eq, h5, rdc1_cells, rec18 hd]
          rw [← e1]
          simp only [↓eD0, ↓eD1, eC0, eC1, eC2, eC3, eC4, eC5, eC6, wantedE, ↓reduceIte, Nat.reduceEqDiff, Option.map_some, Option.map_none, reread, List.nil_append, List.cons_append, List.map_cons, List.map_nil, List.length_nil, List.length_cons, Value.cells, List.getElem?_cons_zero, List.getElem?_cons_succ, outE, lks, lkR, rdV, neg1, evs, opt, Nat.reduceAdd, Nat.reduceMul, and_self, reduceCtorEq, List.size_toArray, List.all_cons, List.all_nil, Value.oneCell', List.set_cons_zero, List.set_cons_succ, sets, fillL, Nat.reduceLeDiff, List.drop_succ_cons, List.drop_zero, List.take_succ_cons, List.take_zero, List.toList_toArray, argsE, Array.append_empty, Array.empty_append, List.getElem?_toArray, Int.reduceLT, Int.reduceLE, Int.reduceToNat, Int.reduceEq, Nat.reduceLT, t2, t5]
          refine onI_dec (fun hlt => ?_) (fun hge => ?_)
          · have hlt : i < L.S.length := by simpa using hlt
            have hx : (L.S.map seaV)[i]? = some (seaV L.S[i]) := by simp [hlt]
            obtain ⟨c2, off2, rfl, h1⟩ := hw.at hx
            have hr : ∀ l, rdN (ap τ l) ⟨c2, off2 + i * 33, none⟩ 33 = some (seaV L.S[i]) := fun l => rdN_Old (hM.ap.old) h1
            have hr1 : ∀ l, rd1 (ap τ l) ⟨c2, off2 + i * 33, none⟩ = some (.int .i64 L.S[i].end_) := fun l => rd1_row (hr l) (j := 0) rfl
            have hb : (0:Int) ≤ (i:Int) ∧ (i:Int) < (L.S.length : Int) := by omega
            have hlS := h.fewS
            have hw' : IntKind.wrap .i64 ((i:Int) + 1) = ((i + 1 : Nat) : Int) := by rw [wrap64 (by omega) (by omega)]; omega
            have ht := filt_take (p := fun _ s => decide (s.end_ ≤ (k : Int))) hlt
            have hsl := seaV_len (h.ok L.S[i] (by simp))
            have hso := seaV_one (s := L.S[i])
            have hsf : ∀ z : List Value, z.length = 33 → sets z 0 (seaV L.S[i]) = seaV L.S[i] := fun z hz => by
              rw [sets_all (by omega)]; simp [hsl, hz]
            have hst : (seaV L.S[i]).take 33 = seaV L.S[i] := List.take_of_length_le (by omega)
            have hne : seaV L.S[i] ≠ [] := by simp [seaV]
            by_cases hik : L.S[i].end_ ≤ (k:Int)
            · have hdec : decide (L.S[i].end_ ≤ (k:Int)) = true := by simpa using hik
              simp only [↓eD0, ↓eD1, eC0, eC1, eC2, eC3, eC4, eC5, eC6, wantedE, ↓reduceIte, Nat.reduceEqDiff, Option.map_some, Option.map_none, reread, List.nil_append, List.cons_append, List.map_cons, List.map_nil, List.length_nil, List.length_cons, Value.cells, List.getElem?_cons_zero, List.getElem?_cons_succ, outE, lks, lkR, rdV, neg1, evs, opt, Nat.reduceAdd, Nat.reduceMul, and_self, reduceCtorEq, List.size_toArray, List.all_cons, List.all_nil, Value.oneCell', List.set_cons_zero, List.set_cons_succ, sets, fillL, Nat.reduceLeDiff, List.drop_succ_cons, List.drop_zero, List.take_succ_cons, List.take_zero, List.toList_toArray, argsE, Array.append_empty, Array.empty_append, List.getElem?_toArray, Int.reduceLT, Int.reduceLE, Int.reduceToNat, Int.reduceEq, Nat.reduceLT, t2, t5, hdec, hb, Int.toNat_natCast, hr, hr1, hsl, hso, hsf, hst, hne]
              have hl : (filt (fun _ s => decide (s.end_ ≤ (k : Int))) (L.S.take i)).length ≤ i := Nat.le_trans filt_len (by simp; omega)
              obtain ⟨v', τ', ha, hA⟩ := append_grown (σ := ap τ [.cells 0 (seaV L.S[i]) (0, 0)]) (xa := .slice (some ⟨τ.size, 0, none⟩) 1 1) (bytes := 40) (m := 1) (new := seaV L.S[i]) (hg.old .ap) (by omega) (by rw [sized_size, ap_size]; omega) (by
                show (rdN (ap τ _) ⟨τ.size, 0, none⟩ (1 * 33)).map (1, ·) = _
                simp only [rdN_ap0, List.getElem?_cons_zero, rdcN_cells, hsl]
                simp [hst]) hsl hso (by omega) (by omega)
              refine onV_of ha ?_
              have hM' := (hM.ap (L := [.cells 0 (seaV L.S[i]) (0, 0)])).app hA (hg.old .ap) hM0
              obtain ⟨a', c', rfl⟩ := hA.grown.slice
              obtain ⟨ver', h5'⟩ := hM'.h5
              simp only [↓eD0, ↓eD1, eC0, eC1, eC2, eC3, eC4, eC5, eC6, wantedE, ↓reduceIte, Nat.reduceEqDiff, Option.map_some, Option.map_none, reread, List.nil_append, List.cons_append, List.map_cons, List.map_nil, List.length_nil, List.length_cons, Value.cells, List.getElem?_cons_zero, List.getElem?_cons_succ, outE, lks, lkR, rdV, neg1, evs, opt, Nat.reduceAdd, Nat.reduceMul, and_self, reduceCtorEq, List.size_toArray, List.all_cons, List.all_nil, Value.oneCell', List.set_cons_zero, List.set_cons_succ, sets, fillL, Nat.reduceLeDiff, List.drop_succ_cons, List.drop_zero, List.take_succ_cons, List.take_zero, List.toList_toArray, argsE, Array.append_empty, Array.empty_append, List.getElem?_toArray, Int.reduceLT, Int.reduceLE, Int.reduceToNat, Int.reduceEq, Nat.reduceLT, wrN_eq, h5', rec_len hd, rec_s18 hd, hw']
              have g := hA.grown.set (b := σ.size + 2) (k := .cells (ver' + 1) (recC L.d L.c v (.slice a' ((filt (fun _ s => decide (s.end_ ≤ (k : Int))) (L.S.take i)).length + 1) c')) (0, 0)) (by rw [sized_size]; omega)
              have g2 : Grown (sized (σ.size + 3)) τ' 5 v ((filt (fun j (_ : Ent) => !decide ((j : Int) = k)) L.E).map entV).flatten (filt (fun j (_ : Ent) => !decide ((j : Int) = k)) L.E).length :=
                (hgv.old (Old.ap (l := [.cells 0 (seaV L.S[i]) (0, 0)]))).keep fun c q hc hq => hA.low (hg.old .ap) (by rw [sized_size]; exact hbase c hc) hq
              have g3 := g2.set (b := σ.size + 2) (k := .cells (ver' + 1) (recC L.d L.c v (.slice a' ((filt (fun _ s => decide (s.end_ ≤ (k : Int))) (L.S.take i)).length + 1) c')) (0, 0)) (by rw [sized_size]; omega)
              have g4 := hA.size
              rw [ht, if_pos hdec, List.map_append, List.flatten_append, List.length_append]
              have g5 : N ≤ (τ'.setIfInBounds (σ.size + 2) (.cells (ver' + 1) (recC L.d L.c v (.slice a' ((filt (fun _ s => decide (s.end_ ≤ (k : Int))) (L.S.take i)).length + 1) c')) (0, 0))).size := by
                rw [ap_size] at g4; simp only [Array.size_setIfInBounds]; omega
              refine ⟨hlt, by omega, _, hM'.set, ?_⟩
              first
              | exact ⟨rfl, g5, g3, by simpa using g⟩
              | exact ⟨g5, g3, by simpa using g⟩
            · have hdec : decide (L.S[i].end_ ≤ (k:Int)) = false := by simpa using hik
              simp only [↓eD0, ↓eD1, eC0, eC1, eC2, eC3, eC4, eC5, eC6, wantedE, ↓reduceIte, Nat.reduceEqDiff, Option.map_some, Option.map_none, reread, List.nil_append, List.cons_append, List.map_cons, List.map_nil, List.length_nil, List.length_cons, Value.cells, List.getElem?_cons_zero, List.getElem?_cons_succ, outE, lks, lkR, rdV, neg1, evs, opt, Nat.reduceAdd, Nat.reduceMul, and_self, reduceCtorEq, List.size_toArray, List.all_cons, List.all_nil, Value.oneCell', List.set_cons_zero, List.set_cons_succ, sets, fillL, Nat.reduceLeDiff, List.drop_succ_cons, List.drop_zero, List.take_succ_cons, List.take_zero, List.toList_toArray, argsE, Array.append_empty, Array.empty_append, List.getElem?_toArray, Int.reduceLT, Int.reduceLE, Int.reduceToNat, Int.reduceEq, Nat.reduceLT, t2, t5, hdec, hb, Int.toNat_natCast, hr1, hw']
              rw [ht, if_neg (by simp [hdec]), List.append_nil]
              have g5 : N ≤ (ap τ []).size := by rw [ap_size]; omega
              refine ⟨hlt, by omega, _, hM.ap, ?_⟩
              first
              | exact ⟨rfl, g5, hgv.old .ap, hg.old .ap⟩
              | exact ⟨g5, hgv.old .ap, hg.old .ap⟩
          · have : i = L.S.length := by omega
            subst this
            have h2' := (hM.ap (L := [])).h4
            obtain ⟨_, h5'⟩ := (hM.ap (L := [])).h5
            rw [List.take_length] at hg
            have ow := hg.one
            have hz : (rd0 : List Value).length = 20 := rfl
            have hal : (recC L.d L.c v w' ++ [Value.int .i64 0]).all Value.oneCell' = true := by rw [List.all_append, rec_oneV ov ow]; rfl
            have hl20 : (recC L.d L.c v w' ++ [Value.int .i64 0]).length = 20 := by simp [rec_len hd]
            have hs20 : sets rd0 0 (recC L.d L.c v w' ++ [Value.int .i64 0]) = recC L.d L.c v w' ++ [Value.int .i64 0] := by
              rw [sets_all (by simp [hl20, hz]), hl20]; simp [rd0]
            have ht20 : (recC L.d L.c v w' ++ [Value.int .i64 0]).take 20 = recC L.d L.c v w' ++ [Value.int .i64 0] := List.take_of_length_le (by omega)
            have gb : ∀ k, ((ap τ []).setIfInBounds (σ.size + 1) k)[σ.size + 1]? = some k := fun k => get_set h2'
            simp only [↓eD0, ↓eD1, eC0, eC1, eC2, eC3, eC4, eC5, eC6, wantedE, ↓reduceIte, Nat.reduceEqDiff, Option.map_some, Option.map_none, reread, List.nil_append, List.cons_append, List.map_cons, List.map_nil, List.length_nil, List.length_cons, Value.cells, List.getElem?_cons_zero, List.getElem?_cons_succ, outE, lks, lkR, rdV, neg1, evs, opt, Nat.reduceAdd, Nat.reduceMul, and_self, reduceCtorEq, List.size_toArray, List.all_cons, List.all_nil, Value.oneCell', List.set_cons_zero, List.set_cons_succ, sets, fillL, Nat.reduceLeDiff, List.drop_succ_cons, List.drop_zero, List.take_succ_cons, List.take_zero, List.toList_toArray, argsE, Array.append_empty, Array.empty_append, List.getElem?_toArray, Int.reduceLT, Int.reduceLE, Int.reduceToNat, Int.reduceEq, Nat.reduceLT, rd1_eq, wrN_eq, rdN_eq, h2', h5', rec_len hd, rec_take hd, rec_sets20 hd, hal, hl20, hs20, hz, rec_ne1, gb, ht20]
            refine ⟨hM.ap.old.set (by omega), recC L.d L.c v w', by rw [hdr], ?_⟩
            rw [hdr]
            have fE : (filt (fun j (_ : Ent) => !decide ((j : Int) = k)) L.E).length ≤ L.E.length := filt_len
            have fS : (filt (fun _ (s : Sea) => decide (s.end_ ≤ (k : Int))) L.S).length ≤ L.S.length := filt_len
            have := h.fewE
            have := h.fewS
            have hok := filt_ok (p := fun _ s => decide (s.end_ ≤ (k : Int))) h.ok
            refine IsLg.mk' hd ?_ ?_ hok (by omega) (by omega) hgv.cap
            · have g1 := (hgv.old (Old.ap (l := []))).set (b := σ.size + 1) (k := .cells 1 (recC L.d L.c v w' ++ [Value.int .i64 0]) (0, 0)) (by rw [sized_size]; omega)
              refine Grown.Row (by simpa using g1) ?_
              intro r hr
              obtain ⟨e, _, rfl⟩ := List.mem_map.1 hr
              rfl
            · have g1 := (hg.old (Old.ap (l := []))).set (b := σ.size + 1) (k := .cells 1 (recC L.d L.c v w' ++ [Value.int .i64 0]) (0, 0)) (by rw [sized_size]; omega)
              refine Grown.Row (by simpa using g1) ?_
              intro r hr
              obtain ⟨e, he, rfl⟩ := List.mem_map.1 hr
              exact seaV_len (hok e he)
end Go.Proofs.YtljmjkpmkpchoaaDoor
