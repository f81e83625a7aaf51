/- Walks of the functions that the claim reaches. Conditions: none. -/
import Derived.Test.YtljmjkpmkpchoaaDoorWh
set_option linter.all false
set_option linter.unusedSimpArgs false
set_option maxRecDepth 10000
set_option maxHeartbeats 400000
namespace Go.Proofs.YtljmjkpmkpchoaaDoor
open Go Go.Cn Go.RowKit

theorem sized_of {l : List Int} (h : (ofL l).2.all (fun e => decide (e.kind = 1 → 1 ≤ e.n ∧ e.n ≤ 1099511627776)) = true) : Sized (logOf l).E := by
  intro e he
  have := List.all_eq_true.1 h e he
  intro hk
  have h2 := of_decide_eq_true this
  exact h2 hk
theorem i64_lit {τ : H} {j n : Nat} {L : List Blk} {l : List Int} (h : L[j]? = some (.cells 0 (i64C l) (0, 0))) (hn : l.length = n) (hb : n < big) : Whl (ap τ L) 1 (.slice (some ⟨τ.size + j, 0, none⟩) n n) n (i64C l) :=
  whl_lit (ver := 0) (by rw [ap_new]; exact h) (by simp [i64C, hn]) hb
theorem row_set_ne {σ : H} {s b : Nat} {k : Blk} {v : Value} {xs : List (List Value)} (h : Row σ s v xs) (hb : ∀ c, baseOf v = some c → c ≠ b) : Row (σ.setIfInBounds b k) s v xs := by
  obtain ⟨base, cap, rfl, h2⟩ := h
  refine ⟨base, cap, rfl, fun i x hx => ?_⟩
  obtain ⟨b', off, rfl, h4⟩ := h2 i x hx
  exact ⟨b', off, rfl, by rw [rdN_set_ne]; exact h4; exact (hb b' rfl).symm⟩
theorem w9' {o : Option H} {h : H} (e : o = some h) : o.map (fun σ' => (undef, σ')) = some (undef, h) := by rw [e]; rfl
theorem w9 {τ : H} {b v : Nat} {x : List Value} (h : τ[b]? = some (.cells v zeroO (0, 0))) (hx : x.length = 9) (ho : x.all Value.oneCell' = true) : wrN τ ⟨b, 0, none⟩ x = some (τ.setIfInBounds b (.cells (v + 1) x (0, 0))) := by
  rw [wrN_eq, if_neg (by intro h; rw [h] at hx; simp at hx), h, wrc_cells, if_pos ⟨by simp [zeroO, hx], ho⟩, sets_all (by simp [zeroO, hx])]
  simp [zeroO, hx]


theorem sanity_app {σ : H} : App Tryd.prog (.func 9) #[] #[] σ fun v σ' => σ' = σ ∧ v = .bool true := by
  refine App.forget (App.of_sem mixed Tryd.func9 t9 k9 r9 (Nat.le_of_ble_eq_true rfl) ?_)
  unfold s9
  have e0 : ap σ [] = σ := ap_nil
  have rep4 : List.replicate 4 (Value.int .i64 0) = [.int .i64 0, .int .i64 0, .int .i64 0, .int .i64 0] := rfl
  have rep5 : List.replicate 5 (Value.int .i64 0) = [.int .i64 0, .int .i64 0, .int .i64 0, .int .i64 0, .int .i64 0] := rfl
  rw [← e0]
  simp only [↓eD0, ↓eD1, eC0, eC1, eC2, eC3, eC4, eC5, eC6, wantedE, ↓reduceIte, Nat.reduceEqDiff, Option.map_some, Option.map_none, reread, List.nil_append, List.cons_append, List.map_cons, List.map_nil, List.length_nil, List.length_cons, Value.cells, List.getElem?_cons_zero, List.getElem?_cons_succ, outE, lks, lkR, rdV, neg1, evs, opt, Nat.reduceAdd, Nat.reduceMul, and_self, reduceCtorEq, List.size_toArray, List.all_cons, List.all_nil, Value.oneCell', List.set_cons_zero, List.set_cons_succ, sets, fillL, Nat.reduceLeDiff, List.drop_succ_cons, List.drop_zero, List.take_succ_cons, List.take_zero, List.toList_toArray, argsE, Array.append_empty, Array.empty_append, List.getElem?_toArray, Int.reduceLT, Int.reduceLE, Int.reduceToNat, Int.reduceEq, Nat.reduceLT]
  refine appK_of (of_ints_app (l := [10, -120, 5]) (i64_lit (τ := σ) (j := 0) (L := [_]) rfl rfl (by decide)) (by decide)) ?_
  rintro _ τ ⟨ho, la, rfl, hA, _⟩
  obtain ⟨a1, b1, a2, b2, rfl, hv, hw, hcap⟩ := hA.recs
  have hd := hA.log.d16
  have e1 : ap τ [] = τ := ap_nil
  have hAs : Sized (logOf [10, -120, 5]).E := sized_of rfl
  rw [← e1]
  simp only [↓eD0, ↓eD1, eC0, eC1, eC2, eC3, eC4, eC5, eC6, wantedE, ↓reduceIte, Nat.reduceEqDiff, Option.map_some, Option.map_none, reread, List.nil_append, List.cons_append, List.map_cons, List.map_nil, List.length_nil, List.length_cons, Value.cells, List.getElem?_cons_zero, List.getElem?_cons_succ, outE, lks, lkR, rdV, neg1, evs, opt, Nat.reduceAdd, Nat.reduceMul, and_self, reduceCtorEq, List.size_toArray, List.all_cons, List.all_nil, Value.oneCell', List.set_cons_zero, List.set_cons_succ, sets, fillL, Nat.reduceLeDiff, List.drop_succ_cons, List.drop_zero, List.take_succ_cons, List.take_zero, List.toList_toArray, argsE, Array.append_empty, Array.empty_append, List.getElem?_toArray, Int.reduceLT, Int.reduceLE, Int.reduceToNat, Int.reduceEq, Nat.reduceLT, rec_len hd, rec_take hd, rec_sets hd, rec_one, rec_ne]
  have hτ : Old σ τ := Old.ap.trans ho
  have hA0 : IsLg (ap τ [.cells 1 (recC (logOf [10, -120, 5]).d (logOf [10, -120, 5]).c (.slice a1 (logOf [10, -120, 5]).E.length b1) (.slice a2 (logOf [10, -120, 5]).S.length b2)) (0, 0)]) _ _ := hA.Old .ap
  have hb1 : (ap τ [.cells 1 (recC (logOf [10, -120, 5]).d (logOf [10, -120, 5]).c (.slice a1 (logOf [10, -120, 5]).E.length b1) (.slice a2 (logOf [10, -120, 5]).S.length b2)) (0, 0)])[τ.size]? = some _ := ap_new0
  have ho1 : Old σ (ap τ [.cells 1 (recC (logOf [10, -120, 5]).d (logOf [10, -120, 5]).c (.slice a1 (logOf [10, -120, 5]).E.length b1) (.slice a2 (logOf [10, -120, 5]).S.length b2)) (0, 0)]) := hτ.trans .ap
  generalize hrA : recC (logOf [10, -120, 5]).d (logOf [10, -120, 5]).c (.slice a1 (logOf [10, -120, 5]).E.length b1) (.slice a2 (logOf [10, -120, 5]).S.length b2) = rA at *
  generalize hT : ap τ [.cells 1 rA (0, 0)] = τ1 at *
  have hAl : rA.length = 19 := hA.log.len
  have hAt : rA.take 19 = rA := List.take_of_length_le (by omega)

  have e1 : ap τ1 [] = τ1 := ap_nil
  have hlt : τ.size < τ1.size := (Array.getElem?_eq_some_iff.1 hb1).1
  have rdA : ∀ L, rdN (ap τ1 L) ⟨τ.size, 0, none⟩ 19 = some rA := fun L => rdN_all ((ap_old hlt).trans hb1) hAl
  rw [← e1]
  simp only [↓eD0, ↓eD1, eC0, eC1, eC2, eC3, eC4, eC5, eC6, wantedE, ↓reduceIte, Nat.reduceEqDiff, Option.map_some, Option.map_none, reread, List.nil_append, List.cons_append, List.map_cons, List.map_nil, List.length_nil, List.length_cons, Value.cells, List.getElem?_cons_zero, List.getElem?_cons_succ, outE, lks, lkR, rdV, neg1, evs, opt, Nat.reduceAdd, Nat.reduceMul, and_self, reduceCtorEq, List.size_toArray, List.all_cons, List.all_nil, Value.oneCell', List.set_cons_zero, List.set_cons_succ, sets, fillL, Nat.reduceLeDiff, List.drop_succ_cons, List.drop_zero, List.take_succ_cons, List.take_zero, List.toList_toArray, argsE, Array.append_empty, Array.empty_append, List.getElem?_toArray, Int.reduceLT, Int.reduceLE, Int.reduceToNat, Int.reduceEq, Nat.reduceLT, rep4, rep5, rdA]
  refine appK_of (of_ints_app (l := [4, 6, -120, 20]) (i64_lit (τ := τ1) (j := 0) (L := [_, _]) rfl rfl (by decide)) (by decide)) ?_
  rintro _ τ' ⟨ho', lc, rfl, hL, _⟩
  have hbx : τ'[τ.size]? = some _ := (ho'.2 _ (by rw [ap_size]; omega)).trans ((ap_old hlt).trans hb1)
  have rdx : rdN τ' ⟨τ.size, 0, none⟩ 19 = some rA := rdN_all hbx hAl
  have hz : τ'[τ1.size + 1]? = some (.cells 0 zeroO (0, 0)) := (ho'.2 _ (by simp [ap_size])).trans ap_new
  simp only [↓eD0, ↓eD1, eC0, eC1, eC2, eC3, eC4, eC5, eC6, wantedE, ↓reduceIte, Nat.reduceEqDiff, Option.map_some, Option.map_none, reread, List.nil_append, List.cons_append, List.map_cons, List.map_nil, List.length_nil, List.length_cons, Value.cells, List.getElem?_cons_zero, List.getElem?_cons_succ, outE, lks, lkR, rdV, neg1, evs, opt, Nat.reduceAdd, Nat.reduceMul, and_self, reduceCtorEq, List.size_toArray, List.all_cons, List.all_nil, Value.oneCell', List.set_cons_zero, List.set_cons_succ, sets, fillL, Nat.reduceLeDiff, List.drop_succ_cons, List.drop_zero, List.take_succ_cons, List.take_zero, List.toList_toArray, argsE, Array.append_empty, Array.empty_append, List.getElem?_toArray, Int.reduceLT, Int.reduceLE, Int.reduceToNat, Int.reduceEq, Nat.reduceLT, rdx]
  refine appK_of (merge_app (hA0.Old (Old.ap.trans ho')).log hL.log hAs (sized_of (by kernel_rfl))) ?_
  rintro _ _ ⟨e2, rfl⟩
  rw [e2, show contV (contR (logOf [10, -120, 5]).d (logOf [10, -120, 5]).c (logOf [10, -120, 5]).E (logOf [4, 6, -120, 20]).d (logOf [4, 6, -120, 20]).c (logOf [4, 6, -120, 20]).E) = .tuple #[.agg #[.int .i64 0, .int .i64 0, .int .i64 0, .int .i64 0, .int .i64 0, .int .i64 0, .int .i64 0, .string ⟨#[]⟩, .bool false], .bool true] by kernel_rfl]
  clear e2
  simp only [↓eD0, ↓eD1, eC0, eC1, eC2, eC3, eC4, eC5, eC6, wantedE, ↓reduceIte, Nat.reduceEqDiff, Option.map_some, Option.map_none, reread, List.nil_append, List.cons_append, List.map_cons, List.map_nil, List.length_nil, List.length_cons, Value.cells, List.getElem?_cons_zero, List.getElem?_cons_succ, outE, lks, lkR, rdV, neg1, evs, opt, Nat.reduceAdd, Nat.reduceMul, and_self, reduceCtorEq, List.size_toArray, List.all_cons, List.all_nil, Value.oneCell', List.set_cons_zero, List.set_cons_succ, sets, fillL, Nat.reduceLeDiff, List.drop_succ_cons, List.drop_zero, List.take_succ_cons, List.take_zero, List.toList_toArray, argsE, Array.append_empty, Array.empty_append, List.getElem?_toArray, Int.reduceLT, Int.reduceLE, Int.reduceToNat, Int.reduceEq, Nat.reduceLT]
  refine onV_of (w9' (w9 hz rfl rfl)) ?_
  have hold1 : Old τ1 (τ'.setIfInBounds (τ1.size + 1) (.cells (0 + 1) [.int .i64 0, .int .i64 0, .int .i64 0, .int .i64 0, .int .i64 0, .int .i64 0, .int .i64 0, .string ⟨#[]⟩, .bool false] (0, 0))) := (Old.ap.trans ho').set (by omega)
  have hob1 : (τ'.setIfInBounds (τ1.size + 1) (.cells (0 + 1) [.int .i64 0, .int .i64 0, .int .i64 0, .int .i64 0, .int .i64 0, .int .i64 0, .int .i64 0, .string ⟨#[]⟩, .bool false] (0, 0)))[τ1.size + 1]? = some _ := get_set hz
  generalize hT2 : τ'.setIfInBounds (τ1.size + 1) (.cells (0 + 1) [.int .i64 0, .int .i64 0, .int .i64 0, .int .i64 0, .int .i64 0, .int .i64 0, .int .i64 0, .string ⟨#[]⟩, .bool false] (0, 0)) = τ2 at hold1 hob1 ⊢
  have hA1 := hA0.Old hold1
  have hb2 := (hold1.2 _ hlt).trans hb1
  have ho2 := ho1.trans hold1
  clear e1 hlt rdA ho' hbx rdx hz hL hT2

  have e1 : ap τ2 [] = τ2 := ap_nil
  have hlt : τ.size < τ2.size := (Array.getElem?_eq_some_iff.1 hb2).1
  have rdA : ∀ L, rdN (ap τ2 L) ⟨τ.size, 0, none⟩ 19 = some rA := fun L => rdN_all ((ap_old hlt).trans hb2) hAl
  rw [← e1]
  simp only [↓eD0, ↓eD1, eC0, eC1, eC2, eC3, eC4, eC5, eC6, wantedE, ↓reduceIte, Nat.reduceEqDiff, Option.map_some, Option.map_none, reread, List.nil_append, List.cons_append, List.map_cons, List.map_nil, List.length_nil, List.length_cons, Value.cells, List.getElem?_cons_zero, List.getElem?_cons_succ, outE, lks, lkR, rdV, neg1, evs, opt, Nat.reduceAdd, Nat.reduceMul, and_self, reduceCtorEq, List.size_toArray, List.all_cons, List.all_nil, Value.oneCell', List.set_cons_zero, List.set_cons_succ, sets, fillL, Nat.reduceLeDiff, List.drop_succ_cons, List.drop_zero, List.take_succ_cons, List.take_zero, List.toList_toArray, argsE, Array.append_empty, Array.empty_append, List.getElem?_toArray, Int.reduceLT, Int.reduceLE, Int.reduceToNat, Int.reduceEq, Nat.reduceLT, rep4, rep5, rdA]
  refine appK_of (of_ints_app (l := [10, -120, 3]) (i64_lit (τ := τ2) (j := 0) (L := [_, _]) rfl rfl (by decide)) (by decide)) ?_
  rintro _ τ' ⟨ho', lc, rfl, hL, _⟩
  have hbx : τ'[τ.size]? = some _ := (ho'.2 _ (by rw [ap_size]; omega)).trans ((ap_old hlt).trans hb2)
  have rdx : rdN τ' ⟨τ.size, 0, none⟩ 19 = some rA := rdN_all hbx hAl
  have hz : τ'[τ2.size + 1]? = some (.cells 0 zeroO (0, 0)) := (ho'.2 _ (by simp [ap_size])).trans ap_new
  simp only [↓eD0, ↓eD1, eC0, eC1, eC2, eC3, eC4, eC5, eC6, wantedE, ↓reduceIte, Nat.reduceEqDiff, Option.map_some, Option.map_none, reread, List.nil_append, List.cons_append, List.map_cons, List.map_nil, List.length_nil, List.length_cons, Value.cells, List.getElem?_cons_zero, List.getElem?_cons_succ, outE, lks, lkR, rdV, neg1, evs, opt, Nat.reduceAdd, Nat.reduceMul, and_self, reduceCtorEq, List.size_toArray, List.all_cons, List.all_nil, Value.oneCell', List.set_cons_zero, List.set_cons_succ, sets, fillL, Nat.reduceLeDiff, List.drop_succ_cons, List.drop_zero, List.take_succ_cons, List.take_zero, List.toList_toArray, argsE, Array.append_empty, Array.empty_append, List.getElem?_toArray, Int.reduceLT, Int.reduceLE, Int.reduceToNat, Int.reduceEq, Nat.reduceLT, rdx]
  refine appK_of (merge_app (hA1.Old (Old.ap.trans ho')).log hL.log hAs (sized_of (by kernel_rfl))) ?_
  rintro _ _ ⟨e2, rfl⟩
  rw [e2, show contV (contR (logOf [10, -120, 5]).d (logOf [10, -120, 5]).c (logOf [10, -120, 5]).E (logOf [10, -120, 3]).d (logOf [10, -120, 3]).c (logOf [10, -120, 3]).E) = .tuple #[.agg #[.int .i64 0, .int .i64 2, .int .i64 3, .int .i64 1, .int .i64 0, .int .i64 10, .int .i64 5, .string ⟨#[]⟩, .bool false], .bool false] by kernel_rfl]
  clear e2
  simp only [↓eD0, ↓eD1, eC0, eC1, eC2, eC3, eC4, eC5, eC6, wantedE, ↓reduceIte, Nat.reduceEqDiff, Option.map_some, Option.map_none, reread, List.nil_append, List.cons_append, List.map_cons, List.map_nil, List.length_nil, List.length_cons, Value.cells, List.getElem?_cons_zero, List.getElem?_cons_succ, outE, lks, lkR, rdV, neg1, evs, opt, Nat.reduceAdd, Nat.reduceMul, and_self, reduceCtorEq, List.size_toArray, List.all_cons, List.all_nil, Value.oneCell', List.set_cons_zero, List.set_cons_succ, sets, fillL, Nat.reduceLeDiff, List.drop_succ_cons, List.drop_zero, List.take_succ_cons, List.take_zero, List.toList_toArray, argsE, Array.append_empty, Array.empty_append, List.getElem?_toArray, Int.reduceLT, Int.reduceLE, Int.reduceToNat, Int.reduceEq, Nat.reduceLT]
  refine onV_of (w9' (w9 hz rfl rfl)) ?_
  have hold2 : Old τ2 (τ'.setIfInBounds (τ2.size + 1) (.cells (0 + 1) [.int .i64 0, .int .i64 2, .int .i64 3, .int .i64 1, .int .i64 0, .int .i64 10, .int .i64 5, .string ⟨#[]⟩, .bool false] (0, 0))) := (Old.ap.trans ho').set (by omega)
  have hob2 : (τ'.setIfInBounds (τ2.size + 1) (.cells (0 + 1) [.int .i64 0, .int .i64 2, .int .i64 3, .int .i64 1, .int .i64 0, .int .i64 10, .int .i64 5, .string ⟨#[]⟩, .bool false] (0, 0)))[τ2.size + 1]? = some _ := get_set hz
  generalize hT3 : τ'.setIfInBounds (τ2.size + 1) (.cells (0 + 1) [.int .i64 0, .int .i64 2, .int .i64 3, .int .i64 1, .int .i64 0, .int .i64 10, .int .i64 5, .string ⟨#[]⟩, .bool false] (0, 0)) = τ3 at hold2 hob2 ⊢
  have hA2 := hA1.Old hold2
  have hb3 := (hold2.2 _ hlt).trans hb2
  have ho3 := ho2.trans hold2
  clear e1 hlt rdA ho' hbx rdx hz hL hT3

  have e1 : ap τ3 [] = τ3 := ap_nil
  have hlt : τ.size < τ3.size := (Array.getElem?_eq_some_iff.1 hb3).1
  have rdA : ∀ L, rdN (ap τ3 L) ⟨τ.size, 0, none⟩ 19 = some rA := fun L => rdN_all ((ap_old hlt).trans hb3) hAl
  rw [← e1]
  simp only [↓eD0, ↓eD1, eC0, eC1, eC2, eC3, eC4, eC5, eC6, wantedE, ↓reduceIte, Nat.reduceEqDiff, Option.map_some, Option.map_none, reread, List.nil_append, List.cons_append, List.map_cons, List.map_nil, List.length_nil, List.length_cons, Value.cells, List.getElem?_cons_zero, List.getElem?_cons_succ, outE, lks, lkR, rdV, neg1, evs, opt, Nat.reduceAdd, Nat.reduceMul, and_self, reduceCtorEq, List.size_toArray, List.all_cons, List.all_nil, Value.oneCell', List.set_cons_zero, List.set_cons_succ, sets, fillL, Nat.reduceLeDiff, List.drop_succ_cons, List.drop_zero, List.take_succ_cons, List.take_zero, List.toList_toArray, argsE, Array.append_empty, Array.empty_append, List.getElem?_toArray, Int.reduceLT, Int.reduceLE, Int.reduceToNat, Int.reduceEq, Nat.reduceLT, rep4, rep5, rdA]
  refine appK_of (of_ints_app (l := [20]) (i64_lit (τ := τ3) (j := 0) (L := [_, _]) rfl rfl (by decide)) (by decide)) ?_
  rintro _ τ' ⟨ho', lc, rfl, hL, _⟩
  have hbx : τ'[τ.size]? = some _ := (ho'.2 _ (by rw [ap_size]; omega)).trans ((ap_old hlt).trans hb3)
  have rdx : rdN τ' ⟨τ.size, 0, none⟩ 19 = some rA := rdN_all hbx hAl
  have hz : τ'[τ3.size + 1]? = some (.cells 0 zeroO (0, 0)) := (ho'.2 _ (by simp [ap_size])).trans ap_new
  simp only [↓eD0, ↓eD1, eC0, eC1, eC2, eC3, eC4, eC5, eC6, wantedE, ↓reduceIte, Nat.reduceEqDiff, Option.map_some, Option.map_none, reread, List.nil_append, List.cons_append, List.map_cons, List.map_nil, List.length_nil, List.length_cons, Value.cells, List.getElem?_cons_zero, List.getElem?_cons_succ, outE, lks, lkR, rdV, neg1, evs, opt, Nat.reduceAdd, Nat.reduceMul, and_self, reduceCtorEq, List.size_toArray, List.all_cons, List.all_nil, Value.oneCell', List.set_cons_zero, List.set_cons_succ, sets, fillL, Nat.reduceLeDiff, List.drop_succ_cons, List.drop_zero, List.take_succ_cons, List.take_zero, List.toList_toArray, argsE, Array.append_empty, Array.empty_append, List.getElem?_toArray, Int.reduceLT, Int.reduceLE, Int.reduceToNat, Int.reduceEq, Nat.reduceLT, rdx]
  refine appK_of (merge_app (hA2.Old (Old.ap.trans ho')).log hL.log hAs (sized_of (by kernel_rfl))) ?_
  rintro _ _ ⟨e2, rfl⟩
  rw [e2, show contV (contR (logOf [10, -120, 5]).d (logOf [10, -120, 5]).c (logOf [10, -120, 5]).E (logOf [20]).d (logOf [20]).c (logOf [20]).E) = .tuple #[.agg #[.int .i64 0, .int .i64 1, .int .i64 0, .int .i64 3, .int .i64 0, .int .i64 10, .int .i64 0, .string ⟨#[120]⟩, .bool false], .bool false] by kernel_rfl]
  clear e2
  simp only [↓eD0, ↓eD1, eC0, eC1, eC2, eC3, eC4, eC5, eC6, wantedE, ↓reduceIte, Nat.reduceEqDiff, Option.map_some, Option.map_none, reread, List.nil_append, List.cons_append, List.map_cons, List.map_nil, List.length_nil, List.length_cons, Value.cells, List.getElem?_cons_zero, List.getElem?_cons_succ, outE, lks, lkR, rdV, neg1, evs, opt, Nat.reduceAdd, Nat.reduceMul, and_self, reduceCtorEq, List.size_toArray, List.all_cons, List.all_nil, Value.oneCell', List.set_cons_zero, List.set_cons_succ, sets, fillL, Nat.reduceLeDiff, List.drop_succ_cons, List.drop_zero, List.take_succ_cons, List.take_zero, List.toList_toArray, argsE, Array.append_empty, Array.empty_append, List.getElem?_toArray, Int.reduceLT, Int.reduceLE, Int.reduceToNat, Int.reduceEq, Nat.reduceLT]
  refine onV_of (w9' (w9 hz rfl rfl)) ?_
  have hold3 : Old τ3 (τ'.setIfInBounds (τ3.size + 1) (.cells (0 + 1) [.int .i64 0, .int .i64 1, .int .i64 0, .int .i64 3, .int .i64 0, .int .i64 10, .int .i64 0, .string ⟨#[120]⟩, .bool false] (0, 0))) := (Old.ap.trans ho').set (by omega)
  have hob3 : (τ'.setIfInBounds (τ3.size + 1) (.cells (0 + 1) [.int .i64 0, .int .i64 1, .int .i64 0, .int .i64 3, .int .i64 0, .int .i64 10, .int .i64 0, .string ⟨#[120]⟩, .bool false] (0, 0)))[τ3.size + 1]? = some _ := get_set hz
  generalize hT4 : τ'.setIfInBounds (τ3.size + 1) (.cells (0 + 1) [.int .i64 0, .int .i64 1, .int .i64 0, .int .i64 3, .int .i64 0, .int .i64 10, .int .i64 0, .string ⟨#[120]⟩, .bool false] (0, 0)) = τ4 at hold3 hob3 ⊢
  have hA3 := hA2.Old hold3
  have hb4 := (hold3.2 _ hlt).trans hb3
  have ho4 := ho3.trans hold3
  clear e1 hlt rdA ho' hbx rdx hz hL hT4

  have e1 : ap τ4 [] = τ4 := ap_nil
  have hlt : τ.size < τ4.size := (Array.getElem?_eq_some_iff.1 hb4).1
  have rdA : ∀ L, rdN (ap τ4 L) ⟨τ.size, 0, none⟩ 19 = some rA := fun L => rdN_all ((ap_old hlt).trans hb4) hAl
  rw [← e1]
  simp only [↓eD0, ↓eD1, eC0, eC1, eC2, eC3, eC4, eC5, eC6, wantedE, ↓reduceIte, Nat.reduceEqDiff, Option.map_some, Option.map_none, reread, List.nil_append, List.cons_append, List.map_cons, List.map_nil, List.length_nil, List.length_cons, Value.cells, List.getElem?_cons_zero, List.getElem?_cons_succ, outE, lks, lkR, rdV, neg1, evs, opt, Nat.reduceAdd, Nat.reduceMul, and_self, reduceCtorEq, List.size_toArray, List.all_cons, List.all_nil, Value.oneCell', List.set_cons_zero, List.set_cons_succ, sets, fillL, Nat.reduceLeDiff, List.drop_succ_cons, List.drop_zero, List.take_succ_cons, List.take_zero, List.toList_toArray, argsE, Array.append_empty, Array.empty_append, List.getElem?_toArray, Int.reduceLT, Int.reduceLE, Int.reduceToNat, Int.reduceEq, Nat.reduceLT, rep4, rep5, rdA]
  refine appK_of (of_ints_app (l := [5, -121, 5, -120, 5]) (i64_lit (τ := τ4) (j := 0) (L := [_, _]) rfl rfl (by decide)) (by decide)) ?_
  rintro _ τ' ⟨ho', lc, rfl, hL, _⟩
  have hbx : τ'[τ.size]? = some _ := (ho'.2 _ (by rw [ap_size]; omega)).trans ((ap_old hlt).trans hb4)
  have rdx : rdN τ' ⟨τ.size, 0, none⟩ 19 = some rA := rdN_all hbx hAl
  have hz : τ'[τ4.size + 1]? = some (.cells 0 zeroO (0, 0)) := (ho'.2 _ (by simp [ap_size])).trans ap_new
  simp only [↓eD0, ↓eD1, eC0, eC1, eC2, eC3, eC4, eC5, eC6, wantedE, ↓reduceIte, Nat.reduceEqDiff, Option.map_some, Option.map_none, reread, List.nil_append, List.cons_append, List.map_cons, List.map_nil, List.length_nil, List.length_cons, Value.cells, List.getElem?_cons_zero, List.getElem?_cons_succ, outE, lks, lkR, rdV, neg1, evs, opt, Nat.reduceAdd, Nat.reduceMul, and_self, reduceCtorEq, List.size_toArray, List.all_cons, List.all_nil, Value.oneCell', List.set_cons_zero, List.set_cons_succ, sets, fillL, Nat.reduceLeDiff, List.drop_succ_cons, List.drop_zero, List.take_succ_cons, List.take_zero, List.toList_toArray, argsE, Array.append_empty, Array.empty_append, List.getElem?_toArray, Int.reduceLT, Int.reduceLE, Int.reduceToNat, Int.reduceEq, Nat.reduceLT, rdx]
  refine appK_of (merge_app (hA3.Old (Old.ap.trans ho')).log hL.log hAs (sized_of (by kernel_rfl))) ?_
  rintro _ _ ⟨e2, rfl⟩
  rw [e2, show contV (contR (logOf [10, -120, 5]).d (logOf [10, -120, 5]).c (logOf [10, -120, 5]).E (logOf [5, -121, 5, -120, 5]).d (logOf [5, -121, 5, -120, 5]).c (logOf [5, -121, 5, -120, 5]).E) = .tuple #[.agg #[.int .i64 0, .int .i64 0, .int .i64 1, .int .i64 3, .int .i64 0, .int .i64 5, .int .i64 0, .string ⟨#[121]⟩, .bool true], .bool false] by kernel_rfl]
  clear e2
  simp only [↓eD0, ↓eD1, eC0, eC1, eC2, eC3, eC4, eC5, eC6, wantedE, ↓reduceIte, Nat.reduceEqDiff, Option.map_some, Option.map_none, reread, List.nil_append, List.cons_append, List.map_cons, List.map_nil, List.length_nil, List.length_cons, Value.cells, List.getElem?_cons_zero, List.getElem?_cons_succ, outE, lks, lkR, rdV, neg1, evs, opt, Nat.reduceAdd, Nat.reduceMul, and_self, reduceCtorEq, List.size_toArray, List.all_cons, List.all_nil, Value.oneCell', List.set_cons_zero, List.set_cons_succ, sets, fillL, Nat.reduceLeDiff, List.drop_succ_cons, List.drop_zero, List.take_succ_cons, List.take_zero, List.toList_toArray, argsE, Array.append_empty, Array.empty_append, List.getElem?_toArray, Int.reduceLT, Int.reduceLE, Int.reduceToNat, Int.reduceEq, Nat.reduceLT]
  refine onV_of (w9' (w9 hz rfl rfl)) ?_
  have hold4 : Old τ4 (τ'.setIfInBounds (τ4.size + 1) (.cells (0 + 1) [.int .i64 0, .int .i64 0, .int .i64 1, .int .i64 3, .int .i64 0, .int .i64 5, .int .i64 0, .string ⟨#[121]⟩, .bool true] (0, 0))) := (Old.ap.trans ho').set (by omega)
  have hob4 : (τ'.setIfInBounds (τ4.size + 1) (.cells (0 + 1) [.int .i64 0, .int .i64 0, .int .i64 1, .int .i64 3, .int .i64 0, .int .i64 5, .int .i64 0, .string ⟨#[121]⟩, .bool true] (0, 0)))[τ4.size + 1]? = some _ := get_set hz
  generalize hT5 : τ'.setIfInBounds (τ4.size + 1) (.cells (0 + 1) [.int .i64 0, .int .i64 0, .int .i64 1, .int .i64 3, .int .i64 0, .int .i64 5, .int .i64 0, .string ⟨#[121]⟩, .bool true] (0, 0)) = τ5 at hold4 hob4 ⊢
  have hA4 := hA3.Old hold4
  have hb5 := (hold4.2 _ hlt).trans hb4
  have ho5 := ho4.trans hold4
  clear e1 hlt rdA ho' hbx rdx hz hL hT5

  have e1 : ap τ5 [] = τ5 := ap_nil
  have hlt : τ.size < τ5.size := (Array.getElem?_eq_some_iff.1 hb5).1
  have rdA : ∀ L, rdN (ap τ5 L) ⟨τ.size, 0, none⟩ 19 = some rA := fun L => rdN_all ((ap_old hlt).trans hb5) hAl
  have hs21 : sets [.int .u8 0, .int .u8 0, .int .u8 0, .int .u8 0, .int .u8 0, .int .u8 0, .int .u8 0, .int .u8 0, .int .u8 0, .int .u8 0, .int .u8 0, .int .u8 0, .int .u8 0, .int .u8 0, .int .u8 0, .int .u8 0, .int .i64 0, .slice none 0 0, .slice none 0 0, .int .i64 0, .int .i64 0] 0 rA = sideC (logOf [10, -120, 5]).d (logOf [10, -120, 5]).c (.slice a1 (logOf [10, -120, 5]).E.length b1) (.slice a2 (logOf [10, -120, 5]).S.length b2) 0 0 := by rw [← hrA]; exact rec_sets21 hd
  have hs20 : ∀ p, (sideC (logOf [10, -120, 5]).d (logOf [10, -120, 5]).c (.slice a1 (logOf [10, -120, 5]).E.length b1) (.slice a2 (logOf [10, -120, 5]).S.length b2) 0 0).set 20 (.int .i64 p) = sideC (logOf [10, -120, 5]).d (logOf [10, -120, 5]).c (.slice a1 (logOf [10, -120, 5]).E.length b1) (.slice a2 (logOf [10, -120, 5]).S.length b2) 0 p := fun p => by
    have hl := rec_len hd (c := (logOf [10, -120, 5]).c) (v := .slice a1 (logOf [10, -120, 5]).E.length b1) (w := .slice a2 (logOf [10, -120, 5]).S.length b2)
    simp [sideC, List.set_append, hl]
  have hsl : ∀ x p, (sideC (logOf [10, -120, 5]).d (logOf [10, -120, 5]).c (.slice a1 (logOf [10, -120, 5]).E.length b1) (.slice a2 (logOf [10, -120, 5]).S.length b2) x p).length = 21 := fun x p => side_len hd
  rw [← e1]
  simp only [↓eD0, ↓eD1, eC0, eC1, eC2, eC3, eC4, eC5, eC6, wantedE, ↓reduceIte, Nat.reduceEqDiff, Option.map_some, Option.map_none, reread, List.nil_append, List.cons_append, List.map_cons, List.map_nil, List.length_nil, List.length_cons, Value.cells, List.getElem?_cons_zero, List.getElem?_cons_succ, outE, lks, lkR, rdV, neg1, evs, opt, Nat.reduceAdd, Nat.reduceMul, and_self, reduceCtorEq, List.size_toArray, List.all_cons, List.all_nil, Value.oneCell', List.set_cons_zero, List.set_cons_succ, sets, fillL, Nat.reduceLeDiff, List.drop_succ_cons, List.drop_zero, List.take_succ_cons, List.take_zero, List.toList_toArray, argsE, Array.append_empty, Array.empty_append, List.getElem?_toArray, Int.reduceLT, Int.reduceLE, Int.reduceToNat, Int.reduceEq, Nat.reduceLT, rdA, hAl, hs21, hs20, hsl]
  refine appK_of (of_ints_app (l := [10, -120, 9]) (i64_lit (τ := τ5) (j := 0) (L := [_, _, _]) rfl rfl (by decide)) (by decide)) ?_
  rintro _ τ' ⟨ho', lc, rfl, hL, hfr⟩
  have fB1 : Sized (logOf [10, -120, 9]).E := sized_of (by kernel_rfl)
  have fB2 : contR (logOf [10, -120, 5]).d (logOf [10, -120, 5]).c (logOf [10, -120, 5]).E (logOf [10, -120, 9]).d (logOf [10, -120, 9]).c (logOf [10, -120, 9]).E = .goesOn := by kernel_rfl
  have len3 : (logOf [10, -120, 9]).E.length = 3 := by kernel_rfl
  have hx2 : ((logOf [10, -120, 9]).E.map entV)[2]? = some (entV ⟨1, 0, 10, 9, ⟨#[]⟩⟩) := by kernel_rfl
  generalize (logOf [10, -120, 9]) = B5 at hL fB1 fB2 len3 hx2
  obtain ⟨d1, c1, d2, c2, rfl, hLv, hLw, _⟩ := hL.recs
  have hd' := hL.log.d16
  have hbx : τ'[τ.size]? = some _ := (ho'.2 _ (by rw [ap_size]; omega)).trans ((ap_old hlt).trans hb5)
  have rdx : rdN τ' ⟨τ.size, 0, none⟩ 19 = some rA := rdN_all hbx hAl
  have hz10 : τ'[τ5.size + 1]? = some (.cells 0 zeroSd (0, 0)) := (ho'.2 _ (by simp [ap_size])).trans ap_new
  have hz11 : τ'[τ5.size + 2]? = some (.cells 0 zeroO (0, 0)) := (ho'.2 _ (by simp [ap_size])).trans ap_new
  have hs21' : sets [.int .u8 0, .int .u8 0, .int .u8 0, .int .u8 0, .int .u8 0, .int .u8 0, .int .u8 0, .int .u8 0, .int .u8 0, .int .u8 0, .int .u8 0, .int .u8 0, .int .u8 0, .int .u8 0, .int .u8 0, .int .u8 0, .int .i64 0, .slice none 0 0, .slice none 0 0, .int .i64 0, .int .i64 0] 0 (recC B5.d B5.c (.slice d1 B5.E.length c1) (.slice d2 B5.S.length c2)) = sideC B5.d B5.c (.slice d1 B5.E.length c1) (.slice d2 B5.S.length c2) 0 0 := rec_sets21 hd'
  have hrl := rec_len hd' (c := B5.c) (v := .slice d1 B5.E.length c1) (w := .slice d2 B5.S.length c2)
  simp only [↓eD0, ↓eD1, eC0, eC1, eC2, eC3, eC4, eC5, eC6, wantedE, ↓reduceIte, Nat.reduceEqDiff, Option.map_some, Option.map_none, reread, List.nil_append, List.cons_append, List.map_cons, List.map_nil, List.length_nil, List.length_cons, Value.cells, List.getElem?_cons_zero, List.getElem?_cons_succ, outE, lks, lkR, rdV, neg1, evs, opt, Nat.reduceAdd, Nat.reduceMul, and_self, reduceCtorEq, List.size_toArray, List.all_cons, List.all_nil, Value.oneCell', List.set_cons_zero, List.set_cons_succ, sets, fillL, Nat.reduceLeDiff, List.drop_succ_cons, List.drop_zero, List.take_succ_cons, List.take_zero, List.toList_toArray, argsE, Array.append_empty, Array.empty_append, List.getElem?_toArray, Int.reduceLT, Int.reduceLE, Int.reduceToNat, Int.reduceEq, Nat.reduceLT, rdx, hrl, hs21']
  have hAA := hA4.Old (Old.ap.trans ho')
  rw [← hrA] at hAA
  refine appK_of (merge2_ok (p := 2) (x := 0) hAA hL hd hd' rfl rfl rfl rfl hAs fB1 fB2) ?_
  rintro _ τ'' ⟨ho'', rfl⟩
  have hsl' := side_len hd' (c := B5.c) (v := .slice d1 B5.E.length c1) (w := .slice d2 B5.S.length c2) (x := 0) (p := 2)
  have hst' := side_take hd' (c := B5.c) (v := .slice d1 B5.E.length c1) (w := .slice d2 B5.S.length c2) (x := 0) (p := 2)
  have hz10' := (ho''.2 _ (Array.getElem?_eq_some_iff.1 hz10).1).trans hz10
  have hz11' := (ho''.2 _ (Array.getElem?_eq_some_iff.1 hz11).1).trans hz11
  have w21 : wrN τ'' ⟨τ5.size + 1, 0, none⟩ (sideC B5.d B5.c (.slice d1 B5.E.length c1) (.slice d2 B5.S.length c2) 0 2) = some (τ''.setIfInBounds (τ5.size + 1) (.cells 1 (sideC B5.d B5.c (.slice d1 B5.E.length c1) (.slice d2 B5.S.length c2) 0 2) (0, 0))) := by
    rw [wrN_eq, if_neg (by rw [side_ne]; exact id), hz10', wrc_cells, if_pos ⟨by rw [hsl']; exact Nat.le_refl _, side_one rfl rfl⟩, side_sets hd' rfl]; rfl
  have hz11'' : (τ''.setIfInBounds (τ5.size + 1) (.cells 1 (sideC B5.d B5.c (.slice d1 B5.E.length c1) (.slice d2 B5.S.length c2) 0 2) (0, 0)))[τ5.size + 2]? = some (.cells 0 zeroO (0, 0)) := (get_set_ne (by omega)).trans hz11'
  have w9a := w9 (x := zeroO) hz11'' rfl rfl
  have zO : [.int .i64 0, .int .i64 0, .int .i64 0, .int .i64 0, .int .i64 0, .int .i64 0, .int .i64 0, .string ⟨#[]⟩, .bool false] = zeroO := rfl
  have zl : zeroO.length = 9 := rfl
  have zt : zeroO.take 9 = zeroO := rfl
  simp only [↓eD0, ↓eD1, eC0, eC1, eC2, eC3, eC4, eC5, eC6, wantedE, ↓reduceIte, Nat.reduceEqDiff, Option.map_some, Option.map_none, reread, List.nil_append, List.cons_append, List.map_cons, List.map_nil, List.length_nil, List.length_cons, Value.cells, List.getElem?_cons_zero, List.getElem?_cons_succ, outE, lks, lkR, rdV, neg1, evs, opt, Nat.reduceAdd, Nat.reduceMul, and_self, reduceCtorEq, List.size_toArray, List.all_cons, List.all_nil, Value.oneCell', List.set_cons_zero, List.set_cons_succ, sets, fillL, Nat.reduceLeDiff, List.drop_succ_cons, List.drop_zero, List.take_succ_cons, List.take_zero, List.toList_toArray, argsE, Array.append_empty, Array.empty_append, List.getElem?_toArray, Int.reduceLT, Int.reduceLE, Int.reduceToNat, Int.reduceEq, Nat.reduceLT, hsl', hst', w21, w9a, zl, zt]
  have hold5 : Old τ5 ((τ''.setIfInBounds (τ5.size + 1) (.cells 1 (sideC B5.d B5.c (.slice d1 B5.E.length c1) (.slice d2 B5.S.length c2) 0 2) (0, 0))).setIfInBounds (τ5.size + 2) (.cells 1 zeroO (0, 0))) := (((Old.ap.trans ho').trans ho'').set (by omega)).set (by omega)
  have hob5 : ((τ''.setIfInBounds (τ5.size + 1) (.cells 1 (sideC B5.d B5.c (.slice d1 B5.E.length c1) (.slice d2 B5.S.length c2) 0 2) (0, 0))).setIfInBounds (τ5.size + 2) (.cells 1 zeroO (0, 0)))[τ5.size + 1]? = some (.cells 1 (sideC B5.d B5.c (.slice d1 B5.E.length c1) (.slice d2 B5.S.length c2) 0 2) (0, 0)) := (get_set_ne (by omega)).trans (get_set hz10')
  have hob6 : ((τ''.setIfInBounds (τ5.size + 1) (.cells 1 (sideC B5.d B5.c (.slice d1 B5.E.length c1) (.slice d2 B5.S.length c2) 0 2) (0, 0))).setIfInBounds (τ5.size + 2) (.cells 1 zeroO (0, 0)))[τ5.size + 2]? = some (.cells 1 zeroO (0, 0)) := get_set hz11''
  have holdL : Old τ' ((τ''.setIfInBounds (τ5.size + 1) (.cells 1 (sideC B5.d B5.c (.slice d1 B5.E.length c1) (.slice d2 B5.S.length c2) 0 2) (0, 0))).setIfInBounds (τ5.size + 2) (.cells 1 zeroO (0, 0))) → True := fun _ => trivial
  have hLv6 : Row ((τ''.setIfInBounds (τ5.size + 1) (.cells 1 (sideC B5.d B5.c (.slice d1 B5.E.length c1) (.slice d2 B5.S.length c2) 0 2) (0, 0))).setIfInBounds (τ5.size + 2) (.cells 1 zeroO (0, 0))) 5 (.slice d1 B5.E.length c1) (B5.E.map entV) := by
    have hfr' := fun c => hfr _ c (rec17 hd')
    have h6 := hLv.Old ho''
    refine row_set_ne (row_set_ne h6 fun c hc => ?_) fun c hc => ?_
    · have := hfr' c hc; rw [ap_size] at this; simp at this; omega
    · have := hfr' c hc; rw [ap_size] at this; simp at this; omega
  generalize hT6 : (τ''.setIfInBounds (τ5.size + 1) (.cells 1 (sideC B5.d B5.c (.slice d1 B5.E.length c1) (.slice d2 B5.S.length c2) 0 2) (0, 0))).setIfInBounds (τ5.size + 2) (.cells 1 zeroO (0, 0)) = τ6 at hold5 hob5 hob6 hLv6 ⊢
  have hA5 := hA4.Old hold5
  have hb6 := (hold5.2 _ hlt).trans hb5
  have ho6 := ho5.trans hold5
  have hlt6 : τ.size < τ6.size := (Array.getElem?_eq_some_iff.1 hb6).1
  have rdA6 : rdN τ6 ⟨τ.size, 0, none⟩ 19 = some rA := rdN_all hb6 hAl
  clear hT6 rdA rdx hz10 hz11 hz10' hz11' w21 hz11'' w9a hAA hbx e1
  simp only [↓eD0, ↓eD1, eC0, eC1, eC2, eC3, eC4, eC5, eC6, wantedE, ↓reduceIte, Nat.reduceEqDiff, Option.map_some, Option.map_none, reread, List.nil_append, List.cons_append, List.map_cons, List.map_nil, List.length_nil, List.length_cons, Value.cells, List.getElem?_cons_zero, List.getElem?_cons_succ, outE, lks, lkR, rdV, neg1, evs, opt, Nat.reduceAdd, Nat.reduceMul, and_self, reduceCtorEq, List.size_toArray, List.all_cons, List.all_nil, Value.oneCell', List.set_cons_zero, List.set_cons_succ, sets, fillL, Nat.reduceLeDiff, List.drop_succ_cons, List.drop_zero, List.take_succ_cons, List.take_zero, List.toList_toArray, argsE, Array.append_empty, Array.empty_append, List.getElem?_toArray, Int.reduceLT, Int.reduceLE, Int.reduceToNat, Int.reduceEq, Nat.reduceLT, rdA6, hAl, hs21, hs20, hsl]
  refine appK_of (merge2_state (x := 0) (p := 0) (q := 1) hd hd (by decide)) ?_
  rintro _ τ7 ⟨hold6, rfl⟩
  have e1 : ap τ7 [] = τ7 := ap_nil
  have hA6 := hA5.Old hold6
  have hb7 := (hold6.2 _ hlt6).trans hb6
  have ho7 := ho6.trans hold6
  have hlt7 : τ.size < τ7.size := (Array.getElem?_eq_some_iff.1 hb7).1
  have rdA7 : ∀ L, rdN (ap τ7 L) ⟨τ.size, 0, none⟩ 19 = some rA := fun L => rdN_all ((ap_old hlt7).trans hb7) hAl
  rw [← e1]
  simp only [↓eD0, ↓eD1, eC0, eC1, eC2, eC3, eC4, eC5, eC6, wantedE, ↓reduceIte, Nat.reduceEqDiff, Option.map_some, Option.map_none, reread, List.nil_append, List.cons_append, List.map_cons, List.map_nil, List.length_nil, List.length_cons, Value.cells, List.getElem?_cons_zero, List.getElem?_cons_succ, outE, lks, lkR, rdV, neg1, evs, opt, Nat.reduceAdd, Nat.reduceMul, and_self, reduceCtorEq, List.size_toArray, List.all_cons, List.all_nil, Value.oneCell', List.set_cons_zero, List.set_cons_succ, sets, fillL, Nat.reduceLeDiff, List.drop_succ_cons, List.drop_zero, List.take_succ_cons, List.take_zero, List.toList_toArray, argsE, Array.append_empty, Array.empty_append, List.getElem?_toArray, Int.reduceLT, Int.reduceLE, Int.reduceToNat, Int.reduceEq, Nat.reduceLT, zeroSd, zeroL, zeroO, rdA7]
  refine appK_of (drop_app (i := 1) (hA6.Old .ap)) ?_
  rintro _ τ8 ⟨hold7, lD, rfl, hD⟩
  obtain ⟨f1, g1, f2, g2, rfl, hDv, hDw, _⟩ := hD.recs
  have hdD := hD.log.d16
  have e1 : ap τ8 [] = τ8 := ap_nil
  have hold7 := Old.ap.trans hold7
  have hA7 := hA6.Old hold7
  have hb8 := (hold7.2 _ hlt7).trans hb7
  have ho8 := ho7.trans hold7
  have hlt8 : τ.size < τ8.size := (Array.getElem?_eq_some_iff.1 hb8).1
  have rdA8 : ∀ L, rdN (ap τ8 L) ⟨τ.size, 0, none⟩ 19 = some rA := fun L => rdN_all ((ap_old hlt8).trans hb8) hAl
  rw [← e1, show (dropF (logOf [10, -120, 5]) 1).2 = 0 by kernel_rfl]
  simp only [↓eD0, ↓eD1, eC0, eC1, eC2, eC3, eC4, eC5, eC6, wantedE, ↓reduceIte, Nat.reduceEqDiff, Option.map_some, Option.map_none, reread, List.nil_append, List.cons_append, List.map_cons, List.map_nil, List.length_nil, List.length_cons, Value.cells, List.getElem?_cons_zero, List.getElem?_cons_succ, outE, lks, lkR, rdV, neg1, evs, opt, Nat.reduceAdd, Nat.reduceMul, and_self, reduceCtorEq, List.size_toArray, List.all_cons, List.all_nil, Value.oneCell', List.set_cons_zero, List.set_cons_succ, sets, fillL, Nat.reduceLeDiff, List.drop_succ_cons, List.drop_zero, List.take_succ_cons, List.take_zero, List.toList_toArray, argsE, Array.append_empty, Array.empty_append, List.getElem?_toArray, Int.reduceLT, Int.reduceLE, Int.reduceToNat, Int.reduceEq, Nat.reduceLT, rdA8, rec_len hdD, rec_take hdD, rec_sets hdD, rec_one, rec_ne]
  refine appK_of (drop_app (i := 0) (hA7.Old .ap)) ?_
  rintro _ τ9 ⟨hold8, lZ, rfl, hZ⟩
  obtain ⟨h1, i1, h2, i2, rfl, _, _, _⟩ := hZ.recs
  have hdZ := hZ.log.d16
  have hb16 := (hold8.2 _ (by simp [ap_size])).trans (ap_new0 (σ := τ8) (l := [.cells 1 (recC (dropF (logOf [10, -120, 5]) 1).1.d (dropF (logOf [10, -120, 5]) 1).1.c (.slice f1 (dropF (logOf [10, -120, 5]) 1).1.E.length g1) (.slice f2 (dropF (logOf [10, -120, 5]) 1).1.S.length g2)) (0, 0)]))
  have e1 : ap τ9 [] = τ9 := ap_nil
  have hold8 := Old.ap.trans hold8
  have hA8 := hA7.Old hold8
  have hD8 := hD.Old hold8
  have hb9 := (hold8.2 _ hlt8).trans hb8
  have ho9 := ho8.trans hold8
  have hlt9 : τ.size < τ9.size := (Array.getElem?_eq_some_iff.1 hb9).1
  have hlt16 : τ8.size < τ9.size := (Array.getElem?_eq_some_iff.1 hb16).1
  have hold69 := (hold6.trans hold7).trans hold8
  have hq10 := (hold69.2 _ (Array.getElem?_eq_some_iff.1 hob5).1).trans hob5
  have hq11 := (hold69.2 _ (Array.getElem?_eq_some_iff.1 hob6).1).trans hob6
  have hLv9 := hLv6.Old hold69
  have hold59 := hold5.trans hold69
  have hold49 := hold4.trans hold59
  have hold39 := hold3.trans hold49
  have hq8 := (hold59.2 _ (Array.getElem?_eq_some_iff.1 hob4).1).trans hob4
  have hq6 := (hold49.2 _ (Array.getElem?_eq_some_iff.1 hob3).1).trans hob3
  have hq4 := (hold39.2 _ (Array.getElem?_eq_some_iff.1 hob2).1).trans hob2
  have l10 := (Array.getElem?_eq_some_iff.1 hq10).1
  have l11 := (Array.getElem?_eq_some_iff.1 hq11).1
  have l8 := (Array.getElem?_eq_some_iff.1 hq8).1
  have l6 := (Array.getElem?_eq_some_iff.1 hq6).1
  have l4 := (Array.getElem?_eq_some_iff.1 hq4).1
  have r10 : ∀ L j, rd1 (ap τ9 L) ⟨τ5.size + 1, j, none⟩ = (sideC B5.d B5.c (.slice d1 B5.E.length c1) (.slice d2 B5.S.length c2) 0 2)[j]? := fun L j => by rw [rd1_eq, ap_old (b := τ5.size + 1) l10, hq10, rdc1_cells]
  have r11 : ∀ L, rdN (ap τ9 L) ⟨τ5.size + 2, 0, none⟩ 9 = some zeroO := fun L => rdN_all ((ap_old (b := τ5.size + 2) l11).trans hq11) rfl
  have r8 : ∀ L j, rd1 (ap τ9 L) ⟨τ4.size + 1, j, none⟩ = ([.int .i64 0, .int .i64 0, .int .i64 1, .int .i64 3, .int .i64 0, .int .i64 5, .int .i64 0, .string ⟨#[121]⟩, .bool true] : List Value)[j]? := fun L j => by rw [rd1_eq, ap_old (b := τ4.size + 1) l8, hq8, rdc1_cells]
  have r6 : ∀ L j, rd1 (ap τ9 L) ⟨τ3.size + 1, j, none⟩ = ([.int .i64 0, .int .i64 1, .int .i64 0, .int .i64 3, .int .i64 0, .int .i64 10, .int .i64 0, .string ⟨#[120]⟩, .bool false] : List Value)[j]? := fun L j => by rw [rd1_eq, ap_old (b := τ3.size + 1) l6, hq6, rdc1_cells]
  have r4 : ∀ L j, rd1 (ap τ9 L) ⟨τ2.size + 1, j, none⟩ = ([.int .i64 0, .int .i64 2, .int .i64 3, .int .i64 1, .int .i64 0, .int .i64 10, .int .i64 5, .string ⟨#[]⟩, .bool false] : List Value)[j]? := fun L j => by rw [rd1_eq, ap_old (b := τ2.size + 1) l4, hq4, rdc1_cells]
  have r16 : ∀ L, rdN (ap τ9 L) ⟨τ8.size, 0, none⟩ 19 = some (recC (dropF (logOf [10, -120, 5]) 1).1.d (dropF (logOf [10, -120, 5]) 1).1.c (.slice f1 (dropF (logOf [10, -120, 5]) 1).1.E.length g1) (.slice f2 (dropF (logOf [10, -120, 5]) 1).1.S.length g2)) := fun L => rdN_all ((ap_old hlt16).trans hb16) (rec_len hdD)
  have r1617 : ∀ L, rd1 (ap τ9 L) ⟨τ8.size, 17, none⟩ = some (.slice f1 (dropF (logOf [10, -120, 5]) 1).1.E.length g1) := fun L => by rw [rd1_eq, ap_old hlt16, hb16]; exact rec17 hdD
  have rdA9 : ∀ L, rdN (ap τ9 L) ⟨τ.size, 0, none⟩ 19 = some rA := fun L => rdN_all ((ap_old hlt9).trans hb9) hAl
  obtain ⟨bE, oE, hbE, hrE⟩ := hLv9.at hx2
  subst hbE
  have s20 := side20 hd' (c := B5.c) (v := .slice (some ⟨bE, oE, none⟩) B5.E.length c1) (w := .slice d2 B5.S.length c2) (x := 0) (p := 2)
  have s17 := side17 hd' (c := B5.c) (v := .slice (some ⟨bE, oE, none⟩) B5.E.length c1) (w := .slice d2 B5.S.length c2) (x := 0) (p := 2)
  have hdl : decide ((B5.E.length : Int) = 3) = true := by rw [len3]; rfl
  have hbl : (2:Int) < (B5.E.length : Int) := by rw [len3]; decide
  have r410 : oE + 2 * 5 = oE + 10 := rfl
  have rE3 : ∀ L, rd1 (ap τ9 L) ⟨bE, oE + 2 * 5 + 3, none⟩ = some (.int .i64 9) := fun L => rd1_old (rd1_row hrE (j := 3) rfl)
  have obeq : aggEq [.int .i64, .int .i64, .int .i64, .int .i64, .int .i64, .int .i64, .int .i64, .string, .bool] zeroO [.int .i64 0, .int .i64 0, .int .i64 0, .int .i64 0, .int .i64 0, .int .i64 0, .int .i64 0, .string ⟨#[]⟩, .bool false] = some true := by kernel_rfl
  have f0 : fillL [.int .i64 0, .int .i64 0, .int .i64 0, .int .i64 0, .int .i64 0, .int .i64 0, .int .i64 0, .string ⟨#[]⟩, .bool false] [] = some [.int .i64 0, .int .i64 0, .int .i64 0, .int .i64 0, .int .i64 0, .int .i64 0, .int .i64 0, .string ⟨#[]⟩, .bool false] := rfl
  rw [← e1, show (dropF (logOf [10, -120, 5]) 0).2 = 1 by kernel_rfl]
  simp only [↓eD0, ↓eD1, eC0, eC1, eC2, eC3, eC4, eC5, eC6, wantedE, ↓reduceIte, Nat.reduceEqDiff, Option.map_some, Option.map_none, reread, List.nil_append, List.cons_append, List.map_cons, List.map_nil, List.length_nil, List.length_cons, Value.cells, List.getElem?_cons_zero, List.getElem?_cons_succ, outE, lks, lkR, rdV, neg1, evs, opt, Nat.reduceAdd, Nat.reduceMul, and_self, reduceCtorEq, List.size_toArray, List.all_cons, List.all_nil, Value.oneCell', List.set_cons_zero, List.set_cons_succ, sets, fillL, Nat.reduceLeDiff, List.drop_succ_cons, List.drop_zero, List.take_succ_cons, List.take_zero, List.toList_toArray, argsE, Array.append_empty, Array.empty_append, List.getElem?_toArray, Int.reduceLT, Int.reduceLE, Int.reduceToNat, Int.reduceEq, Nat.reduceLT, rec_len hdZ, rec_take hdZ, rec_sets hdZ, rec_one, rec_ne, r10, s20, s17, r11, r8, r6, r4, hdl, hbl, rE3, obeq, f0, rep5]
  have hl2 : decide (((dropF (logOf [10, -120, 5]) 1).1.E.length : Int) = 2) = true := by kernel_rfl
  have sD : Sized (dropF (logOf [10, -120, 5]) 1).1.E := by
    intro e he
    have h1 : ((dropF (logOf [10, -120, 5]) 1).1.E.all fun e => decide (e.kind = 1 → 1 ≤ e.n ∧ e.n ≤ 1099511627776)) = true := by kernel_rfl
    have h2 := of_decide_eq_true (List.all_eq_true.1 h1 e he)
    intro hk
    exact h2 hk
  simp only [↓eD0, ↓eD1, eC0, eC1, eC2, eC3, eC4, eC5, eC6, wantedE, ↓reduceIte, Nat.reduceEqDiff, Option.map_some, Option.map_none, reread, List.nil_append, List.cons_append, List.map_cons, List.map_nil, List.length_nil, List.length_cons, Value.cells, List.getElem?_cons_zero, List.getElem?_cons_succ, outE, lks, lkR, rdV, neg1, evs, opt, Nat.reduceAdd, Nat.reduceMul, and_self, reduceCtorEq, List.size_toArray, List.all_cons, List.all_nil, Value.oneCell', List.set_cons_zero, List.set_cons_succ, sets, fillL, Nat.reduceLeDiff, List.drop_succ_cons, List.drop_zero, List.take_succ_cons, List.take_zero, List.toList_toArray, argsE, Array.append_empty, Array.empty_append, List.getElem?_toArray, Int.reduceLT, Int.reduceLE, Int.reduceToNat, Int.reduceEq, Nat.reduceLT, r16]
  refine appK_of (of_ints_app (l := [15]) (i64_lit (τ := τ9) (j := 1) (L := [_, _]) rfl rfl (by decide)) (by decide)) ?_
  rintro _ τ10 ⟨ho', lc, rfl, hL, _⟩
  have hold9 := Old.ap.trans ho'
  have r16x : rdN τ10 ⟨τ8.size, 0, none⟩ 19 = some (recC (dropF (logOf [10, -120, 5]) 1).1.d (dropF (logOf [10, -120, 5]) 1).1.c (.slice f1 (dropF (logOf [10, -120, 5]) 1).1.E.length g1) (.slice f2 (dropF (logOf [10, -120, 5]) 1).1.S.length g2)) := rdN_all ((hold9.2 _ hlt16).trans hb16) (rec_len hdD)
  have r1617x : ∀ L, rd1 (ap τ10 L) ⟨τ8.size, 17, none⟩ = some (.slice f1 (dropF (logOf [10, -120, 5]) 1).1.E.length g1) := fun L => by
    have := (hold9.2 _ hlt16).trans hb16
    rw [rd1_eq, ap_old (Array.getElem?_eq_some_iff.1 this).1, this]; exact rec17 hdD
  simp only [↓eD0, ↓eD1, eC0, eC1, eC2, eC3, eC4, eC5, eC6, wantedE, ↓reduceIte, Nat.reduceEqDiff, Option.map_some, Option.map_none, reread, List.nil_append, List.cons_append, List.map_cons, List.map_nil, List.length_nil, List.length_cons, Value.cells, List.getElem?_cons_zero, List.getElem?_cons_succ, outE, lks, lkR, rdV, neg1, evs, opt, Nat.reduceAdd, Nat.reduceMul, and_self, reduceCtorEq, List.size_toArray, List.all_cons, List.all_nil, Value.oneCell', List.set_cons_zero, List.set_cons_succ, sets, fillL, Nat.reduceLeDiff, List.drop_succ_cons, List.drop_zero, List.take_succ_cons, List.take_zero, List.toList_toArray, argsE, Array.append_empty, Array.empty_append, List.getElem?_toArray, Int.reduceLT, Int.reduceLE, Int.reduceToNat, Int.reduceEq, Nat.reduceLT, r16x]
  refine appK_of (same_app (hD8.Old hold9).log hL.log sD (sized_of (by kernel_rfl))) ?_
  rintro _ _ ⟨e2, rfl⟩
  rw [e2, show sameF (dropF (logOf [10, -120, 5]) 1).1.d (dropF (logOf [10, -120, 5]) 1).1.c (dropF (logOf [10, -120, 5]) 1).1.E (logOf [15]).d (logOf [15]).c (logOf [15]).E = true by kernel_rfl]
  clear e2
  have e1 : ap τ10 [] = τ10 := ap_nil
  have hb10 := (hold9.2 _ hlt9).trans hb9
  have hlt10 : τ.size < τ10.size := (Array.getElem?_eq_some_iff.1 hb10).1
  have rdA10 : ∀ L, rdN (ap τ10 L) ⟨τ.size, 0, none⟩ 19 = some rA := fun L => rdN_all ((ap_old hlt10).trans hb10) hAl
  rw [← e1]
  simp only [↓eD0, ↓eD1, eC0, eC1, eC2, eC3, eC4, eC5, eC6, wantedE, ↓reduceIte, Nat.reduceEqDiff, Option.map_some, Option.map_none, reread, List.nil_append, List.cons_append, List.map_cons, List.map_nil, List.length_nil, List.length_cons, Value.cells, List.getElem?_cons_zero, List.getElem?_cons_succ, outE, lks, lkR, rdV, neg1, evs, opt, Nat.reduceAdd, Nat.reduceMul, and_self, reduceCtorEq, List.size_toArray, List.all_cons, List.all_nil, Value.oneCell', List.set_cons_zero, List.set_cons_succ, sets, fillL, Nat.reduceLeDiff, List.drop_succ_cons, List.drop_zero, List.take_succ_cons, List.take_zero, List.toList_toArray, argsE, Array.append_empty, Array.empty_append, List.getElem?_toArray, Int.reduceLT, Int.reduceLE, Int.reduceToNat, Int.reduceEq, Nat.reduceLT, r1617x, hl2, rdA10, rep5]
  refine appK_of (of_ints_app (l := [3, 7, -120, 1, 4]) (i64_lit (τ := τ10) (j := 0) (L := [_]) rfl rfl (by decide)) (by decide)) ?_
  rintro _ τ11 ⟨ho'', lc2, rfl, hL2, _⟩
  have hold10 := Old.ap.trans ho''
  have rdA11 : rdN τ11 ⟨τ.size, 0, none⟩ 19 = some rA := rdN_all ((hold10.2 _ hlt10).trans hb10) hAl
  simp only [↓eD0, ↓eD1, eC0, eC1, eC2, eC3, eC4, eC5, eC6, wantedE, ↓reduceIte, Nat.reduceEqDiff, Option.map_some, Option.map_none, reread, List.nil_append, List.cons_append, List.map_cons, List.map_nil, List.length_nil, List.length_cons, Value.cells, List.getElem?_cons_zero, List.getElem?_cons_succ, outE, lks, lkR, rdV, neg1, evs, opt, Nat.reduceAdd, Nat.reduceMul, and_self, reduceCtorEq, List.size_toArray, List.all_cons, List.all_nil, Value.oneCell', List.set_cons_zero, List.set_cons_succ, sets, fillL, Nat.reduceLeDiff, List.drop_succ_cons, List.drop_zero, List.take_succ_cons, List.take_zero, List.toList_toArray, argsE, Array.append_empty, Array.empty_append, List.getElem?_toArray, Int.reduceLT, Int.reduceLE, Int.reduceToNat, Int.reduceEq, Nat.reduceLT, rdA11]
  refine appK_of (same_app ((hA8.Old hold9).Old hold10).log hL2.log hAs (sized_of (by kernel_rfl))) ?_
  rintro _ _ ⟨e2, rfl⟩
  rw [e2, show sameF (logOf [10, -120, 5]).d (logOf [10, -120, 5]).c (logOf [10, -120, 5]).E (logOf [3, 7, -120, 1, 4]).d (logOf [3, 7, -120, 1, 4]).c (logOf [3, 7, -120, 1, 4]).E = true by kernel_rfl]
  clear e2
  simp only [↓eD0, ↓eD1, eC0, eC1, eC2, eC3, eC4, eC5, eC6, wantedE, ↓reduceIte, Nat.reduceEqDiff, Option.map_some, Option.map_none, reread, List.nil_append, List.cons_append, List.map_cons, List.map_nil, List.length_nil, List.length_cons, Value.cells, List.getElem?_cons_zero, List.getElem?_cons_succ, outE, lks, lkR, rdV, neg1, evs, opt, Nat.reduceAdd, Nat.reduceMul, and_self, reduceCtorEq, List.size_toArray, List.all_cons, List.all_nil, Value.oneCell', List.set_cons_zero, List.set_cons_succ, sets, fillL, Nat.reduceLeDiff, List.drop_succ_cons, List.drop_zero, List.take_succ_cons, List.take_zero, List.toList_toArray, argsE, Array.append_empty, Array.empty_append, List.getElem?_toArray, Int.reduceLT, Int.reduceLE, Int.reduceToNat, Int.reduceEq, Nat.reduceLT]
  exact ⟨(ho9.trans hold9).trans hold10, by simp [flat]⟩
end Go.Proofs.YtljmjkpmkpchoaaDoor
