/- Walks of the functions that the claim reaches. Conditions: none. -/
import Derived.Test.YtianomelnpiffaaPd
set_option linter.all false
set_option linter.unusedSimpArgs false
set_option linter.unusedVariables false
set_option maxRecDepth 10000
set_option maxHeartbeats 1000000
namespace Go.Proofs.Ytianomelnpiffaa
open Go Go.Cn Go.RowKit
attribute [local irreducible] evL sem onG onI onV

theorem est10' {g : Ld} {l : Ln} {p : Pl} {σ : H} : App Try.prog (.func 10) #[] #[.agg (ldV g).toArray, .agg (lnV l).toArray, .agg (plV p).toArray] σ fun v σ' => σ' = σ ∧ v = .tuple #[.agg (bdV (estF g l p).1).toArray, .int .i64 (estF g l p).2] :=
  App.forget (est10_app.mono fun v σ' ⟨h1, h2⟩ => ⟨h1, by rw [h2]; simp [flat, flat.flat1, bdV, plV], h2⟩)
theorem est12' {g : Ld} {l : Ln} {p : Pl} {σ : H} : App Try.prog (.func 12) #[] #[.agg (ldV g).toArray, .agg (lnV l).toArray, .agg (plV p).toArray] σ fun v σ' => σ' = σ ∧ v = .agg #[.int .i64 (estF g l p).1.d, .int .i64 (estF g l p).1.v, .int .i64 (estF g l p).1.s, .int .i64 (estF g l p).2] :=
  App.forget (est12_app.mono fun v σ' ⟨h1, h2⟩ => ⟨h1, by rw [h2]; simp [flat, flat.flat1, bdV, plV], h2⟩)
theorem choose19' {g : Ld} {l : Ln} {b : Bd} {σ : H} : App Try.prog (.func 19) #[] #[.agg (ldV g).toArray, .agg (lnV l).toArray, .agg (bdV b).toArray] σ fun v σ' => σ' = σ ∧ v = .tuple #[.agg (plV (chooseF g l b).1.1).toArray, .agg (bdV (chooseF g l b).1.2).toArray, .int .i64 (chooseF g l b).2] :=
  App.forget (choose19_app.mono fun v σ' ⟨h1, h2⟩ => ⟨h1, by rw [h2]; simp [flat, flat.flat1, bdV, plV], h2⟩)
theorem choose20' {g : Ld} {l : Ln} {b : Bd} {σ : H} : App Try.prog (.func 20) #[] #[.agg (ldV g).toArray, .agg (lnV l).toArray, .agg (bdV b).toArray] σ fun v σ' => σ' = σ ∧ v = .agg #[.int .i64 (chooseF g l b).1.1.m, .int .i64 (chooseF g l b).1.1.r, .int .i64 (chooseF g l b).1.2.d, .int .i64 (chooseF g l b).1.2.v, .int .i64 (chooseF g l b).1.2.s, .int .i64 (chooseF g l b).2] :=
  App.forget (choose20_app.mono fun v σ' ⟨h1, h2⟩ => ⟨h1, by rw [h2]; simp [flat, flat.flat1, bdV, plV], h2⟩)

theorem bd_eq {a b c a' b' c' : Int} : aggEq [.int .i64, .int .i64, .int .i64] [.int .i64 a, .int .i64 b, .int .i64 c] [.int .i64 a', .int .i64 b', .int .i64 c'] = some (decide (a = a' ∧ b = b' ∧ c = c')) := by
  simp only [aggEq, Leaf.fits, leafEq, decide_true, and_self, ↓reduceIte]
  by_cases h1 : a = a' <;> by_cases h2 : b = b' <;> by_cases h3 : c = c' <;> simp [h1, h2, h3]

def gS : Ld := ⟨40, 10, 1, 2⟩
def lS : Ln := ⟨4, 1⟩
theorem okS : OkF gS lS := by unfold OkF; decide
theorem inS : (⟨1, 1⟩ : Pl) ∈ plansL ∧ (⟨1, 2⟩ : Pl) ∈ plansL ∧ (⟨1, 3⟩ : Pl) ∈ plansL ∧ (⟨2, 0⟩ : Pl) ∈ plansL ∧ (⟨3, 0⟩ : Pl) ∈ plansL :=
  ⟨pre_plans (.inl ⟨rfl, by decide, by decide⟩), pre_plans (.inl ⟨rfl, by decide, by decide⟩), pre_plans (.inl ⟨rfl, by decide, by decide⟩), pre_plans (.inr (.inl rfl)), pre_plans (.inr (.inr rfl))⟩
theorem e1 : estF gS lS ⟨1, 1⟩ = (⟨6, 50, 0⟩, 0) := by unfold estF; rw [if_pos okS, if_pos inS.1]; decide
theorem e2 : estF gS lS ⟨1, 2⟩ = (⟨4, 54, 0⟩, 0) := by unfold estF; rw [if_pos okS, if_pos inS.2.1]; decide
theorem e3 : estF gS lS ⟨1, 3⟩ = (⟨4, 56, 0⟩, 0) := by unfold estF; rw [if_pos okS, if_pos inS.2.2.1]; decide
theorem e4 : estF gS lS ⟨2, 0⟩ = (⟨3, 40, 30⟩, 0) := by unfold estF; rw [if_pos okS, if_pos inS.2.2.2.1]; decide
theorem e5 : estF gS lS ⟨3, 0⟩ = (⟨3, 50, 30⟩, 0) := by unfold estF; rw [if_pos okS, if_pos inS.2.2.2.2]; decide
theorem dS : dirtyR gS lS 3 = ([40, 10, 4, 2], 0) := by unfold dirtyR; rw [if_pos okS]; decide
theorem c1 : chooseF gS lS ⟨5, 60, 0⟩ = ((⟨1, 2⟩, ⟨4, 54, 0⟩), 0) := by unfold chooseF; rw [if_pos okS]; unfold chL; decide +kernel
theorem c2 : chooseF gS lS ⟨3, 100, 100⟩ = ((⟨2, 0⟩, ⟨3, 40, 30⟩), 0) := by unfold chooseF; rw [if_pos okS]; unfold chL; decide +kernel
theorem c3 : chooseF gS lS ⟨3, 100, 29⟩ = ((⟨0, 0⟩, ⟨0, 0, 0⟩), 4) := by unfold chooseF; rw [if_pos okS]; unfold chL; decide +kernel

theorem sanity_app {σ : H} : App Try.prog (.func 13) #[] #[] σ fun v σ' => σ' = σ ∧ v = .bool true := by
  refine App.forget (App.of_sem mixed Try.func13 t13 k13 r13 (Nat.le_of_ble_eq_true rfl) ?_)
  rw [← ap_nil (σ := σ)]
  unfold s13
  simp only [↓eD0, ↓eD1, eC0, eC1, eC2, eC3, eC4, eC5, eC6, wantedE, ↓reduceIte, Nat.reduceEqDiff, Option.map_some, Option.map_none, reread, List.nil_append, List.cons_append, List.map_cons, List.map_nil, List.length_nil, List.length_cons, Value.cells, List.getElem?_cons_zero, List.getElem?_cons_succ, outE, lks, lkR, rdV, neg1, evs, opt, Nat.reduceAdd, Nat.reduceMul, and_self, reduceCtorEq, List.size_toArray, List.all_cons, List.all_nil, Value.oneCell', List.set_cons_zero, List.set_cons_succ, sets, fillL, Nat.reduceLeDiff, List.drop_succ_cons, List.drop_zero, List.take_succ_cons, List.take_zero, List.toList_toArray, argsE, Array.append_empty, Array.empty_append, List.getElem?_toArray, Int.reduceLT, Int.reduceLE, Int.reduceToNat, Int.reduceEq, Nat.reduceLT, rep4]
  generalize hT : ap σ [.cells 1 [.int .i64 40, .int .i64 10, .int .i64 1, .int .i64 2] (0, 0), .cells 1 [.int .i64 4, .int .i64 1] (0, 0)] = T
  have hoT : Old σ T := by rw [← hT]; exact .ap
  have q0 : T[σ.size]? = some (.cells 1 (ldV gS) (0, 0)) := by rw [← hT]; exact ap_new0
  have q1 : T[σ.size + 1]? = some (.cells 1 (lnV lS) (0, 0)) := by rw [← hT]; exact ap_new
  clear hT
  refine appK_of (dirty9_app (g := gS) (l := lS) (k := 3)) ?_
  rintro _ θ ⟨ho, d, rfl, hd⟩
  rw [dS] at hd ⊢
  have fg : ∀ l, rdN (ap θ l) ⟨σ.size, 0, none⟩ 4 = some (ldV gS) := fun l => rdN_all (((ho.trans .ap).2 _ (Array.getElem?_eq_some_iff.1 q0).1).trans q0) rfl
  have fl : ∀ l, rdN (ap θ l) ⟨σ.size + 1, 0, none⟩ 2 = some (lnV lS) := fun l => rdN_all (((ho.trans .ap).2 _ (Array.getElem?_eq_some_iff.1 q1).1).trans q1) rfl
  simp only [ldV, lnV, gS, lS] at fg fl
  rw [← ap_nil (σ := θ)]
  simp only [↓eD0, ↓eD1, eC0, eC1, eC2, eC3, eC4, eC5, eC6, wantedE, ↓reduceIte, Nat.reduceEqDiff, Option.map_some, Option.map_none, reread, List.nil_append, List.cons_append, List.map_cons, List.map_nil, List.length_nil, List.length_cons, Value.cells, List.getElem?_cons_zero, List.getElem?_cons_succ, outE, lks, lkR, rdV, neg1, evs, opt, Nat.reduceAdd, Nat.reduceMul, and_self, reduceCtorEq, List.size_toArray, List.all_cons, List.all_nil, Value.oneCell', List.set_cons_zero, List.set_cons_succ, sets, fillL, Nat.reduceLeDiff, List.drop_succ_cons, List.drop_zero, List.take_succ_cons, List.take_zero, List.toList_toArray, argsE, Array.append_empty, Array.empty_append, List.getElem?_toArray, Int.reduceLT, Int.reduceLE, Int.reduceToNat, Int.reduceEq, Nat.reduceLT, fg, fl]
  refine appK_of (est10' (g := gS) (l := lS) (p := ⟨1, 1⟩)) ?_
  rintro _ _ ⟨h2, rfl⟩
  rw [h2, e1]
  clear h2
  simp only [↓eD0, ↓eD1, eC0, eC1, eC2, eC3, eC4, eC5, eC6, wantedE, ↓reduceIte, Nat.reduceEqDiff, Option.map_some, Option.map_none, reread, List.nil_append, List.cons_append, List.map_cons, List.map_nil, List.length_nil, List.length_cons, Value.cells, List.getElem?_cons_zero, List.getElem?_cons_succ, outE, lks, lkR, rdV, neg1, evs, opt, Nat.reduceAdd, Nat.reduceMul, and_self, reduceCtorEq, List.size_toArray, List.all_cons, List.all_nil, Value.oneCell', List.set_cons_zero, List.set_cons_succ, sets, fillL, Nat.reduceLeDiff, List.drop_succ_cons, List.drop_zero, List.take_succ_cons, List.take_zero, List.toList_toArray, argsE, Array.append_empty, Array.empty_append, List.getElem?_toArray, Int.reduceLT, Int.reduceLE, Int.reduceToNat, Int.reduceEq, Nat.reduceLT, fg, fl, bdV]
  refine appK_of (est10' (g := gS) (l := lS) (p := ⟨1, 2⟩)) ?_
  rintro _ _ ⟨h2, rfl⟩
  rw [h2, e2]
  clear h2
  simp only [↓eD0, ↓eD1, eC0, eC1, eC2, eC3, eC4, eC5, eC6, wantedE, ↓reduceIte, Nat.reduceEqDiff, Option.map_some, Option.map_none, reread, List.nil_append, List.cons_append, List.map_cons, List.map_nil, List.length_nil, List.length_cons, Value.cells, List.getElem?_cons_zero, List.getElem?_cons_succ, outE, lks, lkR, rdV, neg1, evs, opt, Nat.reduceAdd, Nat.reduceMul, and_self, reduceCtorEq, List.size_toArray, List.all_cons, List.all_nil, Value.oneCell', List.set_cons_zero, List.set_cons_succ, sets, fillL, Nat.reduceLeDiff, List.drop_succ_cons, List.drop_zero, List.take_succ_cons, List.take_zero, List.toList_toArray, argsE, Array.append_empty, Array.empty_append, List.getElem?_toArray, Int.reduceLT, Int.reduceLE, Int.reduceToNat, Int.reduceEq, Nat.reduceLT, fg, fl, bdV]
  refine appK_of (est10' (g := gS) (l := lS) (p := ⟨1, 3⟩)) ?_
  rintro _ _ ⟨h2, rfl⟩
  rw [h2, e3]
  clear h2
  simp only [↓eD0, ↓eD1, eC0, eC1, eC2, eC3, eC4, eC5, eC6, wantedE, ↓reduceIte, Nat.reduceEqDiff, Option.map_some, Option.map_none, reread, List.nil_append, List.cons_append, List.map_cons, List.map_nil, List.length_nil, List.length_cons, Value.cells, List.getElem?_cons_zero, List.getElem?_cons_succ, outE, lks, lkR, rdV, neg1, evs, opt, Nat.reduceAdd, Nat.reduceMul, and_self, reduceCtorEq, List.size_toArray, List.all_cons, List.all_nil, Value.oneCell', List.set_cons_zero, List.set_cons_succ, sets, fillL, Nat.reduceLeDiff, List.drop_succ_cons, List.drop_zero, List.take_succ_cons, List.take_zero, List.toList_toArray, argsE, Array.append_empty, Array.empty_append, List.getElem?_toArray, Int.reduceLT, Int.reduceLE, Int.reduceToNat, Int.reduceEq, Nat.reduceLT, fg, fl, bdV]
  refine appK_of (est10' (g := gS) (l := lS) (p := ⟨2, 0⟩)) ?_
  rintro _ _ ⟨h2, rfl⟩
  rw [h2, e4]
  clear h2
  simp only [↓eD0, ↓eD1, eC0, eC1, eC2, eC3, eC4, eC5, eC6, wantedE, ↓reduceIte, Nat.reduceEqDiff, Option.map_some, Option.map_none, reread, List.nil_append, List.cons_append, List.map_cons, List.map_nil, List.length_nil, List.length_cons, Value.cells, List.getElem?_cons_zero, List.getElem?_cons_succ, outE, lks, lkR, rdV, neg1, evs, opt, Nat.reduceAdd, Nat.reduceMul, and_self, reduceCtorEq, List.size_toArray, List.all_cons, List.all_nil, Value.oneCell', List.set_cons_zero, List.set_cons_succ, sets, fillL, Nat.reduceLeDiff, List.drop_succ_cons, List.drop_zero, List.take_succ_cons, List.take_zero, List.toList_toArray, argsE, Array.append_empty, Array.empty_append, List.getElem?_toArray, Int.reduceLT, Int.reduceLE, Int.reduceToNat, Int.reduceEq, Nat.reduceLT, fg, fl, bdV]
  refine appK_of (est10' (g := gS) (l := lS) (p := ⟨3, 0⟩)) ?_
  rintro _ _ ⟨h2, rfl⟩
  rw [h2, e5]
  clear h2
  simp only [↓eD0, ↓eD1, eC0, eC1, eC2, eC3, eC4, eC5, eC6, wantedE, ↓reduceIte, Nat.reduceEqDiff, Option.map_some, Option.map_none, reread, List.nil_append, List.cons_append, List.map_cons, List.map_nil, List.length_nil, List.length_cons, Value.cells, List.getElem?_cons_zero, List.getElem?_cons_succ, outE, lks, lkR, rdV, neg1, evs, opt, Nat.reduceAdd, Nat.reduceMul, and_self, reduceCtorEq, List.size_toArray, List.all_cons, List.all_nil, Value.oneCell', List.set_cons_zero, List.set_cons_succ, sets, fillL, Nat.reduceLeDiff, List.drop_succ_cons, List.drop_zero, List.take_succ_cons, List.take_zero, List.toList_toArray, argsE, Array.append_empty, Array.empty_append, List.getElem?_toArray, Int.reduceLT, Int.reduceLE, Int.reduceToNat, Int.reduceEq, Nat.reduceLT, fg, fl, bdV, rep4]
  refine appK_of (same_app (a := [40, 10, 4, 2]) (hd.Old .ap) ?_ (by decide)) ?_
  · exact Grown.Row (σ0 := θ) (rows := [40, 10, 4, 2].map intV) (Grown.lit (b := θ.size + 5) (ver := 0) (by rfl) (by decide) (by omega) (by rw [ap_new]; rfl)) intV_rows
  rintro _ _ ⟨h2, rfl⟩
  rw [h2]
  clear h2
  simp only [↓eD0, ↓eD1, eC0, eC1, eC2, eC3, eC4, eC5, eC6, wantedE, ↓reduceIte, Nat.reduceEqDiff, Option.map_some, Option.map_none, reread, List.nil_append, List.cons_append, List.map_cons, List.map_nil, List.length_nil, List.length_cons, Value.cells, List.getElem?_cons_zero, List.getElem?_cons_succ, outE, lks, lkR, rdV, neg1, evs, opt, Nat.reduceAdd, Nat.reduceMul, and_self, reduceCtorEq, List.size_toArray, List.all_cons, List.all_nil, Value.oneCell', List.set_cons_zero, List.set_cons_succ, sets, fillL, Nat.reduceLeDiff, List.drop_succ_cons, List.drop_zero, List.take_succ_cons, List.take_zero, List.toList_toArray, argsE, Array.append_empty, Array.empty_append, List.getElem?_toArray, Int.reduceLT, Int.reduceLE, Int.reduceToNat, Int.reduceEq, Nat.reduceLT, fg, fl, undef_eq]
  refine appK_of (choose19' (g := gS) (l := lS) (b := ⟨5, 60, 0⟩)) ?_
  rintro _ _ ⟨h2, rfl⟩
  rw [h2, c1]
  clear h2
  simp only [↓eD0, ↓eD1, eC0, eC1, eC2, eC3, eC4, eC5, eC6, wantedE, ↓reduceIte, Nat.reduceEqDiff, Option.map_some, Option.map_none, reread, List.nil_append, List.cons_append, List.map_cons, List.map_nil, List.length_nil, List.length_cons, Value.cells, List.getElem?_cons_zero, List.getElem?_cons_succ, outE, lks, lkR, rdV, neg1, evs, opt, Nat.reduceAdd, Nat.reduceMul, and_self, reduceCtorEq, List.size_toArray, List.all_cons, List.all_nil, Value.oneCell', List.set_cons_zero, List.set_cons_succ, sets, fillL, Nat.reduceLeDiff, List.drop_succ_cons, List.drop_zero, List.take_succ_cons, List.take_zero, List.toList_toArray, argsE, Array.append_empty, Array.empty_append, List.getElem?_toArray, Int.reduceLT, Int.reduceLE, Int.reduceToNat, Int.reduceEq, Nat.reduceLT, fg, fl, bdV, plV]
  refine appK_of (choose19' (g := gS) (l := lS) (b := ⟨3, 100, 100⟩)) ?_
  rintro _ _ ⟨h2, rfl⟩
  rw [h2, c2]
  clear h2
  simp only [↓eD0, ↓eD1, eC0, eC1, eC2, eC3, eC4, eC5, eC6, wantedE, ↓reduceIte, Nat.reduceEqDiff, Option.map_some, Option.map_none, reread, List.nil_append, List.cons_append, List.map_cons, List.map_nil, List.length_nil, List.length_cons, Value.cells, List.getElem?_cons_zero, List.getElem?_cons_succ, outE, lks, lkR, rdV, neg1, evs, opt, Nat.reduceAdd, Nat.reduceMul, and_self, reduceCtorEq, List.size_toArray, List.all_cons, List.all_nil, Value.oneCell', List.set_cons_zero, List.set_cons_succ, sets, fillL, Nat.reduceLeDiff, List.drop_succ_cons, List.drop_zero, List.take_succ_cons, List.take_zero, List.toList_toArray, argsE, Array.append_empty, Array.empty_append, List.getElem?_toArray, Int.reduceLT, Int.reduceLE, Int.reduceToNat, Int.reduceEq, Nat.reduceLT, fg, fl, bdV, plV]
  refine appK_of (choose19' (g := gS) (l := lS) (b := ⟨3, 100, 29⟩)) ?_
  rintro _ _ ⟨h2, rfl⟩
  rw [h2, c3]
  clear h2
  simp only [↓eD0, ↓eD1, eC0, eC1, eC2, eC3, eC4, eC5, eC6, wantedE, ↓reduceIte, Nat.reduceEqDiff, Option.map_some, Option.map_none, reread, List.nil_append, List.cons_append, List.map_cons, List.map_nil, List.length_nil, List.length_cons, Value.cells, List.getElem?_cons_zero, List.getElem?_cons_succ, outE, lks, lkR, rdV, neg1, evs, opt, Nat.reduceAdd, Nat.reduceMul, and_self, reduceCtorEq, List.size_toArray, List.all_cons, List.all_nil, Value.oneCell', List.set_cons_zero, List.set_cons_succ, sets, fillL, Nat.reduceLeDiff, List.drop_succ_cons, List.drop_zero, List.take_succ_cons, List.take_zero, List.toList_toArray, argsE, Array.append_empty, Array.empty_append, List.getElem?_toArray, Int.reduceLT, Int.reduceLE, Int.reduceToNat, Int.reduceEq, Nat.reduceLT, fg, fl, bdV, plV, bd_eq]
  refine appK_of (within17_app (a := ⟨4, 54, 0⟩) (b := ⟨6, 50, 0⟩)) ?_
  rintro _ _ ⟨h2, rfl⟩
  rw [h2, show within ⟨4, 54, 0⟩ ⟨6, 50, 0⟩ = false by decide]
  clear h2
  simp only [↓eD0, ↓eD1, eC0, eC1, eC2, eC3, eC4, eC5, eC6, wantedE, ↓reduceIte, Nat.reduceEqDiff, Option.map_some, Option.map_none, reread, List.nil_append, List.cons_append, List.map_cons, List.map_nil, List.length_nil, List.length_cons, Value.cells, List.getElem?_cons_zero, List.getElem?_cons_succ, outE, lks, lkR, rdV, neg1, evs, opt, Nat.reduceAdd, Nat.reduceMul, and_self, reduceCtorEq, List.size_toArray, List.all_cons, List.all_nil, Value.oneCell', List.set_cons_zero, List.set_cons_succ, sets, fillL, Nat.reduceLeDiff, List.drop_succ_cons, List.drop_zero, List.take_succ_cons, List.take_zero, List.toList_toArray, argsE, Array.append_empty, Array.empty_append, List.getElem?_toArray, Int.reduceLT, Int.reduceLE, Int.reduceToNat, Int.reduceEq, Nat.reduceLT, fg, fl, bdV, plV]
  refine appK_of (within17_app (a := ⟨3, 40, 30⟩) (b := ⟨3, 50, 30⟩)) ?_
  rintro _ _ ⟨h2, rfl⟩
  rw [h2, show within ⟨3, 40, 30⟩ ⟨3, 50, 30⟩ = true by decide]
  clear h2
  simp only [↓eD0, ↓eD1, eC0, eC1, eC2, eC3, eC4, eC5, eC6, wantedE, ↓reduceIte, Nat.reduceEqDiff, Option.map_some, Option.map_none, reread, List.nil_append, List.cons_append, List.map_cons, List.map_nil, List.length_nil, List.length_cons, Value.cells, List.getElem?_cons_zero, List.getElem?_cons_succ, outE, lks, lkR, rdV, neg1, evs, opt, Nat.reduceAdd, Nat.reduceMul, and_self, reduceCtorEq, List.size_toArray, List.all_cons, List.all_nil, Value.oneCell', List.set_cons_zero, List.set_cons_succ, sets, fillL, Nat.reduceLeDiff, List.drop_succ_cons, List.drop_zero, List.take_succ_cons, List.take_zero, List.toList_toArray, argsE, Array.append_empty, Array.empty_append, List.getElem?_toArray, Int.reduceLT, Int.reduceLE, Int.reduceToNat, Int.reduceEq, Nat.reduceLT, fg, fl, bdV, plV]
  refine appK_of (check14_app (g := gS) (l := lS)) ?_
  rintro _ _ ⟨h2, rfl⟩
  rw [h2, show chk gS lS = 0 from if_pos okS]
  clear h2
  simp only [↓eD0, ↓eD1, eC0, eC1, eC2, eC3, eC4, eC5, eC6, wantedE, ↓reduceIte, Nat.reduceEqDiff, Option.map_some, Option.map_none, reread, List.nil_append, List.cons_append, List.map_cons, List.map_nil, List.length_nil, List.length_cons, Value.cells, List.getElem?_cons_zero, List.getElem?_cons_succ, outE, lks, lkR, rdV, neg1, evs, opt, Nat.reduceAdd, Nat.reduceMul, and_self, reduceCtorEq, List.size_toArray, List.all_cons, List.all_nil, Value.oneCell', List.set_cons_zero, List.set_cons_succ, sets, fillL, Nat.reduceLeDiff, List.drop_succ_cons, List.drop_zero, List.take_succ_cons, List.take_zero, List.toList_toArray, argsE, Array.append_empty, Array.empty_append, List.getElem?_toArray, Int.reduceLT, Int.reduceLE, Int.reduceToNat, Int.reduceEq, Nat.reduceLT, fg, fl, bdV, plV]
  rw [ap_nil]
  exact ⟨(hoT.trans ho).trans .ap, rfl⟩
end Go.Proofs.Ytianomelnpiffaa
