/- Walks and plain laws. Conditions: none. -/
import Derived.Test.YtianomelnpiffaaSc
set_option linter.all false
set_option linter.unusedSimpArgs false
set_option linter.unusedVariables false
set_option maxRecDepth 10000
set_option maxHeartbeats 1000000
namespace Go.Proofs.Ytianomelnpiffaa
open Go Go.Cn Go.RowKit
attribute [local irreducible] evL sem onG onI onV

theorem law4 {g : Ld} {l : Ln} {b : Bd} {σ : H} : App Try.prog (.func 4) #[] #[.agg (ldV g).toArray, .agg (lnV l).toArray, .agg (bdV b).toArray] σ fun v σ' => Old σ σ' ∧ v = .bool true := by
  refine App.of_sem mixed Try.func4 t4 k4 r4 (Nat.le_of_ble_eq_true rfl) ?_
  rw [← ap_nil (σ := σ)]
  unfold s4
  simp only [↓eD0, ↓eD1, eC0, eC1, eC2, eC3, eC4, eC5, eC6, wantedE, ↓reduceIte, Nat.reduceEqDiff, Option.map_some, Option.map_none, reread, List.nil_append, List.cons_append, List.map_cons, List.map_nil, List.length_nil, List.length_cons, Value.cells, List.getElem?_cons_zero, List.getElem?_cons_succ, outE, lks, lkR, rdV, neg1, evs, opt, Nat.reduceAdd, Nat.reduceMul, and_self, reduceCtorEq, List.size_toArray, List.all_cons, List.all_nil, Value.oneCell', List.set_cons_zero, List.set_cons_succ, sets, fillL, Nat.reduceLeDiff, List.drop_succ_cons, List.drop_zero, List.take_succ_cons, List.take_zero, List.toList_toArray, argsE, Array.append_empty, Array.empty_append, List.getElem?_toArray, Int.reduceLT, Int.reduceLE, Int.reduceToNat, Int.reduceEq, Nat.reduceLT, ldV, lnV, bdV, rep6]
  refine appK_of (choose19' (g := g) (l := l) (b := b)) ?_
  rintro _ _ ⟨h2, rfl⟩
  rw [h2]
  clear h2
  generalize hc : chooseF g l b = c
  simp only [↓eD0, ↓eD1, eC0, eC1, eC2, eC3, eC4, eC5, eC6, wantedE, ↓reduceIte, Nat.reduceEqDiff, Option.map_some, Option.map_none, reread, List.nil_append, List.cons_append, List.map_cons, List.map_nil, List.length_nil, List.length_cons, Value.cells, List.getElem?_cons_zero, List.getElem?_cons_succ, outE, lks, lkR, rdV, neg1, evs, opt, Nat.reduceAdd, Nat.reduceMul, and_self, reduceCtorEq, List.size_toArray, List.all_cons, List.all_nil, Value.oneCell', List.set_cons_zero, List.set_cons_succ, sets, fillL, Nat.reduceLeDiff, List.drop_succ_cons, List.drop_zero, List.take_succ_cons, List.take_zero, List.toList_toArray, argsE, Array.append_empty, Array.empty_append, List.getElem?_toArray, Int.reduceLT, Int.reduceLE, Int.reduceToNat, Int.reduceEq, Nat.reduceLT, bdV, plV, rep6]
  refine appK_of (choose20' (g := g) (l := l) (b := b)) ?_
  rintro _ _ ⟨h2, rfl⟩
  rw [h2, hc]
  clear h2
  simp only [↓eD0, ↓eD1, eC0, eC1, eC2, eC3, eC4, eC5, eC6, wantedE, ↓reduceIte, Nat.reduceEqDiff, Option.map_some, Option.map_none, reread, List.nil_append, List.cons_append, List.map_cons, List.map_nil, List.length_nil, List.length_cons, Value.cells, List.getElem?_cons_zero, List.getElem?_cons_succ, outE, lks, lkR, rdV, neg1, evs, opt, Nat.reduceAdd, Nat.reduceMul, and_self, reduceCtorEq, List.size_toArray, List.all_cons, List.all_nil, Value.oneCell', List.set_cons_zero, List.set_cons_succ, sets, fillL, Nat.reduceLeDiff, List.drop_succ_cons, List.drop_zero, List.take_succ_cons, List.take_zero, List.toList_toArray, argsE, Array.append_empty, Array.empty_append, List.getElem?_toArray, Int.reduceLT, Int.reduceLE, Int.reduceToNat, Int.reduceEq, Nat.reduceLT, bdV, plV, rep6]
  refine appK_of sanity_app ?_
  rintro _ _ ⟨h2, rfl⟩
  rw [h2]
  clear h2
  simp only [↓eD0, ↓eD1, eC0, eC1, eC2, eC3, eC4, eC5, eC6, wantedE, ↓reduceIte, Nat.reduceEqDiff, Option.map_some, Option.map_none, reread, List.nil_append, List.cons_append, List.map_cons, List.map_nil, List.length_nil, List.length_cons, Value.cells, List.getElem?_cons_zero, List.getElem?_cons_succ, outE, lks, lkR, rdV, neg1, evs, opt, Nat.reduceAdd, Nat.reduceMul, and_self, reduceCtorEq, List.size_toArray, List.all_cons, List.all_nil, Value.oneCell', List.set_cons_zero, List.set_cons_succ, sets, fillL, Nat.reduceLeDiff, List.drop_succ_cons, List.drop_zero, List.take_succ_cons, List.take_zero, List.toList_toArray, argsE, Array.append_empty, Array.empty_append, List.getElem?_toArray, Int.reduceLT, Int.reduceLE, Int.reduceToNat, Int.reduceEq, Nat.reduceLT, bdV, plV, rep6, pl_eq, bd_eq]
  rw [ap_nil]
  exact .ap

theorem law3 {g : Ld} {l : Ln} {p : Pl} {r : Int} {a b : Bd} {σ : H} : App Try.prog (.func 3) #[] #[.agg (ldV g).toArray, .agg (lnV l).toArray, .agg (plV p).toArray, .int .i64 r, .agg (bdV a).toArray, .agg (bdV b).toArray] σ fun v σ' => Old σ σ' ∧ v = .bool true := by
  refine App.of_sem mixed Try.func3 t3 k3 r3 (Nat.le_of_ble_eq_true rfl) ?_
  rw [← ap_nil (σ := σ)]
  unfold s3
  simp only [↓eD0, ↓eD1, eC0, eC1, eC2, eC3, eC4, eC5, eC6, wantedE, ↓reduceIte, Nat.reduceEqDiff, Option.map_some, Option.map_none, reread, List.nil_append, List.cons_append, List.map_cons, List.map_nil, List.length_nil, List.length_cons, Value.cells, List.getElem?_cons_zero, List.getElem?_cons_succ, outE, lks, lkR, rdV, neg1, evs, opt, Nat.reduceAdd, Nat.reduceMul, and_self, reduceCtorEq, List.size_toArray, List.all_cons, List.all_nil, Value.oneCell', List.set_cons_zero, List.set_cons_succ, sets, fillL, Nat.reduceLeDiff, List.drop_succ_cons, List.drop_zero, List.take_succ_cons, List.take_zero, List.toList_toArray, argsE, Array.append_empty, Array.empty_append, List.getElem?_toArray, Int.reduceLT, Int.reduceLE, Int.reduceToNat, Int.reduceEq, Nat.reduceLT, ldV, lnV, bdV, plV, rep6]
  generalize hT : ap σ [.cells 0 [.int .i64 g.p, .int .i64 g.h, .int .i64 g.r, .int .i64 g.s] (0, 0), .cells 0 [.int .i64 l.p, .int .i64 l.d] (0, 0), .cells 0 [.int .i64 p.m, .int .i64 p.r] (0, 0), .cells 0 [.int .i64 a.d, .int .i64 a.v, .int .i64 a.s] (0, 0), .cells 0 [.int .i64 b.d, .int .i64 b.v, .int .i64 b.s] (0, 0)] = T
  have hoT : Old σ T := by rw [← hT]; exact .ap
  have q0 : T[σ.size]? = some (.cells 0 (ldV g) (0, 0)) := by rw [← hT]; exact ap_new0
  have q1 : T[σ.size + 1]? = some (.cells 0 (lnV l) (0, 0)) := by rw [← hT]; exact ap_new
  have q2 : T[σ.size + 2]? = some (.cells 0 (plV p) (0, 0)) := by rw [← hT]; exact ap_new
  have q3 : T[σ.size + 3]? = some (.cells 0 (bdV a) (0, 0)) := by rw [← hT]; exact ap_new
  have q4 : T[σ.size + 4]? = some (.cells 0 (bdV b) (0, 0)) := by rw [← hT]; exact ap_new
  clear hT
  have F0 : ∀ θ, Old T θ → ∀ l, rdN (ap θ l) ⟨σ.size, 0, none⟩ 4 = some (ldV g) := fun θ ho l => rdN_all (((ho.trans .ap).2 _ (Array.getElem?_eq_some_iff.1 q0).1).trans q0) rfl
  have F1 : ∀ θ, Old T θ → ∀ l', rdN (ap θ l') ⟨σ.size + 1, 0, none⟩ 2 = some (lnV l) := fun θ ho l => rdN_all (((ho.trans .ap).2 _ (Array.getElem?_eq_some_iff.1 q1).1).trans q1) rfl
  have F2 : ∀ θ, Old T θ → ∀ l, rdN (ap θ l) ⟨σ.size + 2, 0, none⟩ 2 = some (plV p) := fun θ ho l => rdN_all (((ho.trans .ap).2 _ (Array.getElem?_eq_some_iff.1 q2).1).trans q2) rfl
  have F3 : ∀ θ, Old T θ → ∀ l, rdN (ap θ l) ⟨σ.size + 3, 0, none⟩ 3 = some (bdV a) := fun θ ho l => rdN_all (((ho.trans .ap).2 _ (Array.getElem?_eq_some_iff.1 q3).1).trans q3) rfl
  have F4 : ∀ θ, Old T θ → ∀ l, rdN (ap θ l) ⟨σ.size + 4, 0, none⟩ 3 = some (bdV b) := fun θ ho l => rdN_all (((ho.trans .ap).2 _ (Array.getElem?_eq_some_iff.1 q4).1).trans q4) rfl
  refine appK_of (dirty9_app (g := g) (l := l) (k := r)) ?_
  rintro _ τ ⟨ho, d, rfl, hd⟩
  have hlenD : (dirtyR g l r).1.length < 4000000000000 := by
    unfold dirtyR
    split
    · split
      · simp only [dirtyL_len]; omega
      · decide
    · decide
  generalize hD : dirtyR g l r = D at hd hlenD
  have f0 := F0 τ ho
  have f1 := F1 τ ho
  have f2 := F2 τ ho
  simp only [ldV, lnV, plV] at f0 f1 f2
  rw [← ap_nil (σ := τ)]
  simp only [↓eD0, ↓eD1, eC0, eC1, eC2, eC3, eC4, eC5, eC6, wantedE, ↓reduceIte, Nat.reduceEqDiff, Option.map_some, Option.map_none, reread, List.nil_append, List.cons_append, List.map_cons, List.map_nil, List.length_nil, List.length_cons, Value.cells, List.getElem?_cons_zero, List.getElem?_cons_succ, outE, lks, lkR, rdV, neg1, evs, opt, Nat.reduceAdd, Nat.reduceMul, and_self, reduceCtorEq, List.size_toArray, List.all_cons, List.all_nil, Value.oneCell', List.set_cons_zero, List.set_cons_succ, sets, fillL, Nat.reduceLeDiff, List.drop_succ_cons, List.drop_zero, List.take_succ_cons, List.take_zero, List.toList_toArray, argsE, Array.append_empty, Array.empty_append, List.getElem?_toArray, Int.reduceLT, Int.reduceLE, Int.reduceToNat, Int.reduceEq, Nat.reduceLT, f0, f1, f2]
  refine appK_of (est10' (g := g) (l := l) (p := p)) ?_
  rintro _ _ ⟨h2, rfl⟩
  rw [h2]
  clear h2
  generalize hE : estF g l p = e
  simp only [↓eD0, ↓eD1, eC0, eC1, eC2, eC3, eC4, eC5, eC6, wantedE, ↓reduceIte, Nat.reduceEqDiff, Option.map_some, Option.map_none, reread, List.nil_append, List.cons_append, List.map_cons, List.map_nil, List.length_nil, List.length_cons, Value.cells, List.getElem?_cons_zero, List.getElem?_cons_succ, outE, lks, lkR, rdV, neg1, evs, opt, Nat.reduceAdd, Nat.reduceMul, and_self, reduceCtorEq, List.size_toArray, List.all_cons, List.all_nil, Value.oneCell', List.set_cons_zero, List.set_cons_succ, sets, fillL, Nat.reduceLeDiff, List.drop_succ_cons, List.drop_zero, List.take_succ_cons, List.take_zero, List.toList_toArray, argsE, Array.append_empty, Array.empty_append, List.getElem?_toArray, Int.reduceLT, Int.reduceLE, Int.reduceToNat, Int.reduceEq, Nat.reduceLT, f0, f1, f2, bdV]
  refine appK_of (dirty11_app (g := g) (l := l) (k := r)) ?_
  rintro _ τ2 ⟨ho2, d2, rfl, hd2⟩
  rw [hD] at hd2 ⊢
  obtain ⟨db, dc, rfl⟩ := hd2.slice
  have ho3 : Old T τ2 := (ho.trans .ap).trans ho2
  have g0 := F0 τ2 ho3
  have g1 := F1 τ2 ho3
  have g2 := F2 τ2 ho3
  have g3 := F3 τ2 ho3
  have g4 := F4 τ2 ho3
  have z : τ2[τ.size]? = some (.cells 1 (bdV e.1) (0, 0)) := (ho2.2 _ (by rw [ap_size]; simp)).trans ap_new0
  have gz : ∀ l, rdN (ap τ2 l) ⟨τ.size, 0, none⟩ 3 = some (bdV e.1) := fun l => rdN_all (((Old.ap (σ := τ2) (l := l)).2 _ (Array.getElem?_eq_some_iff.1 z).1).trans z) rfl
  simp only [ldV, lnV, plV, bdV] at g0 g1 g2 g3 g4 gz
  rw [← ap_nil (σ := τ2)]
  simp only [↓eD0, ↓eD1, eC0, eC1, eC2, eC3, eC4, eC5, eC6, wantedE, ↓reduceIte, Nat.reduceEqDiff, Option.map_some, Option.map_none, reread, List.nil_append, List.cons_append, List.map_cons, List.map_nil, List.length_nil, List.length_cons, Value.cells, List.getElem?_cons_zero, List.getElem?_cons_succ, outE, lks, lkR, rdV, neg1, evs, opt, Nat.reduceAdd, Nat.reduceMul, and_self, reduceCtorEq, List.size_toArray, List.all_cons, List.all_nil, Value.oneCell', List.set_cons_zero, List.set_cons_succ, sets, fillL, Nat.reduceLeDiff, List.drop_succ_cons, List.drop_zero, List.take_succ_cons, List.take_zero, List.toList_toArray, argsE, Array.append_empty, Array.empty_append, List.getElem?_toArray, Int.reduceLT, Int.reduceLE, Int.reduceToNat, Int.reduceEq, Nat.reduceLT, g0, g1, g2, rep4]
  refine appK_of (est12' (g := g) (l := l) (p := p)) ?_
  rintro _ _ ⟨h2, rfl⟩
  rw [h2, hE]
  clear h2
  simp only [↓eD0, ↓eD1, eC0, eC1, eC2, eC3, eC4, eC5, eC6, wantedE, ↓reduceIte, Nat.reduceEqDiff, Option.map_some, Option.map_none, reread, List.nil_append, List.cons_append, List.map_cons, List.map_nil, List.length_nil, List.length_cons, Value.cells, List.getElem?_cons_zero, List.getElem?_cons_succ, outE, lks, lkR, rdV, neg1, evs, opt, Nat.reduceAdd, Nat.reduceMul, and_self, reduceCtorEq, List.size_toArray, List.all_cons, List.all_nil, Value.oneCell', List.set_cons_zero, List.set_cons_succ, sets, fillL, Nat.reduceLeDiff, List.drop_succ_cons, List.drop_zero, List.take_succ_cons, List.take_zero, List.toList_toArray, argsE, Array.append_empty, Array.empty_append, List.getElem?_toArray, Int.reduceLT, Int.reduceLE, Int.reduceToNat, Int.reduceEq, Nat.reduceLT, g0, g1, g2, bdV, rep4]
  refine appK_of sanity_app ?_
  rintro _ _ ⟨h2, rfl⟩
  rw [h2]
  clear h2
  simp only [↓eD0, ↓eD1, eC0, eC1, eC2, eC3, eC4, eC5, eC6, wantedE, ↓reduceIte, Nat.reduceEqDiff, Option.map_some, Option.map_none, reread, List.nil_append, List.cons_append, List.map_cons, List.map_nil, List.length_nil, List.length_cons, Value.cells, List.getElem?_cons_zero, List.getElem?_cons_succ, outE, lks, lkR, rdV, neg1, evs, opt, Nat.reduceAdd, Nat.reduceMul, and_self, reduceCtorEq, List.size_toArray, List.all_cons, List.all_nil, Value.oneCell', List.set_cons_zero, List.set_cons_succ, sets, fillL, Nat.reduceLeDiff, List.drop_succ_cons, List.drop_zero, List.take_succ_cons, List.take_zero, List.toList_toArray, argsE, Array.append_empty, Array.empty_append, List.getElem?_toArray, Int.reduceLT, Int.reduceLE, Int.reduceToNat, Int.reduceEq, Nat.reduceLT, g0, g1, g2, bdV, rep4]
  refine appK_of check14_app ?_
  rintro _ _ ⟨h2, rfl⟩
  rw [h2]
  clear h2
  simp only [↓eD0, ↓eD1, eC0, eC1, eC2, eC3, eC4, eC5, eC6, wantedE, ↓reduceIte, Nat.reduceEqDiff, Option.map_some, Option.map_none, reread, List.nil_append, List.cons_append, List.map_cons, List.map_nil, List.length_nil, List.length_cons, Value.cells, List.getElem?_cons_zero, List.getElem?_cons_succ, outE, lks, lkR, rdV, neg1, evs, opt, Nat.reduceAdd, Nat.reduceMul, and_self, reduceCtorEq, List.size_toArray, List.all_cons, List.all_nil, Value.oneCell', List.set_cons_zero, List.set_cons_succ, sets, fillL, Nat.reduceLeDiff, List.drop_succ_cons, List.drop_zero, List.take_succ_cons, List.take_zero, List.toList_toArray, argsE, Array.append_empty, Array.empty_append, List.getElem?_toArray, Int.reduceLT, Int.reduceLE, Int.reduceToNat, Int.reduceEq, Nat.reduceLT, g0, g1, g2, bdV, rep4]
  refine appK_of check15_app ?_
  rintro _ _ ⟨h2, rfl⟩
  rw [h2]
  clear h2
  simp only [↓eD0, ↓eD1, eC0, eC1, eC2, eC3, eC4, eC5, eC6, wantedE, ↓reduceIte, Nat.reduceEqDiff, Option.map_some, Option.map_none, reread, List.nil_append, List.cons_append, List.map_cons, List.map_nil, List.length_nil, List.length_cons, Value.cells, List.getElem?_cons_zero, List.getElem?_cons_succ, outE, lks, lkR, rdV, neg1, evs, opt, Nat.reduceAdd, Nat.reduceMul, and_self, reduceCtorEq, List.size_toArray, List.all_cons, List.all_nil, Value.oneCell', List.set_cons_zero, List.set_cons_succ, sets, fillL, Nat.reduceLeDiff, List.drop_succ_cons, List.drop_zero, List.take_succ_cons, List.take_zero, List.toList_toArray, argsE, Array.append_empty, Array.empty_append, List.getElem?_toArray, Int.reduceLT, Int.reduceLE, Int.reduceToNat, Int.reduceEq, Nat.reduceLT, g0, g1, g2, bdV, rep4]
  refine appK_of (same_app (a := D.1) (hd.Old ((Old.ap.trans ho2).trans .ap)) (hd2.Old .ap) hlenD) ?_
  rintro _ _ ⟨h2, rfl⟩
  rw [h2]
  clear h2
  simp only [↓eD0, ↓eD1, eC0, eC1, eC2, eC3, eC4, eC5, eC6, wantedE, ↓reduceIte, Nat.reduceEqDiff, Option.map_some, Option.map_none, reread, List.nil_append, List.cons_append, List.map_cons, List.map_nil, List.length_nil, List.length_cons, Value.cells, List.getElem?_cons_zero, List.getElem?_cons_succ, outE, lks, lkR, rdV, neg1, evs, opt, Nat.reduceAdd, Nat.reduceMul, and_self, reduceCtorEq, List.size_toArray, List.all_cons, List.all_nil, Value.oneCell', List.set_cons_zero, List.set_cons_succ, sets, fillL, Nat.reduceLeDiff, List.drop_succ_cons, List.drop_zero, List.take_succ_cons, List.take_zero, List.toList_toArray, argsE, Array.append_empty, Array.empty_append, List.getElem?_toArray, Int.reduceLT, Int.reduceLE, Int.reduceToNat, Int.reduceEq, Nat.reduceLT, g0, g1, g2, g3, g4, gz, bdV, rep4, bd_eq]
  refine appK_of within17_app ?_
  rintro _ _ ⟨h2, rfl⟩
  rw [h2]
  clear h2
  simp only [↓eD0, ↓eD1, eC0, eC1, eC2, eC3, eC4, eC5, eC6, wantedE, ↓reduceIte, Nat.reduceEqDiff, Option.map_some, Option.map_none, reread, List.nil_append, List.cons_append, List.map_cons, List.map_nil, List.length_nil, List.length_cons, Value.cells, List.getElem?_cons_zero, List.getElem?_cons_succ, outE, lks, lkR, rdV, neg1, evs, opt, Nat.reduceAdd, Nat.reduceMul, and_self, reduceCtorEq, List.size_toArray, List.all_cons, List.all_nil, Value.oneCell', List.set_cons_zero, List.set_cons_succ, sets, fillL, Nat.reduceLeDiff, List.drop_succ_cons, List.drop_zero, List.take_succ_cons, List.take_zero, List.toList_toArray, argsE, Array.append_empty, Array.empty_append, List.getElem?_toArray, Int.reduceLT, Int.reduceLE, Int.reduceToNat, Int.reduceEq, Nat.reduceLT, g0, g1, g2, g3, g4, bdV, rep4]
  refine appK_of within18_app ?_
  rintro _ _ ⟨h2, rfl⟩
  rw [h2]
  clear h2
  simp only [↓eD0, ↓eD1, eC0, eC1, eC2, eC3, eC4, eC5, eC6, wantedE, ↓reduceIte, Nat.reduceEqDiff, Option.map_some, Option.map_none, reread, List.nil_append, List.cons_append, List.map_cons, List.map_nil, List.length_nil, List.length_cons, Value.cells, List.getElem?_cons_zero, List.getElem?_cons_succ, outE, lks, lkR, rdV, neg1, evs, opt, Nat.reduceAdd, Nat.reduceMul, and_self, reduceCtorEq, List.size_toArray, List.all_cons, List.all_nil, Value.oneCell', List.set_cons_zero, List.set_cons_succ, sets, fillL, Nat.reduceLeDiff, List.drop_succ_cons, List.drop_zero, List.take_succ_cons, List.take_zero, List.toList_toArray, argsE, Array.append_empty, Array.empty_append, List.getElem?_toArray, Int.reduceLT, Int.reduceLE, Int.reduceToNat, Int.reduceEq, Nat.reduceLT, g0, g1, g2, g3, g4, bdV, rep4]
  rw [ap_nil]
  exact (hoT.trans ho3).trans .ap
end Go.Proofs.Ytianomelnpiffaa
