/- Walks and plain laws. Conditions: none. -/
import Derived.Test.YtianomelnpiffaaPj
set_option linter.all false
set_option linter.unusedSimpArgs false
set_option linter.unusedVariables false
set_option maxRecDepth 10000
set_option maxHeartbeats 1000000
namespace Go.Proofs.Ytianomelnpiffaa
open Go Go.Cn Go.RowKit
attribute [local irreducible] evL sem onG onI onV

theorem dirty_hot {g : Ld} {l : Ln} (h : OkF g l) (i : Nat) : dirtyF g l (i + 1) ≤ g.h := (mn_le _ _).1
theorem dirty_down {g : Ld} {l : Ln} (h : OkF g l) : ∀ i, dirtyF g l (i + 1) ≤ dirtyF g l i
  | 0 => by have : dirtyF g l 1 ≤ g.h := dirty_hot h 0; have := h.1.2.1.2; show dirtyF g l 1 ≤ g.p; omega
  | i + 1 => by
    have ih := dirty_down h i
    have h1 := dirty_le h (i + 1)
    have ht := time_mono (g := g) (l := l) h ⟨rfl, Int.le_refl _, Int.le_refl _, Int.le_refl _, Int.le_refl _, Int.le_refl _⟩ h1.1 ih
    have t1 := time_le h.pos h1.1 (by omega)
    exact mn_mono (Int.le_refl _) (Int.mul_le_mul (Int.le_refl _) ht t1.1 h.1.2.2.1.1)
theorem dirty_stay {g : Ld} {l : Ln} {i : Nat} (h : dirtyF g l (i + 1) = dirtyF g l i) : dirtyF g l (i + 2) = dirtyF g l (i + 1) := by
  show mn g.h (g.r * timeF l (dirtyF g l (i + 1))) = mn g.h (g.r * timeF l (dirtyF g l i))
  rw [h]
theorem dirty_calm {g : Ld} {l : Ln} (h : OkF g l) (hr : g.r ≤ 0) : dirtyF g l 1 = 0 := by
  have h0 : g.r = 0 := by have := h.1.2.2.1.1; omega
  show mn g.h (g.r * timeF l g.p) = 0
  rw [h0, Int.zero_mul]
  have := h.1.2.1.1
  unfold mn; split <;> omega

theorem law6 {g : Ld} {l : Ln} {n : Int} {σ : H} (n0 : 0 ≤ n) (n1 : n ≤ 255) : App Try.prog (.func 6) #[] #[.agg (ldV g).toArray, .agg (lnV l).toArray, .int .u8 n] σ fun v σ' => Old σ σ' ∧ v = .bool true := by
  refine App.of_sem mixed Try.func6 t6 k6 r6 (Nat.le_of_ble_eq_true rfl) ?_
  rw [← ap_nil (σ := σ)]
  unfold s6
  simp only [↓eD0, ↓eD1, eC0, eC1, eC2, eC3, eC4, eC5, eC6, wantedE, ↓reduceIte, Nat.reduceEqDiff, Option.map_some, Option.map_none, reread, List.nil_append, List.cons_append, List.map_cons, List.map_nil, List.length_nil, List.length_cons, Value.cells, List.getElem?_cons_zero, List.getElem?_cons_succ, outE, lks, lkR, rdV, neg1, evs, opt, Nat.reduceAdd, Nat.reduceMul, and_self, reduceCtorEq, List.size_toArray, List.all_cons, List.all_nil, Value.oneCell', List.set_cons_zero, List.set_cons_succ, sets, fillL, Nat.reduceLeDiff, List.drop_succ_cons, List.drop_zero, List.take_succ_cons, List.take_zero, List.toList_toArray, argsE, Array.append_empty, Array.empty_append, List.getElem?_toArray, Int.reduceLT, Int.reduceLE, Int.reduceToNat, Int.reduceEq, Nat.reduceLT, ldV, lnV]
  refine appK_of (check15_app (g := g) (l := l)) ?_
  rintro _ _ ⟨h2, rfl⟩
  rw [h2]
  clear h2
  by_cases h : OkF g l
  case neg =>
    have d1 : decide (chk g l = 0) = false := by unfold chk; rw [if_neg h]; rfl
    simp only [↓eD0, ↓eD1, eC0, eC1, eC2, eC3, eC4, eC5, eC6, wantedE, ↓reduceIte, Nat.reduceEqDiff, Option.map_some, Option.map_none, reread, List.nil_append, List.cons_append, List.map_cons, List.map_nil, List.length_nil, List.length_cons, Value.cells, List.getElem?_cons_zero, List.getElem?_cons_succ, outE, lks, lkR, rdV, neg1, evs, opt, Nat.reduceAdd, Nat.reduceMul, and_self, reduceCtorEq, List.size_toArray, List.all_cons, List.all_nil, Value.oneCell', List.set_cons_zero, List.set_cons_succ, sets, fillL, Nat.reduceLeDiff, List.drop_succ_cons, List.drop_zero, List.take_succ_cons, List.take_zero, List.toList_toArray, argsE, Array.append_empty, Array.empty_append, List.getElem?_toArray, Int.reduceLT, Int.reduceLE, Int.reduceToNat, Int.reduceEq, Nat.reduceLT, d1]
    refine appK_of sanity_app ?_
    rintro _ _ ⟨h2, rfl⟩
    rw [h2]
    clear h2
    simp only [↓eD0, ↓eD1, eC0, eC1, eC2, eC3, eC4, eC5, eC6, wantedE, ↓reduceIte, Nat.reduceEqDiff, Option.map_some, Option.map_none, reread, List.nil_append, List.cons_append, List.map_cons, List.map_nil, List.length_nil, List.length_cons, Value.cells, List.getElem?_cons_zero, List.getElem?_cons_succ, outE, lks, lkR, rdV, neg1, evs, opt, Nat.reduceAdd, Nat.reduceMul, and_self, reduceCtorEq, List.size_toArray, List.all_cons, List.all_nil, Value.oneCell', List.set_cons_zero, List.set_cons_succ, sets, fillL, Nat.reduceLeDiff, List.drop_succ_cons, List.drop_zero, List.take_succ_cons, List.take_zero, List.toList_toArray, argsE, Array.append_empty, Array.empty_append, List.getElem?_toArray, Int.reduceLT, Int.reduceLE, Int.reduceToNat, Int.reduceEq, Nat.reduceLT]
    rw [ap_nil]
    exact .ap
  have d1 : decide (chk g l = 0) = true := by unfold chk; rw [if_pos h]; rfl
  simp only [↓eD0, ↓eD1, eC0, eC1, eC2, eC3, eC4, eC5, eC6, wantedE, ↓reduceIte, Nat.reduceEqDiff, Option.map_some, Option.map_none, reread, List.nil_append, List.cons_append, List.map_cons, List.map_nil, List.length_nil, List.length_cons, Value.cells, List.getElem?_cons_zero, List.getElem?_cons_succ, outE, lks, lkR, rdV, neg1, evs, opt, Nat.reduceAdd, Nat.reduceMul, and_self, reduceCtorEq, List.size_toArray, List.all_cons, List.all_nil, Value.oneCell', List.set_cons_zero, List.set_cons_succ, sets, fillL, Nat.reduceLeDiff, List.drop_succ_cons, List.drop_zero, List.take_succ_cons, List.take_zero, List.toList_toArray, argsE, Array.append_empty, Array.empty_append, List.getElem?_toArray, Int.reduceLT, Int.reduceLE, Int.reduceToNat, Int.reduceEq, Nat.reduceLT, d1]
  generalize hT : ap σ [.cells 0 [.int .i64 g.p, .int .i64 g.h, .int .i64 g.r, .int .i64 g.s] (0, 0), .cells 0 [.int .i64 l.p, .int .i64 l.d] (0, 0)] = T
  have hoT : Old σ T := by rw [← hT]; exact .ap
  have q0 : T[σ.size]? = some (.cells 0 (ldV g) (0, 0)) := by rw [← hT]; exact ap_new0
  have q1 : T[σ.size + 1]? = some (.cells 0 (lnV l) (0, 0)) := by rw [← hT]; exact ap_new
  clear hT
  refine appK_of (dirty9_app (g := g) (l := l) (k := 16)) ?_
  rintro _ τ ⟨ho, d, rfl, hd⟩
  have hD : dirtyR g l 16 = (dirtyL g l 16, 0) := by unfold dirtyR; rw [if_pos h, if_pos (by omega)]; rfl
  rw [hD] at hd ⊢
  have f0 : rdN τ ⟨σ.size, 0, none⟩ 4 = some (ldV g) := rdN_all ((ho.2 _ (Array.getElem?_eq_some_iff.1 q0).1).trans q0) rfl
  have f1 : rdN τ ⟨σ.size + 1, 0, none⟩ 2 = some (lnV l) := rdN_all ((ho.2 _ (Array.getElem?_eq_some_iff.1 q1).1).trans q1) rfl
  have wc : IntKind.wrap .i64 n = n := wrap64' (by omega) (by omega)
  have hk : ∃ k : Nat, k < 16 ∧ n.tmod 16 = (k : Int) := by
    refine ⟨(n.tmod 16).toNat, ?_, ?_⟩
    · have := Int.tmod_lt_of_pos n (by omega : (0:Int) < 16); have := Int.tmod_nonneg 16 n0; omega
    · have := Int.tmod_nonneg 16 n0; omega
  obtain ⟨k, hk1, hk2⟩ := hk
  have we : IntKind.wrap .i64 (k : Int) = (k : Int) := wrap64' (by omega) (by omega)
  have wk : IntKind.wrap .i64 (1 + (k : Int)) = ((k + 1 : Nat) : Int) := by rw [wrap64' (by omega) (by omega)]; omega
  simp only [↓eD0, ↓eD1, eC0, eC1, eC2, eC3, eC4, eC5, eC6, wantedE, ↓reduceIte, Nat.reduceEqDiff, Option.map_some, Option.map_none, reread, List.nil_append, List.cons_append, List.map_cons, List.map_nil, List.length_nil, List.length_cons, Value.cells, List.getElem?_cons_zero, List.getElem?_cons_succ, outE, lks, lkR, rdV, neg1, evs, opt, Nat.reduceAdd, Nat.reduceMul, and_self, reduceCtorEq, List.size_toArray, List.all_cons, List.all_nil, Value.oneCell', List.set_cons_zero, List.set_cons_succ, sets, fillL, Nat.reduceLeDiff, List.drop_succ_cons, List.drop_zero, List.take_succ_cons, List.take_zero, List.toList_toArray, argsE, Array.append_empty, Array.empty_append, List.getElem?_toArray, Int.reduceLT, Int.reduceLE, Int.reduceToNat, Int.reduceEq, Nat.reduceLT, f0, f1, ldV, lnV, wc, hk2, we, wk]
  refine appK_of (dirty9_app (g := g) (l := l) (k := ((k + 1 : Nat) : Int))) ?_
  rintro _ τ2 ⟨ho2, f, rfl, hf⟩
  have hF : dirtyR g l ((k + 1 : Nat) : Int) = (dirtyL g l (k + 1), 0) := by unfold dirtyR; rw [if_pos h, if_pos (by omega)]; rfl
  rw [hF] at hf ⊢
  have hd2 := hd.Old ho2
  obtain ⟨db, dc, rfl⟩ := hd2.slice
  obtain ⟨fb, fc, rfl⟩ := hf.slice
  have RD : ∃ b o, db = some ⟨b, o, none⟩ ∧ ∀ i, i ≤ 16 → rd1 τ2 ⟨b, o + i, none⟩ = some (.int .i64 (dirtyF g l i)) := by
    obtain ⟨b, o, hb, _⟩ := hd2.at (i := 0) (x := intV (dirtyF g l 0)) (by simp [dirtyL_get])
    refine ⟨b, o, hb, fun i hi => ?_⟩
    obtain ⟨b', o', hb', hr⟩ := hd2.at (i := i) (x := intV (dirtyF g l i)) (by simp [dirtyL_get (k := 16) (i := i) (by omega)])
    rw [hb] at hb'
    injection hb' with hb'
    injection hb' with e1 e2
    subst e1 e2
    simpa using rd1_row hr (j := 0) rfl
  have RF : ∃ b o, fb = some ⟨b, o, none⟩ ∧ ∀ i, i ≤ k + 1 → rd1 τ2 ⟨b, o + i, none⟩ = some (.int .i64 (dirtyF g l i)) := by
    obtain ⟨b, o, hb, _⟩ := hf.at (i := 0) (x := intV (dirtyF g l 0)) (by simp [dirtyL_get])
    refine ⟨b, o, hb, fun i hi => ?_⟩
    obtain ⟨b', o', hb', hr⟩ := hf.at (i := i) (x := intV (dirtyF g l i)) (by simp [dirtyL_get (k := k + 1) (i := i) (by omega)])
    rw [hb] at hb'
    injection hb' with hb'
    injection hb' with e1 e2
    subst e1 e2
    simpa using rd1_row hr (j := 0) rfl
  obtain ⟨b, o, rfl, rD⟩ := RD
  obtain ⟨b', o', rfl, rF⟩ := RF
  simp only [List.length_map, dirtyL_len]
  have f00 : rd1 τ2 ⟨σ.size, 0, none⟩ = some (.int .i64 g.p) := by rw [rd1_eq, ((ho.trans ho2).2 _ (Array.getElem?_eq_some_iff.1 q0).1).trans q0]; rfl
  have f01 : rd1 τ2 ⟨σ.size, 1, none⟩ = some (.int .i64 g.h) := by rw [rd1_eq, ((ho.trans ho2).2 _ (Array.getElem?_eq_some_iff.1 q0).1).trans q0]; rfl
  have f02 : rd1 τ2 ⟨σ.size, 2, none⟩ = some (.int .i64 g.r) := by rw [rd1_eq, ((ho.trans ho2).2 _ (Array.getElem?_eq_some_iff.1 q0).1).trans q0]; rfl
  have rd0 : rd1 τ2 ⟨b, o, none⟩ = some (.int .i64 g.p) := rD 0 (by omega)
  have rd1' : rd1 τ2 ⟨b, o + 1, none⟩ = some (.int .i64 (dirtyF g l 1)) := rD 1 (by omega)
  have wl : IntKind.wrap .i64 (((k + 1 : Nat) : Int) + 1) = ((k + 1 + 1 : Nat) : Int) := by rw [wrap64' (by omega) (by omega)]; omega
  have dl : decide (((17 : Nat) : Int) = 17) = true := by decide
  have dl2 : (0:Int) ≤ 0 ∧ (0:Int) < ((17 : Nat) : Int) := by decide
  have t0 : Int.toNat 0 = 0 := rfl
  simp only [↓eD0, ↓eD1, eC0, eC1, eC2, eC3, eC4, eC5, eC6, wantedE, ↓reduceIte, Nat.reduceEqDiff, Option.map_some, Option.map_none, reread, List.nil_append, List.cons_append, List.map_cons, List.map_nil, List.length_nil, List.length_cons, Value.cells, List.getElem?_cons_zero, List.getElem?_cons_succ, outE, lks, lkR, rdV, neg1, evs, opt, Nat.reduceAdd, Nat.reduceMul, and_self, reduceCtorEq, List.size_toArray, List.all_cons, List.all_nil, Value.oneCell', List.set_cons_zero, List.set_cons_succ, sets, fillL, Nat.reduceLeDiff, List.drop_succ_cons, List.drop_zero, List.take_succ_cons, List.take_zero, List.toList_toArray, argsE, Array.append_empty, Array.empty_append, List.getElem?_toArray, Int.reduceLT, Int.reduceLE, Int.reduceToNat, Int.reduceEq, Nat.reduceLT, f00, wl, rd0, dl, dl2, t0]
  refine loop_for (J := fun i e τ => i ≤ 16 ∧ e = [(3, .pointer (some ⟨σ.size, 0, none⟩)), (7, .slice (some ⟨b, o, none⟩) 17 dc), (10, .slice (some ⟨b', o', none⟩) (k + 1 + 1) fc), (12, .int .i64 ((i + 1 : Nat) : Int))] ∧ τ = τ2) 16 ⟨by omega, rfl, rfl⟩ ?_
  rintro i e τ hi ⟨_, rfl, rfl⟩
  by_cases hlt : i < 16
  · have dl : decide (((i + 1 : Nat) : Int) < ((17 : Nat) : Int)) = true := by rw [decide_eq_true]; omega
    have hw : IntKind.wrap .i64 (((i + 1 : Nat) : Int) + 1) = ((i + 1 + 1 : Nat) : Int) := by rw [wrap64' (by omega) (by omega)]; omega
    have hw1 : IntKind.wrap .i64 (((i + 1 : Nat) : Int) - 1) = (i : Int) := by rw [wrap64' (by omega) (by omega)]; omega
    have b1 : (0:Int) ≤ ((i + 1 : Nat) : Int) ∧ ((i + 1 : Nat) : Int) < ((17 : Nat) : Int) := by omega
    have b2 : (0:Int) ≤ (i : Int) ∧ (i : Int) < ((17 : Nat) : Int) := by omega
    have r1 := rD (i + 1) (by omega)
    have r2 := rD i (by omega)
    have e1 : decide (dirtyF g l i < dirtyF g l (i + 1)) = false := by have := dirty_down h i; exact decide_eq_false (by omega)
    have e2 : decide (dirtyF g l (i + 1) < 0) = false := by have := dirty_le h (i + 1); exact decide_eq_false (by omega)
    have e3 : decide (g.h < dirtyF g l (i + 1)) = false := by have := dirty_hot h i; exact decide_eq_false (by omega)
    by_cases h2 : 2 ≤ i
    case neg =>
      have e4 : decide ((2:Int) < ((i + 1 : Nat) : Int)) = false := by rw [decide_eq_false]; omega
      by_cases hf : i + 1 < k + 1 + 1
      · have e8 : decide (((i + 1 : Nat) : Int) < ((k + 1 + 1 : Nat) : Int)) = true := by rw [decide_eq_true]; omega
        have b4 : (0:Int) ≤ ((i + 1 : Nat) : Int) ∧ ((i + 1 : Nat) : Int) < ((k + 1 + 1 : Nat) : Int) := by omega
        have r4 := rF (i + 1) (by omega)
        simp only [↓eD0, ↓eD1, eC0, eC1, eC2, eC3, eC4, eC5, eC6, wantedE, ↓reduceIte, Nat.reduceEqDiff, Option.map_some, Option.map_none, reread, List.nil_append, List.cons_append, List.map_cons, List.map_nil, List.length_nil, List.length_cons, Value.cells, List.getElem?_cons_zero, List.getElem?_cons_succ, outE, lks, lkR, rdV, neg1, evs, opt, Nat.reduceAdd, Nat.reduceMul, and_self, reduceCtorEq, List.size_toArray, List.all_cons, List.all_nil, Value.oneCell', List.set_cons_zero, List.set_cons_succ, sets, fillL, Nat.reduceLeDiff, List.drop_succ_cons, List.drop_zero, List.take_succ_cons, List.take_zero, List.toList_toArray, argsE, Array.append_empty, Array.empty_append, List.getElem?_toArray, Int.reduceLT, Int.reduceLE, Int.reduceToNat, Int.reduceEq, Nat.reduceLT, dl, b1, b2, hw1, Int.toNat_natCast, Nat.one_mul, r1, r2, e1, e2, e3, f01, undef_eq, hw, e4, e8, b4, r4]
        exact ⟨hlt, by omega⟩
      · have e8 : decide (((i + 1 : Nat) : Int) < ((k + 1 + 1 : Nat) : Int)) = false := by rw [decide_eq_false]; omega
        simp only [↓eD0, ↓eD1, eC0, eC1, eC2, eC3, eC4, eC5, eC6, wantedE, ↓reduceIte, Nat.reduceEqDiff, Option.map_some, Option.map_none, reread, List.nil_append, List.cons_append, List.map_cons, List.map_nil, List.length_nil, List.length_cons, Value.cells, List.getElem?_cons_zero, List.getElem?_cons_succ, outE, lks, lkR, rdV, neg1, evs, opt, Nat.reduceAdd, Nat.reduceMul, and_self, reduceCtorEq, List.size_toArray, List.all_cons, List.all_nil, Value.oneCell', List.set_cons_zero, List.set_cons_succ, sets, fillL, Nat.reduceLeDiff, List.drop_succ_cons, List.drop_zero, List.take_succ_cons, List.take_zero, List.toList_toArray, argsE, Array.append_empty, Array.empty_append, List.getElem?_toArray, Int.reduceLT, Int.reduceLE, Int.reduceToNat, Int.reduceEq, Nat.reduceLT, dl, b1, b2, hw1, Int.toNat_natCast, Nat.one_mul, r1, r2, e1, e2, e3, f01, undef_eq, hw, e4, e8]
        exact ⟨hlt, by omega⟩
    have e4 : decide ((2:Int) < ((i + 1 : Nat) : Int)) = true := by rw [decide_eq_true]; omega
    have hw2 : IntKind.wrap .i64 (((i + 1 : Nat) : Int) - 2) = ((i - 1 : Nat) : Int) := by rw [wrap64' (by omega) (by omega)]; omega
    have b3 : (0:Int) ≤ ((i - 1 : Nat) : Int) ∧ ((i - 1 : Nat) : Int) < ((17 : Nat) : Int) := by omega
    have r3 := rD (i - 1) (by omega)
    by_cases he : dirtyF g l i = dirtyF g l (i - 1)
    · have e5 : decide (dirtyF g l i = dirtyF g l (i - 1)) = true := decide_eq_true he
      have e6 : decide (dirtyF g l (i + 1) = dirtyF g l i) = true := by
        obtain ⟨j, rfl⟩ : ∃ j, i = j + 1 := ⟨i - 1, by omega⟩
        exact decide_eq_true (dirty_stay he)
      by_cases hf : i + 1 < k + 1 + 1
      · have e8 : decide (((i + 1 : Nat) : Int) < ((k + 1 + 1 : Nat) : Int)) = true := by rw [decide_eq_true]; omega
        have b4 : (0:Int) ≤ ((i + 1 : Nat) : Int) ∧ ((i + 1 : Nat) : Int) < ((k + 1 + 1 : Nat) : Int) := by omega
        have r4 := rF (i + 1) (by omega)
        simp only [↓eD0, ↓eD1, eC0, eC1, eC2, eC3, eC4, eC5, eC6, wantedE, ↓reduceIte, Nat.reduceEqDiff, Option.map_some, Option.map_none, reread, List.nil_append, List.cons_append, List.map_cons, List.map_nil, List.length_nil, List.length_cons, Value.cells, List.getElem?_cons_zero, List.getElem?_cons_succ, outE, lks, lkR, rdV, neg1, evs, opt, Nat.reduceAdd, Nat.reduceMul, and_self, reduceCtorEq, List.size_toArray, List.all_cons, List.all_nil, Value.oneCell', List.set_cons_zero, List.set_cons_succ, sets, fillL, Nat.reduceLeDiff, List.drop_succ_cons, List.drop_zero, List.take_succ_cons, List.take_zero, List.toList_toArray, argsE, Array.append_empty, Array.empty_append, List.getElem?_toArray, Int.reduceLT, Int.reduceLE, Int.reduceToNat, Int.reduceEq, Nat.reduceLT, dl, b1, b2, hw1, Int.toNat_natCast, Nat.one_mul, r1, r2, e1, e2, e3, f01, undef_eq, hw, e4, e5, e6, hw2, b3, r3, e8, b4, r4]
        exact ⟨hlt, by omega⟩
      · have e8 : decide (((i + 1 : Nat) : Int) < ((k + 1 + 1 : Nat) : Int)) = false := by rw [decide_eq_false]; omega
        simp only [↓eD0, ↓eD1, eC0, eC1, eC2, eC3, eC4, eC5, eC6, wantedE, ↓reduceIte, Nat.reduceEqDiff, Option.map_some, Option.map_none, reread, List.nil_append, List.cons_append, List.map_cons, List.map_nil, List.length_nil, List.length_cons, Value.cells, List.getElem?_cons_zero, List.getElem?_cons_succ, outE, lks, lkR, rdV, neg1, evs, opt, Nat.reduceAdd, Nat.reduceMul, and_self, reduceCtorEq, List.size_toArray, List.all_cons, List.all_nil, Value.oneCell', List.set_cons_zero, List.set_cons_succ, sets, fillL, Nat.reduceLeDiff, List.drop_succ_cons, List.drop_zero, List.take_succ_cons, List.take_zero, List.toList_toArray, argsE, Array.append_empty, Array.empty_append, List.getElem?_toArray, Int.reduceLT, Int.reduceLE, Int.reduceToNat, Int.reduceEq, Nat.reduceLT, dl, b1, b2, hw1, Int.toNat_natCast, Nat.one_mul, r1, r2, e1, e2, e3, f01, undef_eq, hw, e4, e5, e6, hw2, b3, r3, e8]
        exact ⟨hlt, by omega⟩
    · have e5 : decide (dirtyF g l i = dirtyF g l (i - 1)) = false := decide_eq_false he
      by_cases hf : i + 1 < k + 1 + 1
      · have e8 : decide (((i + 1 : Nat) : Int) < ((k + 1 + 1 : Nat) : Int)) = true := by rw [decide_eq_true]; omega
        have b4 : (0:Int) ≤ ((i + 1 : Nat) : Int) ∧ ((i + 1 : Nat) : Int) < ((k + 1 + 1 : Nat) : Int) := by omega
        have r4 := rF (i + 1) (by omega)
        simp only [↓eD0, ↓eD1, eC0, eC1, eC2, eC3, eC4, eC5, eC6, wantedE, ↓reduceIte, Nat.reduceEqDiff, Option.map_some, Option.map_none, reread, List.nil_append, List.cons_append, List.map_cons, List.map_nil, List.length_nil, List.length_cons, Value.cells, List.getElem?_cons_zero, List.getElem?_cons_succ, outE, lks, lkR, rdV, neg1, evs, opt, Nat.reduceAdd, Nat.reduceMul, and_self, reduceCtorEq, List.size_toArray, List.all_cons, List.all_nil, Value.oneCell', List.set_cons_zero, List.set_cons_succ, sets, fillL, Nat.reduceLeDiff, List.drop_succ_cons, List.drop_zero, List.take_succ_cons, List.take_zero, List.toList_toArray, argsE, Array.append_empty, Array.empty_append, List.getElem?_toArray, Int.reduceLT, Int.reduceLE, Int.reduceToNat, Int.reduceEq, Nat.reduceLT, dl, b1, b2, hw1, Int.toNat_natCast, Nat.one_mul, r1, r2, e1, e2, e3, f01, undef_eq, hw, e4, e5, hw2, b3, r3, e8, b4, r4]
        exact ⟨hlt, by omega⟩
      · have e8 : decide (((i + 1 : Nat) : Int) < ((k + 1 + 1 : Nat) : Int)) = false := by rw [decide_eq_false]; omega
        simp only [↓eD0, ↓eD1, eC0, eC1, eC2, eC3, eC4, eC5, eC6, wantedE, ↓reduceIte, Nat.reduceEqDiff, Option.map_some, Option.map_none, reread, List.nil_append, List.cons_append, List.map_cons, List.map_nil, List.length_nil, List.length_cons, Value.cells, List.getElem?_cons_zero, List.getElem?_cons_succ, outE, lks, lkR, rdV, neg1, evs, opt, Nat.reduceAdd, Nat.reduceMul, and_self, reduceCtorEq, List.size_toArray, List.all_cons, List.all_nil, Value.oneCell', List.set_cons_zero, List.set_cons_succ, sets, fillL, Nat.reduceLeDiff, List.drop_succ_cons, List.drop_zero, List.take_succ_cons, List.take_zero, List.toList_toArray, argsE, Array.append_empty, Array.empty_append, List.getElem?_toArray, Int.reduceLT, Int.reduceLE, Int.reduceToNat, Int.reduceEq, Nat.reduceLT, dl, b1, b2, hw1, Int.toNat_natCast, Nat.one_mul, r1, r2, e1, e2, e3, f01, undef_eq, hw, e4, e5, hw2, b3, r3, e8]
        exact ⟨hlt, by omega⟩
  · have : i = 16 := by omega
    subst this
    have dl : decide (((16 + 1 : Nat) : Int) < ((17 : Nat) : Int)) = false := by decide
    simp only [↓eD0, ↓eD1, eC0, eC1, eC2, eC3, eC4, eC5, eC6, wantedE, ↓reduceIte, Nat.reduceEqDiff, Option.map_some, Option.map_none, reread, List.nil_append, List.cons_append, List.map_cons, List.map_nil, List.length_nil, List.length_cons, Value.cells, List.getElem?_cons_zero, List.getElem?_cons_succ, outE, lks, lkR, rdV, neg1, evs, opt, Nat.reduceAdd, Nat.reduceMul, and_self, reduceCtorEq, List.size_toArray, List.all_cons, List.all_nil, Value.oneCell', List.set_cons_zero, List.set_cons_succ, sets, fillL, Nat.reduceLeDiff, List.drop_succ_cons, List.drop_zero, List.take_succ_cons, List.take_zero, List.toList_toArray, argsE, Array.append_empty, Array.empty_append, List.getElem?_toArray, Int.reduceLT, Int.reduceLE, Int.reduceToNat, Int.reduceEq, Nat.reduceLT, dl]
    refine appK_of sanity_app ?_
    rintro _ _ ⟨h2, rfl⟩
    rw [h2]
    clear h2
    by_cases hr : 0 < g.r
    · have e1 : decide (0 < g.r) = true := decide_eq_true hr
      simp only [↓eD0, ↓eD1, eC0, eC1, eC2, eC3, eC4, eC5, eC6, wantedE, ↓reduceIte, Nat.reduceEqDiff, Option.map_some, Option.map_none, reread, List.nil_append, List.cons_append, List.map_cons, List.map_nil, List.length_nil, List.length_cons, Value.cells, List.getElem?_cons_zero, List.getElem?_cons_succ, outE, lks, lkR, rdV, neg1, evs, opt, Nat.reduceAdd, Nat.reduceMul, and_self, reduceCtorEq, List.size_toArray, List.all_cons, List.all_nil, Value.oneCell', List.set_cons_zero, List.set_cons_succ, sets, fillL, Nat.reduceLeDiff, List.drop_succ_cons, List.drop_zero, List.take_succ_cons, List.take_zero, List.toList_toArray, argsE, Array.append_empty, Array.empty_append, List.getElem?_toArray, Int.reduceLT, Int.reduceLE, Int.reduceToNat, Int.reduceEq, Nat.reduceLT, f02, e1, undef_eq]
      rw [ap_nil]
      exact hoT.trans (ho.trans ho2)
    · have e1 : decide (0 < g.r) = false := decide_eq_false hr
      have e2 : decide (dirtyF g l 1 = 0) = true := decide_eq_true (dirty_calm h (by omega))
      have b5 : (0:Int) ≤ 1 ∧ (1:Int) < ((17 : Nat) : Int) := by decide
      have t1 : Int.toNat 1 = 1 := rfl
      simp only [↓eD0, ↓eD1, eC0, eC1, eC2, eC3, eC4, eC5, eC6, wantedE, ↓reduceIte, Nat.reduceEqDiff, Option.map_some, Option.map_none, reread, List.nil_append, List.cons_append, List.map_cons, List.map_nil, List.length_nil, List.length_cons, Value.cells, List.getElem?_cons_zero, List.getElem?_cons_succ, outE, lks, lkR, rdV, neg1, evs, opt, Nat.reduceAdd, Nat.reduceMul, and_self, reduceCtorEq, List.size_toArray, List.all_cons, List.all_nil, Value.oneCell', List.set_cons_zero, List.set_cons_succ, sets, fillL, Nat.reduceLeDiff, List.drop_succ_cons, List.drop_zero, List.take_succ_cons, List.take_zero, List.toList_toArray, argsE, Array.append_empty, Array.empty_append, List.getElem?_toArray, Int.reduceLT, Int.reduceLE, Int.reduceToNat, Int.reduceEq, Nat.reduceLT, f02, e1, e2, b5, t1, Nat.one_mul, rd1', undef_eq]
      rw [ap_nil]
      exact hoT.trans (ho.trans ho2)
end Go.Proofs.Ytianomelnpiffaa
