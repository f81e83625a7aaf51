/- Walks and plain laws. Conditions: none. -/
import Derived.Test.YtianomelnpiffaaPi
set_option linter.all false
set_option linter.unusedSimpArgs false
set_option linter.unusedVariables false
set_option maxRecDepth 10000
set_option maxHeartbeats 1000000
namespace Go.Proofs.Ytianomelnpiffaa
open Go Go.Cn Go.RowKit
attribute [local irreducible] evL sem onG onI onV

theorem count_set : ∀ {bs : List Bool} {p : Nat}, bs[p]? = some false → (bs.set p true).count true = bs.count true + 1
  | [], p, h => by simp at h
  | b :: bs, 0, h => by simp at h; subst h; simp
  | b :: bs, p + 1, h => by
    simp at h
    have := count_set (bs := bs) (p := p) (by simpa using h)
    simp only [List.set_cons_succ, List.count_cons, this]; omega
theorem count_hot {bs : List Bool} {n : Nat} (h : ∀ j, n ≤ j → bs[j]? ≠ some true) : bs.count true ≤ n := by
  have h1 : bs.count true = (bs.take n).count true + (bs.drop n).count true := by rw [← List.count_append, List.take_append_drop]
  have h2 : (bs.drop n).count true = 0 := by
    rw [List.count_eq_zero]
    intro hm
    obtain ⟨j, hj⟩ := List.getElem?_of_mem hm
    rw [List.getElem?_drop] at hj
    exact h (n + j) (by omega) hj
  have h3 := List.count_le_length (a := true) (l := bs.take n)
  have : (bs.take n).length ≤ n := by simp; omega
  omega
theorem time_le_sum {l : Ln} {n : Int} (h : Pos l) (h0 : 0 ≤ n) : timeF l n ≤ n + l.d := by
  have := ceil_mono h0 (Int.le_refl n) (Int.le_refl 1) h.1
  rw [Int.ediv_one] at this
  unfold timeF; omega
/-- The pages that were written in this round. -/
structure PB (τ0 τ : H) (hot : Nat) (bs : List Bool) (m : Nat) : Prop where
  old : Old τ0 τ
  blk : ∃ v, τ[τ0.size]? = some (.cells v (bs.map .bool) (0, 0))
  len : bs.length = 64
  hot : ∀ j, hot ≤ j → bs[j]? ≠ some true
  cnt : bs.count true ≤ m
theorem PB.get {τ0 τ : H} {hot m p : Nat} {bs : List Bool} (h : PB τ0 τ hot bs m) (hp : p < 64) : ∃ c, bs[p]? = some c ∧ rd1 τ ⟨τ0.size, p, none⟩ = some (.bool c) := by
  obtain ⟨v, hb⟩ := h.blk
  refine ⟨bs[p]'(by rw [h.len]; exact hp), by simp [h.len, hp], ?_⟩
  rw [rd1_eq, hb]
  show (bs.map Value.bool)[p]? = _
  simp [h.len, hp]
theorem PB.put {τ0 τ : H} {hot m p : Nat} {bs : List Bool} (h : PB τ0 τ hot bs m) (hp : p < hot) (h64 : hot ≤ 64) (hf : bs[p]? = some false) :
    ∃ τ', wrN τ ⟨τ0.size, p, none⟩ [.bool true] = some τ' ∧ PB τ0 τ' hot (bs.set p true) (m + 1) := by
  obtain ⟨v, hb⟩ := h.blk
  refine ⟨τ.setIfInBounds τ0.size (.cells (v + 1) ((bs.set p true).map .bool) (0, 0)), ?_, h.old.set (Nat.le_refl _), ⟨v + 1, get_set hb⟩, by simp [h.len], fun j hj hj2 => ?_, ?_⟩
  · rw [wrN_eq, if_neg (by simp), hb, wrc_cells, if_pos ⟨by simp [h.len]; omega, rfl⟩]
    simp only [sets, List.map_set]
    rfl
  · rw [List.getElem?_set_ne (by omega)] at hj2
    exact h.hot j hj hj2
  · rw [count_set hf]; have := h.cnt; omega

theorem law7 {g : Ld} {l : Ln} {n : Int} {wv : Value} {ws : List Int} {σ : H} (n0 : 0 ≤ n) (n1 : n ≤ 255) (how : ∀ x ∈ ws, 0 ≤ x ∧ x ≤ 255) (hwr : Row σ 1 wv (ws.map fun x => [.int .u8 x])) :
    App Try.prog (.func 7) #[] #[.agg (ldV g).toArray, .agg (lnV l).toArray, .int .u8 n, wv] σ fun v σ' => Old σ σ' ∧ v = .bool true := by
  obtain ⟨wb, wc, hwv⟩ := hwr.slice
  rw [List.length_map] at hwv
  subst hwv
  refine App.of_sem mixed Try.func7 t7 k7 r7 (Nat.le_of_ble_eq_true rfl) ?_
  rw [← ap_nil (σ := σ)]
  unfold s7
  simp only [↓eD0, ↓eD1, eC0, eC1, eC2, eC3, eC4, eC5, eC6, wantedE, ↓reduceIte, Nat.reduceEqDiff, Option.map_some, Option.map_none, reread, List.nil_append, List.cons_append, List.map_cons, List.map_nil, List.length_nil, List.length_cons, Value.cells, List.getElem?_cons_zero, List.getElem?_cons_succ, outE, lks, lkR, rdV, neg1, evs, opt, Nat.reduceAdd, Nat.reduceMul, and_self, reduceCtorEq, List.size_toArray, List.all_cons, List.all_nil, Value.oneCell', List.set_cons_zero, List.set_cons_succ, sets, fillL, Nat.reduceLeDiff, List.drop_succ_cons, List.drop_zero, List.take_succ_cons, List.take_zero, List.toList_toArray, argsE, Array.append_empty, Array.empty_append, List.getElem?_toArray, Int.reduceLT, Int.reduceLE, Int.reduceToNat, Int.reduceEq, Nat.reduceLT, ldV, lnV]
  refine appK_of (check15_app (g := g) (l := l)) ?_
  rintro _ _ ⟨h2, rfl⟩
  rw [h2]
  clear h2
  by_cases h : OkF g l
  case neg =>
    have d1 : decide (chk g l = 0) = false := by unfold chk; rw [if_neg h]; rfl
    simp only [↓eD0, ↓eD1, eC0, eC1, eC2, eC3, eC4, eC5, eC6, wantedE, ↓reduceIte, Nat.reduceEqDiff, Option.map_some, Option.map_none, reread, List.nil_append, List.cons_append, List.map_cons, List.map_nil, List.length_nil, List.length_cons, Value.cells, List.getElem?_cons_zero, List.getElem?_cons_succ, outE, lks, lkR, rdV, neg1, evs, opt, Nat.reduceAdd, Nat.reduceMul, and_self, reduceCtorEq, List.size_toArray, List.all_cons, List.all_nil, Value.oneCell', List.set_cons_zero, List.set_cons_succ, sets, fillL, Nat.reduceLeDiff, List.drop_succ_cons, List.drop_zero, List.take_succ_cons, List.take_zero, List.toList_toArray, argsE, Array.append_empty, Array.empty_append, List.getElem?_toArray, Int.reduceLT, Int.reduceLE, Int.reduceToNat, Int.reduceEq, Nat.reduceLT, d1, undef_eq]
    refine appK_of sanity_app ?_
    rintro _ _ ⟨h2, rfl⟩
    rw [h2]
    clear h2
    simp only [↓eD0, ↓eD1, eC0, eC1, eC2, eC3, eC4, eC5, eC6, wantedE, ↓reduceIte, Nat.reduceEqDiff, Option.map_some, Option.map_none, reread, List.nil_append, List.cons_append, List.map_cons, List.map_nil, List.length_nil, List.length_cons, Value.cells, List.getElem?_cons_zero, List.getElem?_cons_succ, outE, lks, lkR, rdV, neg1, evs, opt, Nat.reduceAdd, Nat.reduceMul, and_self, reduceCtorEq, List.size_toArray, List.all_cons, List.all_nil, Value.oneCell', List.set_cons_zero, List.set_cons_succ, sets, fillL, Nat.reduceLeDiff, List.drop_succ_cons, List.drop_zero, List.take_succ_cons, List.take_zero, List.toList_toArray, argsE, Array.append_empty, Array.empty_append, List.getElem?_toArray, Int.reduceLT, Int.reduceLE, Int.reduceToNat, Int.reduceEq, Nat.reduceLT]
    rw [ap_nil]
    exact .ap
  have d1 : decide (chk g l = 0) = true := by unfold chk; rw [if_pos h]; rfl
  by_cases hr50 : g.r ≤ 50
  case neg =>
    have d2 : decide (50 < g.r) = true := decide_eq_true (by omega)
    simp only [↓eD0, ↓eD1, eC0, eC1, eC2, eC3, eC4, eC5, eC6, wantedE, ↓reduceIte, Nat.reduceEqDiff, Option.map_some, Option.map_none, reread, List.nil_append, List.cons_append, List.map_cons, List.map_nil, List.length_nil, List.length_cons, Value.cells, List.getElem?_cons_zero, List.getElem?_cons_succ, outE, lks, lkR, rdV, neg1, evs, opt, Nat.reduceAdd, Nat.reduceMul, and_self, reduceCtorEq, List.size_toArray, List.all_cons, List.all_nil, Value.oneCell', List.set_cons_zero, List.set_cons_succ, sets, fillL, Nat.reduceLeDiff, List.drop_succ_cons, List.drop_zero, List.take_succ_cons, List.take_zero, List.toList_toArray, argsE, Array.append_empty, Array.empty_append, List.getElem?_toArray, Int.reduceLT, Int.reduceLE, Int.reduceToNat, Int.reduceEq, Nat.reduceLT, d1, d2, undef_eq]
    refine appK_of sanity_app ?_
    rintro _ _ ⟨h2, rfl⟩
    rw [h2]
    clear h2
    simp only [↓eD0, ↓eD1, eC0, eC1, eC2, eC3, eC4, eC5, eC6, wantedE, ↓reduceIte, Nat.reduceEqDiff, Option.map_some, Option.map_none, reread, List.nil_append, List.cons_append, List.map_cons, List.map_nil, List.length_nil, List.length_cons, Value.cells, List.getElem?_cons_zero, List.getElem?_cons_succ, outE, lks, lkR, rdV, neg1, evs, opt, Nat.reduceAdd, Nat.reduceMul, and_self, reduceCtorEq, List.size_toArray, List.all_cons, List.all_nil, Value.oneCell', List.set_cons_zero, List.set_cons_succ, sets, fillL, Nat.reduceLeDiff, List.drop_succ_cons, List.drop_zero, List.take_succ_cons, List.take_zero, List.toList_toArray, argsE, Array.append_empty, Array.empty_append, List.getElem?_toArray, Int.reduceLT, Int.reduceLE, Int.reduceToNat, Int.reduceEq, Nat.reduceLT]
    rw [ap_nil]
    exact .ap
  have d2 : decide (50 < g.r) = false := decide_eq_false (by omega)
  by_cases hd50 : l.d ≤ 50
  case neg =>
    have d3 : decide (50 < l.d) = true := decide_eq_true (by omega)
    simp only [↓eD0, ↓eD1, eC0, eC1, eC2, eC3, eC4, eC5, eC6, wantedE, ↓reduceIte, Nat.reduceEqDiff, Option.map_some, Option.map_none, reread, List.nil_append, List.cons_append, List.map_cons, List.map_nil, List.length_nil, List.length_cons, Value.cells, List.getElem?_cons_zero, List.getElem?_cons_succ, outE, lks, lkR, rdV, neg1, evs, opt, Nat.reduceAdd, Nat.reduceMul, and_self, reduceCtorEq, List.size_toArray, List.all_cons, List.all_nil, Value.oneCell', List.set_cons_zero, List.set_cons_succ, sets, fillL, Nat.reduceLeDiff, List.drop_succ_cons, List.drop_zero, List.take_succ_cons, List.take_zero, List.toList_toArray, argsE, Array.append_empty, Array.empty_append, List.getElem?_toArray, Int.reduceLT, Int.reduceLE, Int.reduceToNat, Int.reduceEq, Nat.reduceLT, d1, d2, d3, undef_eq]
    refine appK_of sanity_app ?_
    rintro _ _ ⟨h2, rfl⟩
    rw [h2]
    clear h2
    simp only [↓eD0, ↓eD1, eC0, eC1, eC2, eC3, eC4, eC5, eC6, wantedE, ↓reduceIte, Nat.reduceEqDiff, Option.map_some, Option.map_none, reread, List.nil_append, List.cons_append, List.map_cons, List.map_nil, List.length_nil, List.length_cons, Value.cells, List.getElem?_cons_zero, List.getElem?_cons_succ, outE, lks, lkR, rdV, neg1, evs, opt, Nat.reduceAdd, Nat.reduceMul, and_self, reduceCtorEq, List.size_toArray, List.all_cons, List.all_nil, Value.oneCell', List.set_cons_zero, List.set_cons_succ, sets, fillL, Nat.reduceLeDiff, List.drop_succ_cons, List.drop_zero, List.take_succ_cons, List.take_zero, List.toList_toArray, argsE, Array.append_empty, Array.empty_append, List.getElem?_toArray, Int.reduceLT, Int.reduceLE, Int.reduceToNat, Int.reduceEq, Nat.reduceLT]
    rw [ap_nil]
    exact .ap
  have d3 : decide (50 < l.d) = false := decide_eq_false (by omega)
  by_cases hl0 : ws.length = 0
  case pos =>
    have d4 : decide ((ws.length : Int) = 0) = true := decide_eq_true (by omega)
    simp only [↓eD0, ↓eD1, eC0, eC1, eC2, eC3, eC4, eC5, eC6, wantedE, ↓reduceIte, Nat.reduceEqDiff, Option.map_some, Option.map_none, reread, List.nil_append, List.cons_append, List.map_cons, List.map_nil, List.length_nil, List.length_cons, Value.cells, List.getElem?_cons_zero, List.getElem?_cons_succ, outE, lks, lkR, rdV, neg1, evs, opt, Nat.reduceAdd, Nat.reduceMul, and_self, reduceCtorEq, List.size_toArray, List.all_cons, List.all_nil, Value.oneCell', List.set_cons_zero, List.set_cons_succ, sets, fillL, Nat.reduceLeDiff, List.drop_succ_cons, List.drop_zero, List.take_succ_cons, List.take_zero, List.toList_toArray, argsE, Array.append_empty, Array.empty_append, List.getElem?_toArray, Int.reduceLT, Int.reduceLE, Int.reduceToNat, Int.reduceEq, Nat.reduceLT, d1, d2, d3, d4, undef_eq]
    refine appK_of sanity_app ?_
    rintro _ _ ⟨h2, rfl⟩
    rw [h2]
    clear h2
    simp only [↓eD0, ↓eD1, eC0, eC1, eC2, eC3, eC4, eC5, eC6, wantedE, ↓reduceIte, Nat.reduceEqDiff, Option.map_some, Option.map_none, reread, List.nil_append, List.cons_append, List.map_cons, List.map_nil, List.length_nil, List.length_cons, Value.cells, List.getElem?_cons_zero, List.getElem?_cons_succ, outE, lks, lkR, rdV, neg1, evs, opt, Nat.reduceAdd, Nat.reduceMul, and_self, reduceCtorEq, List.size_toArray, List.all_cons, List.all_nil, Value.oneCell', List.set_cons_zero, List.set_cons_succ, sets, fillL, Nat.reduceLeDiff, List.drop_succ_cons, List.drop_zero, List.take_succ_cons, List.take_zero, List.toList_toArray, argsE, Array.append_empty, Array.empty_append, List.getElem?_toArray, Int.reduceLT, Int.reduceLE, Int.reduceToNat, Int.reduceEq, Nat.reduceLT]
    rw [ap_nil]
    exact .ap
  have d4 : decide ((ws.length : Int) = 0) = false := decide_eq_false (by omega)
  by_cases hl2 : ws.length ≤ 2000
  case neg =>
    have d5 : decide ((2000 : Int) < (ws.length : Int)) = true := decide_eq_true (by omega)
    simp only [↓eD0, ↓eD1, eC0, eC1, eC2, eC3, eC4, eC5, eC6, wantedE, ↓reduceIte, Nat.reduceEqDiff, Option.map_some, Option.map_none, reread, List.nil_append, List.cons_append, List.map_cons, List.map_nil, List.length_nil, List.length_cons, Value.cells, List.getElem?_cons_zero, List.getElem?_cons_succ, outE, lks, lkR, rdV, neg1, evs, opt, Nat.reduceAdd, Nat.reduceMul, and_self, reduceCtorEq, List.size_toArray, List.all_cons, List.all_nil, Value.oneCell', List.set_cons_zero, List.set_cons_succ, sets, fillL, Nat.reduceLeDiff, List.drop_succ_cons, List.drop_zero, List.take_succ_cons, List.take_zero, List.toList_toArray, argsE, Array.append_empty, Array.empty_append, List.getElem?_toArray, Int.reduceLT, Int.reduceLE, Int.reduceToNat, Int.reduceEq, Nat.reduceLT, d1, d2, d3, d4, d5, undef_eq]
    refine appK_of sanity_app ?_
    rintro _ _ ⟨h2, rfl⟩
    rw [h2]
    clear h2
    simp only [↓eD0, ↓eD1, eC0, eC1, eC2, eC3, eC4, eC5, eC6, wantedE, ↓reduceIte, Nat.reduceEqDiff, Option.map_some, Option.map_none, reread, List.nil_append, List.cons_append, List.map_cons, List.map_nil, List.length_nil, List.length_cons, Value.cells, List.getElem?_cons_zero, List.getElem?_cons_succ, outE, lks, lkR, rdV, neg1, evs, opt, Nat.reduceAdd, Nat.reduceMul, and_self, reduceCtorEq, List.size_toArray, List.all_cons, List.all_nil, Value.oneCell', List.set_cons_zero, List.set_cons_succ, sets, fillL, Nat.reduceLeDiff, List.drop_succ_cons, List.drop_zero, List.take_succ_cons, List.take_zero, List.toList_toArray, argsE, Array.append_empty, Array.empty_append, List.getElem?_toArray, Int.reduceLT, Int.reduceLE, Int.reduceToNat, Int.reduceEq, Nat.reduceLT]
    rw [ap_nil]
    exact .ap
  have d5 : decide ((2000 : Int) < (ws.length : Int)) = false := decide_eq_false (by omega)
  have wcn : IntKind.wrap .i64 n = n := wrap64' (by omega) (by omega)
  have hk : ∃ k : Nat, k < 6 ∧ n.tmod 6 = (k : Int) := by
    refine ⟨(n.tmod 6).toNat, ?_, ?_⟩
    · have := Int.tmod_lt_of_pos n (by omega : (0:Int) < 6); have := Int.tmod_nonneg 6 n0; omega
    · have := Int.tmod_nonneg 6 n0; omega
  obtain ⟨k, hk1, hk2⟩ := hk
  have we : IntKind.wrap .i64 (k : Int) = (k : Int) := wrap64' (by omega) (by omega)
  have wk : IntKind.wrap .i64 (1 + (k : Int)) = ((k + 1 : Nat) : Int) := by rw [wrap64' (by omega) (by omega)]; omega
  simp only [↓eD0, ↓eD1, eC0, eC1, eC2, eC3, eC4, eC5, eC6, wantedE, ↓reduceIte, Nat.reduceEqDiff, Option.map_some, Option.map_none, reread, List.nil_append, List.cons_append, List.map_cons, List.map_nil, List.length_nil, List.length_cons, Value.cells, List.getElem?_cons_zero, List.getElem?_cons_succ, outE, lks, lkR, rdV, neg1, evs, opt, Nat.reduceAdd, Nat.reduceMul, and_self, reduceCtorEq, List.size_toArray, List.all_cons, List.all_nil, Value.oneCell', List.set_cons_zero, List.set_cons_succ, sets, fillL, Nat.reduceLeDiff, List.drop_succ_cons, List.drop_zero, List.take_succ_cons, List.take_zero, List.toList_toArray, argsE, Array.append_empty, Array.empty_append, List.getElem?_toArray, Int.reduceLT, Int.reduceLE, Int.reduceToNat, Int.reduceEq, Nat.reduceLT, d1, d2, d3, d4, d5, wcn, hk2, we, wk]
  generalize hT : ap σ [.cells 0 [.int .i64 g.p, .int .i64 g.h, .int .i64 g.r, .int .i64 g.s] (0, 0), .cells 0 [.int .i64 l.p, .int .i64 l.d] (0, 0)] = T
  have hoT : Old σ T := by rw [← hT]; exact .ap
  have q0 : T[σ.size]? = some (.cells 0 (ldV g) (0, 0)) := by rw [← hT]; exact ap_new0
  have q1 : T[σ.size + 1]? = some (.cells 0 (lnV l) (0, 0)) := by rw [← hT]; exact ap_new
  clear hT
  refine appK_of (dirty9_app (g := g) (l := l) (k := ((k + 1 : Nat) : Int))) ?_
  rintro _ θ ⟨ho, d, rfl, hd⟩
  have hD : dirtyR g l ((k + 1 : Nat) : Int) = (dirtyL g l (k + 1), 0) := by unfold dirtyR; rw [if_pos h, if_pos (by omega)]; rfl
  rw [hD] at hd ⊢
  obtain ⟨db, dc, rfl⟩ := hd.slice
  have RD : ∃ b o, db = some ⟨b, o, none⟩ ∧ ∀ i, i ≤ k + 1 → rd1 θ ⟨b, o + i, none⟩ = some (.int .i64 (dirtyF g l i)) := by
    obtain ⟨b, o, hb, _⟩ := hd.at (i := 0) (x := intV (dirtyF g l 0)) (by simp [dirtyL_get])
    refine ⟨b, o, hb, fun i hi => ?_⟩
    obtain ⟨b', o', hb', hr⟩ := hd.at (i := i) (x := intV (dirtyF g l i)) (by simp [dirtyL_get (k := k + 1) (i := i) (by omega)])
    rw [hb] at hb'
    injection hb' with hb'
    injection hb' with e1 e2
    subst e1 e2
    simpa using rd1_row hr (j := 0) rfl
  obtain ⟨b, o, rfl, rD⟩ := RD
  have hwr2 := hwr.Old (hoT.trans ho)
  have RW : ∃ b o, wb = some ⟨b, o, none⟩ ∧ ∀ j (hj : j < ws.length), rd1 θ ⟨b, o + j, none⟩ = some (.int .u8 ws[j]) := by
    have hwr3 : Row θ 1 (.slice wb (ws.map fun x => [Value.int .u8 x]).length wc) (ws.map fun x => [.int .u8 x]) := by simpa using hwr2
    obtain ⟨b, o, hb, _⟩ := hwr3.at (i := 0) (x := [.int .u8 ws[0]]) (by simp)
    refine ⟨b, o, hb, fun i hi => ?_⟩
    obtain ⟨b', o', hb', hr⟩ := hwr3.at (i := i) (x := [.int .u8 ws[i]]) (by simp [hi])
    rw [hb] at hb'
    injection hb' with hb'
    injection hb' with e1 e2
    subst e1 e2
    simpa using rd1_row hr (j := 0) rfl
  obtain ⟨wb, wo, rfl, rW⟩ := RW
  simp only [List.length_map, dirtyL_len]
  have f00 : rd1 θ ⟨σ.size, 0, none⟩ = some (.int .i64 g.p) := by rw [rd1_eq, (ho.2 _ (Array.getElem?_eq_some_iff.1 q0).1).trans q0]; rfl
  have f01 : rd1 θ ⟨σ.size, 1, none⟩ = some (.int .i64 g.h) := by rw [rd1_eq, (ho.2 _ (Array.getElem?_eq_some_iff.1 q0).1).trans q0]; rfl
  have f02 : rd1 θ ⟨σ.size, 2, none⟩ = some (.int .i64 g.r) := by rw [rd1_eq, (ho.2 _ (Array.getElem?_eq_some_iff.1 q0).1).trans q0]; rfl
  have f1 : rdN θ ⟨σ.size + 1, 0, none⟩ 2 = some (lnV l) := rdN_all ((ho.2 _ (Array.getElem?_eq_some_iff.1 q1).1).trans q1) rfl
  have wl : IntKind.wrap .i64 (((k + 1 : Nat) : Int) + 1) = ((k + 1 + 1 : Nat) : Int) := by rw [wrap64' (by omega) (by omega)]; omega
  have dl : decide (((k + 1 + 1 : Nat) : Int) = ((k + 1 + 1 : Nat) : Int)) = true := decide_eq_true rfl
  simp only [↓eD0, ↓eD1, eC0, eC1, eC2, eC3, eC4, eC5, eC6, wantedE, ↓reduceIte, Nat.reduceEqDiff, Option.map_some, Option.map_none, reread, List.nil_append, List.cons_append, List.map_cons, List.map_nil, List.length_nil, List.length_cons, Value.cells, List.getElem?_cons_zero, List.getElem?_cons_succ, outE, lks, lkR, rdV, neg1, evs, opt, Nat.reduceAdd, Nat.reduceMul, and_self, reduceCtorEq, List.size_toArray, List.all_cons, List.all_nil, Value.oneCell', List.set_cons_zero, List.set_cons_succ, sets, fillL, Nat.reduceLeDiff, List.drop_succ_cons, List.drop_zero, List.take_succ_cons, List.take_zero, List.toList_toArray, argsE, Array.append_empty, Array.empty_append, List.getElem?_toArray, Int.reduceLT, Int.reduceLE, Int.reduceToNat, Int.reduceEq, Nat.reduceLT, f00, wl, dl]
  have hR : ∃ R : Nat, g.r = (R : Int) := ⟨g.r.toNat, by have := h.1.2.2.1.1; omega⟩
  obtain ⟨R, hR⟩ := hR
  have hH : ∃ Hh : Nat, g.h = (Hh : Int) := ⟨g.h.toNat, by have := h.1.2.1.1; omega⟩
  obtain ⟨Hh, hH⟩ := hH
  have hH64 : Hh ≤ 64 := by have := h.1.2.1.2; have := h.1.1; omega
  refine loop_for (J := fun i e τ => i ≤ k + 1 ∧ ∃ s a : Int, 0 ≤ s ∧ s ≤ dirtyF g l i ∧ 0 ≤ a ∧ a ≤ (i : Int) * 10000 ∧ e = [(3, .slice (some ⟨wb, wo, none⟩) ws.length wc), (4, .pointer (some ⟨σ.size, 0, none⟩)), (5, .pointer (some ⟨σ.size + 1, 0, none⟩)), (9, .int .i64 ((k + 1 : Nat) : Int)), (10, .slice (some ⟨b, o, none⟩) (k + 1 + 1) dc), (12, .int .i64 s), (13, .int .i64 a), (14, .int .i64 (i : Int))] ∧ Old θ τ) (k + 1)
    ⟨by omega, g.p, 0, by have := h.1.1; omega, Int.le_refl _, by omega, by omega, rfl, .refl⟩ ?_
  rintro i e τ hi ⟨_, s, a, s0, s1, a0, a1, rfl, hoτ⟩
  by_cases hlt : i < k + 1
  case neg =>
    have hik : i = k + 1 := by omega
    subst hik
    have dl : decide (((k + 1 : Nat) : Int) < ((k + 1 : Nat) : Int)) = false := by rw [decide_eq_false]; omega
    have bb : (0:Int) ≤ ((k + 1 : Nat) : Int) ∧ ((k + 1 : Nat) : Int) < ((k + 1 + 1 : Nat) : Int) := by omega
    have r1 := rd1_Old hoτ (rD (k + 1) (by omega))
    have e1 : decide (s ≤ dirtyF g l (k + 1)) = true := decide_eq_true s1
    simp only [↓eD0, ↓eD1, eC0, eC1, eC2, eC3, eC4, eC5, eC6, wantedE, ↓reduceIte, Nat.reduceEqDiff, Option.map_some, Option.map_none, reread, List.nil_append, List.cons_append, List.map_cons, List.map_nil, List.length_nil, List.length_cons, Value.cells, List.getElem?_cons_zero, List.getElem?_cons_succ, outE, lks, lkR, rdV, neg1, evs, opt, Nat.reduceAdd, Nat.reduceMul, and_self, reduceCtorEq, List.size_toArray, List.all_cons, List.all_nil, Value.oneCell', List.set_cons_zero, List.set_cons_succ, sets, fillL, Nat.reduceLeDiff, List.drop_succ_cons, List.drop_zero, List.take_succ_cons, List.take_zero, List.toList_toArray, argsE, Array.append_empty, Array.empty_append, List.getElem?_toArray, Int.reduceLT, Int.reduceLE, Int.reduceToNat, Int.reduceEq, Nat.reduceLT, dl]
    refine appK_of sanity_app ?_
    rintro _ _ ⟨h2, rfl⟩
    rw [h2]
    clear h2
    simp only [↓eD0, ↓eD1, eC0, eC1, eC2, eC3, eC4, eC5, eC6, wantedE, ↓reduceIte, Nat.reduceEqDiff, Option.map_some, Option.map_none, reread, List.nil_append, List.cons_append, List.map_cons, List.map_nil, List.length_nil, List.length_cons, Value.cells, List.getElem?_cons_zero, List.getElem?_cons_succ, outE, lks, lkR, rdV, neg1, evs, opt, Nat.reduceAdd, Nat.reduceMul, and_self, reduceCtorEq, List.size_toArray, List.all_cons, List.all_nil, Value.oneCell', List.set_cons_zero, List.set_cons_succ, sets, fillL, Nat.reduceLeDiff, List.drop_succ_cons, List.drop_zero, List.take_succ_cons, List.take_zero, List.toList_toArray, argsE, Array.append_empty, Array.empty_append, List.getElem?_toArray, Int.reduceLT, Int.reduceLE, Int.reduceToNat, Int.reduceEq, Nat.reduceLT, bb, Int.toNat_natCast, Nat.one_mul, r1, e1]
    rw [ap_nil]
    exact (hoT.trans ho).trans hoτ
  have dl : decide ((i : Int) < ((k + 1 : Nat) : Int)) = true := by rw [decide_eq_true]; omega
  have hw : IntKind.wrap .i64 ((i : Int) + 1) = ((i + 1 : Nat) : Int) := by rw [wrap64' (by omega) (by omega)]; omega
  have bb : (0:Int) ≤ (i : Int) ∧ (i : Int) < ((k + 1 + 1 : Nat) : Int) := by omega
  have r1 := rd1_Old hoτ (rD i (by omega))
  have e1 : decide (dirtyF g l i < s) = false := decide_eq_false (by omega)
  have hdl := dirty_le h i
  have htl := time_le (n := s) h.pos s0 (by omega)
  have hts := time_le_sum (n := s) h.pos s0
  obtain ⟨Tn, hTn⟩ : ∃ Tn : Nat, timeF l s = (Tn : Int) := ⟨(timeF l s).toNat, by omega⟩
  simp only [↓eD0, ↓eD1, eC0, eC1, eC2, eC3, eC4, eC5, eC6, wantedE, ↓reduceIte, Nat.reduceEqDiff, Option.map_some, Option.map_none, reread, List.nil_append, List.cons_append, List.map_cons, List.map_nil, List.length_nil, List.length_cons, Value.cells, List.getElem?_cons_zero, List.getElem?_cons_succ, outE, lks, lkR, rdV, neg1, evs, opt, Nat.reduceAdd, Nat.reduceMul, and_self, reduceCtorEq, List.size_toArray, List.all_cons, List.all_nil, Value.oneCell', List.set_cons_zero, List.set_cons_succ, sets, fillL, Nat.reduceLeDiff, List.drop_succ_cons, List.drop_zero, List.take_succ_cons, List.take_zero, List.toList_toArray, argsE, Array.append_empty, Array.empty_append, List.getElem?_toArray, Int.reduceLT, Int.reduceLE, Int.reduceToNat, Int.reduceEq, Nat.reduceLT, dl, bb, Int.toNat_natCast, Nat.one_mul, r1, e1]
  refine loop_for (J := fun t e τ' => t ≤ Tn ∧ ∃ (a : Int) (bs : List Bool), 0 ≤ a ∧ a ≤ (i : Int) * 10000 + (t : Int) * 50 ∧ e = [(3, .slice (some ⟨wb, wo, none⟩) ws.length wc), (4, .pointer (some ⟨σ.size, 0, none⟩)), (5, .pointer (some ⟨σ.size + 1, 0, none⟩)), (9, .int .i64 ((k + 1 : Nat) : Int)), (10, .slice (some ⟨b, o, none⟩) (k + 1 + 1) dc), (12, .int .i64 s), (13, .int .i64 a), (14, .int .i64 (i : Int)), (15, .pointer (some ⟨τ.size, 0, none⟩)), (16, .int .i64 ((bs.count true : Nat) : Int)), (17, .int .i64 (t : Int))] ∧ PB τ τ' Hh bs (t * R)) Tn
    ⟨by omega, a, List.replicate 64 false, a0, by omega, rfl, old_push, ⟨0, by simp⟩, by simp, fun j _ => by rw [List.getElem?_replicate]; split <;> simp, by simp⟩ ?_
  rintro t e τ' ht ⟨_, a', bs, a0', a1', rfl, hP⟩
  have f1' := rdN_Old (hoτ.trans hP.old) f1
  have f01' := rd1_Old (hoτ.trans hP.old) f01
  have f02' := rd1_Old (hoτ.trans hP.old) f02
  simp only [lnV] at f1'
  simp only [↓eD0, ↓eD1, eC0, eC1, eC2, eC3, eC4, eC5, eC6, wantedE, ↓reduceIte, Nat.reduceEqDiff, Option.map_some, Option.map_none, reread, List.nil_append, List.cons_append, List.map_cons, List.map_nil, List.length_nil, List.length_cons, Value.cells, List.getElem?_cons_zero, List.getElem?_cons_succ, outE, lks, lkR, rdV, neg1, evs, opt, Nat.reduceAdd, Nat.reduceMul, and_self, reduceCtorEq, List.size_toArray, List.all_cons, List.all_nil, Value.oneCell', List.set_cons_zero, List.set_cons_succ, sets, fillL, Nat.reduceLeDiff, List.drop_succ_cons, List.drop_zero, List.take_succ_cons, List.take_zero, List.toList_toArray, argsE, Array.append_empty, Array.empty_append, List.getElem?_toArray, Int.reduceLT, Int.reduceLE, Int.reduceToNat, Int.reduceEq, Nat.reduceLT, f1']
  refine appK_of (time21_app (l := l) (n := s) h.pos s0 (by omega)) ?_
  rintro _ _ ⟨h2, rfl⟩
  rw [h2, hTn]
  clear h2
  by_cases htl : t < Tn
  case neg =>
    have htT : t = Tn := by omega
    subst htT
    have dl : decide ((t : Int) < (t : Int)) = false := by rw [decide_eq_false]; omega
    simp only [↓eD0, ↓eD1, eC0, eC1, eC2, eC3, eC4, eC5, eC6, wantedE, ↓reduceIte, Nat.reduceEqDiff, Option.map_some, Option.map_none, reread, List.nil_append, List.cons_append, List.map_cons, List.map_nil, List.length_nil, List.length_cons, Value.cells, List.getElem?_cons_zero, List.getElem?_cons_succ, outE, lks, lkR, rdV, neg1, evs, opt, Nat.reduceAdd, Nat.reduceMul, and_self, reduceCtorEq, List.size_toArray, List.all_cons, List.all_nil, Value.oneCell', List.set_cons_zero, List.set_cons_succ, sets, fillL, Nat.reduceLeDiff, List.drop_succ_cons, List.drop_zero, List.take_succ_cons, List.take_zero, List.toList_toArray, argsE, Array.append_empty, Array.empty_append, List.getElem?_toArray, Int.reduceLT, Int.reduceLE, Int.reduceToNat, Int.reduceEq, Nat.reduceLT, dl, hw]
    refine ⟨hlt, by omega, _, _, Int.natCast_nonneg _, ?_, a0', ?_, rfl, hoτ.trans hP.old⟩
    · show _ ≤ mn g.h (g.r * timeF l (dirtyF g l i))
      have c1 := count_hot hP.hot
      have c2 := hP.cnt
      have c3 : timeF l s ≤ timeF l (dirtyF g l i) := time_mono (g := g) (l := l) h ⟨rfl, Int.le_refl _, Int.le_refl _, Int.le_refl _, Int.le_refl _, Int.le_refl _⟩ s0 s1
      have c4 : g.r * timeF l s ≤ g.r * timeF l (dirtyF g l i) := Int.mul_le_mul_of_nonneg_left c3 (by omega)
      have c5 : ((bs.count true : Nat) : Int) ≤ g.r * timeF l s := by rw [hTn, hR, Int.mul_comm]; exact_mod_cast c2
      have c6 := mn_le g.h (g.r * timeF l (dirtyF g l i))
      rcases c6.2.2 with c7 | c7 <;> rw [c7] <;> omega
    · omega
  have dl : decide ((t : Int) < (Tn : Int)) = true := by rw [decide_eq_true]; omega
  have hwt : IntKind.wrap .i64 ((t : Int) + 1) = ((t + 1 : Nat) : Int) := by rw [wrap64' (by omega) (by omega)]; omega
  simp only [↓eD0, ↓eD1, eC0, eC1, eC2, eC3, eC4, eC5, eC6, wantedE, ↓reduceIte, Nat.reduceEqDiff, Option.map_some, Option.map_none, reread, List.nil_append, List.cons_append, List.map_cons, List.map_nil, List.length_nil, List.length_cons, Value.cells, List.getElem?_cons_zero, List.getElem?_cons_succ, outE, lks, lkR, rdV, neg1, evs, opt, Nat.reduceAdd, Nat.reduceMul, and_self, reduceCtorEq, List.size_toArray, List.all_cons, List.all_nil, Value.oneCell', List.set_cons_zero, List.set_cons_succ, sets, fillL, Nat.reduceLeDiff, List.drop_succ_cons, List.drop_zero, List.take_succ_cons, List.take_zero, List.toList_toArray, argsE, Array.append_empty, Array.empty_append, List.getElem?_toArray, Int.reduceLT, Int.reduceLE, Int.reduceToNat, Int.reduceEq, Nat.reduceLT, dl]
  refine loop_for (J := fun q e τ2 => q ≤ R ∧ ∃ (a : Int) (bs : List Bool), 0 ≤ a ∧ a ≤ (i : Int) * 10000 + (t : Int) * 50 + (q : Int) ∧ e = [(3, .slice (some ⟨wb, wo, none⟩) ws.length wc), (4, .pointer (some ⟨σ.size, 0, none⟩)), (5, .pointer (some ⟨σ.size + 1, 0, none⟩)), (9, .int .i64 ((k + 1 : Nat) : Int)), (10, .slice (some ⟨b, o, none⟩) (k + 1 + 1) dc), (12, .int .i64 s), (13, .int .i64 a), (14, .int .i64 (i : Int)), (15, .pointer (some ⟨τ.size, 0, none⟩)), (16, .int .i64 ((bs.count true : Nat) : Int)), (17, .int .i64 (t : Int)), (18, .int .i64 (q : Int))] ∧ PB τ τ2 Hh bs (t * R + q)) R
    ⟨by omega, a', bs, a0', by omega, rfl, hP⟩ ?_
  clear a0' a1' hP f1' f01' f02' bs a'
  rintro q e τ2 hq ⟨_, a', bs, a0', a1', rfl, hP⟩
  have f01' := rd1_Old (hoτ.trans hP.old) f01
  have f02' := rd1_Old (hoτ.trans hP.old) f02
  have fin : (a' ≤ (i : Int) * 10000 + ((t + 1 : Nat) : Int) * 50) ∧ PB τ τ2 Hh bs ((t + 1) * R) := by
    refine ⟨by omega, hP.old, hP.blk, hP.len, hP.hot, ?_⟩
    have := hP.cnt
    rw [Nat.succ_mul]; omega
  by_cases hqR : q < R
  case neg =>
    have dq : decide ((q : Int) < g.r) = false := by rw [decide_eq_false]; omega
    simp only [↓eD0, ↓eD1, eC0, eC1, eC2, eC3, eC4, eC5, eC6, wantedE, ↓reduceIte, Nat.reduceEqDiff, Option.map_some, Option.map_none, reread, List.nil_append, List.cons_append, List.map_cons, List.map_nil, List.length_nil, List.length_cons, Value.cells, List.getElem?_cons_zero, List.getElem?_cons_succ, outE, lks, lkR, rdV, neg1, evs, opt, Nat.reduceAdd, Nat.reduceMul, and_self, reduceCtorEq, List.size_toArray, List.all_cons, List.all_nil, Value.oneCell', List.set_cons_zero, List.set_cons_succ, sets, fillL, Nat.reduceLeDiff, List.drop_succ_cons, List.drop_zero, List.take_succ_cons, List.take_zero, List.toList_toArray, argsE, Array.append_empty, Array.empty_append, List.getElem?_toArray, Int.reduceLT, Int.reduceLE, Int.reduceToNat, Int.reduceEq, Nat.reduceLT, f02', dq, undef_eq, hwt]
    exact ⟨htl, by omega, a', bs, a0', fin.1, rfl, fin.2⟩
  have dq : decide ((q : Int) < g.r) = true := by rw [decide_eq_true]; omega
  by_cases hh0 : 0 < g.h
  case neg =>
    have dh : decide (0 < g.h) = false := decide_eq_false hh0
    simp only [↓eD0, ↓eD1, eC0, eC1, eC2, eC3, eC4, eC5, eC6, wantedE, ↓reduceIte, Nat.reduceEqDiff, Option.map_some, Option.map_none, reread, List.nil_append, List.cons_append, List.map_cons, List.map_nil, List.length_nil, List.length_cons, Value.cells, List.getElem?_cons_zero, List.getElem?_cons_succ, outE, lks, lkR, rdV, neg1, evs, opt, Nat.reduceAdd, Nat.reduceMul, and_self, reduceCtorEq, List.size_toArray, List.all_cons, List.all_nil, Value.oneCell', List.set_cons_zero, List.set_cons_succ, sets, fillL, Nat.reduceLeDiff, List.drop_succ_cons, List.drop_zero, List.take_succ_cons, List.take_zero, List.toList_toArray, argsE, Array.append_empty, Array.empty_append, List.getElem?_toArray, Int.reduceLT, Int.reduceLE, Int.reduceToNat, Int.reduceEq, Nat.reduceLT, f01', f02', dq, dh, hwt]
    exact ⟨htl, by omega, a', bs, a0', fin.1, rfl, fin.2⟩
  have dh : decide (0 < g.h) = true := decide_eq_true hh0
  obtain ⟨jj, hj1, hj2⟩ : ∃ jj : Nat, jj < ws.length ∧ a'.tmod (ws.length : Int) = (jj : Int) := by
    refine ⟨(a'.tmod (ws.length : Int)).toNat, ?_, ?_⟩
    · have := Int.tmod_lt_of_pos a' (by omega : (0:Int) < (ws.length : Int)); have := Int.tmod_nonneg (ws.length : Int) a0'; omega
    · have := Int.tmod_nonneg (ws.length : Int) a0'; omega
  have hz1 : ((ws.length : Int) = 0) = False := eq_false (by omega)
  have hz2 : (g.h = 0) = False := eq_false (by omega)
  have bj : (0:Int) ≤ (jj : Int) ∧ (jj : Int) < (ws.length : Int) := by omega
  have rw1 := rd1_Old (hoτ.trans hP.old) (rW jj hj1)
  have hwb := how ws[jj] (by simp)
  generalize ws[jj] = w at rw1 hwb
  have ww : IntKind.wrap .i64 w = w := wrap64' (by omega) (by omega)
  have wj : IntKind.wrap .i64 (jj : Int) = (jj : Int) := wrap64' (by omega) (by omega)
  have wa : IntKind.wrap .i64 (a' + 1) = a' + 1 := wrap64' (by omega) (by omega)
  have wq : IntKind.wrap .i64 ((q : Int) + 1) = ((q + 1 : Nat) : Int) := by rw [wrap64' (by omega) (by omega)]; omega
  obtain ⟨p, hp1, hp2⟩ : ∃ p : Nat, p < Hh ∧ w.tmod g.h = (p : Int) := by
    refine ⟨(w.tmod g.h).toNat, ?_, ?_⟩
    · have := Int.tmod_lt_of_pos w hh0; have := Int.tmod_nonneg g.h hwb.1; omega
    · have := Int.tmod_nonneg g.h hwb.1; omega
  have wp : IntKind.wrap .i64 (p : Int) = (p : Int) := wrap64' (by omega) (by omega)
  have bp : (0:Int) ≤ (p : Int) ∧ (p : Int) < ((64 : Nat) : Int) := by omega
  obtain ⟨c, hc1, hc2⟩ := hP.get (p := p) (by omega)
  by_cases hw2 : w < 200
  case neg =>
    have d2 : decide (w < 200) = false := decide_eq_false hw2
    simp only [↓eD0, ↓eD1, eC0, eC1, eC2, eC3, eC4, eC5, eC6, wantedE, ↓reduceIte, Nat.reduceEqDiff, Option.map_some, Option.map_none, reread, List.nil_append, List.cons_append, List.map_cons, List.map_nil, List.length_nil, List.length_cons, Value.cells, List.getElem?_cons_zero, List.getElem?_cons_succ, outE, lks, lkR, rdV, neg1, evs, opt, Nat.reduceAdd, Nat.reduceMul, and_self, reduceCtorEq, List.size_toArray, List.all_cons, List.all_nil, Value.oneCell', List.set_cons_zero, List.set_cons_succ, sets, fillL, Nat.reduceLeDiff, List.drop_succ_cons, List.drop_zero, List.take_succ_cons, List.take_zero, List.toList_toArray, argsE, Array.append_empty, Array.empty_append, List.getElem?_toArray, Int.reduceLT, Int.reduceLE, Int.reduceToNat, Int.reduceEq, Nat.reduceLT, f01', f02', dq, dh, hz1, hz2, hj2, wj, bj, Int.toNat_natCast, Nat.one_mul, rw1, ww, wa, hp2, wp, d2, undef_eq, wq]
    refine ⟨hqR, by omega, a' + 1, bs, by omega, by omega, rfl, hP.old, hP.blk, hP.len, hP.hot, ?_⟩
    have := hP.cnt; omega
  have d2 : decide (w < 200) = true := decide_eq_true hw2
  cases c with
  | true =>
    simp only [↓eD0, ↓eD1, eC0, eC1, eC2, eC3, eC4, eC5, eC6, wantedE, ↓reduceIte, Nat.reduceEqDiff, Option.map_some, Option.map_none, reread, List.nil_append, List.cons_append, List.map_cons, List.map_nil, List.length_nil, List.length_cons, Value.cells, List.getElem?_cons_zero, List.getElem?_cons_succ, outE, lks, lkR, rdV, neg1, evs, opt, Nat.reduceAdd, Nat.reduceMul, and_self, reduceCtorEq, List.size_toArray, List.all_cons, List.all_nil, Value.oneCell', List.set_cons_zero, List.set_cons_succ, sets, fillL, Nat.reduceLeDiff, List.drop_succ_cons, List.drop_zero, List.take_succ_cons, List.take_zero, List.toList_toArray, argsE, Array.append_empty, Array.empty_append, List.getElem?_toArray, Int.reduceLT, Int.reduceLE, Int.reduceToNat, Int.reduceEq, Nat.reduceLT, f01', f02', dq, dh, hz1, hz2, hj2, wj, bj, Int.toNat_natCast, Nat.one_mul, rw1, ww, wa, hp2, wp, d2, bp, hc2, undef_eq, wq]
    refine ⟨hqR, by omega, a' + 1, bs, by omega, by omega, rfl, hP.old, hP.blk, hP.len, hP.hot, ?_⟩
    have := hP.cnt; omega
  | false =>
    obtain ⟨τ3, hw3, hP3⟩ := hP.put hp1 hH64 hc1
    have hct := count_set hc1
    have hcl := List.count_le_length (a := true) (l := bs)
    rw [hP.len] at hcl
    have wn : IntKind.wrap .i64 (((bs.count true : Nat) : Int) + 1) = (((bs.set p true).count true : Nat) : Int) := by rw [wrap64' (by omega) (by omega)]; omega
    simp only [↓eD0, ↓eD1, eC0, eC1, eC2, eC3, eC4, eC5, eC6, wantedE, ↓reduceIte, Nat.reduceEqDiff, Option.map_some, Option.map_none, reread, List.nil_append, List.cons_append, List.map_cons, List.map_nil, List.length_nil, List.length_cons, Value.cells, List.getElem?_cons_zero, List.getElem?_cons_succ, outE, lks, lkR, rdV, neg1, evs, opt, Nat.reduceAdd, Nat.reduceMul, and_self, reduceCtorEq, List.size_toArray, List.all_cons, List.all_nil, Value.oneCell', List.set_cons_zero, List.set_cons_succ, sets, fillL, Nat.reduceLeDiff, List.drop_succ_cons, List.drop_zero, List.take_succ_cons, List.take_zero, List.toList_toArray, argsE, Array.append_empty, Array.empty_append, List.getElem?_toArray, Int.reduceLT, Int.reduceLE, Int.reduceToNat, Int.reduceEq, Nat.reduceLT, f01', f02', dq, dh, hz1, hz2, hj2, wj, bj, Int.toNat_natCast, Nat.one_mul, rw1, ww, wa, hp2, wp, d2, bp, hc2, hw3, wn, undef_eq, wq]
    exact ⟨hqR, by omega, a' + 1, bs.set p true, by omega, by omega, rfl, hP3⟩
end Go.Proofs.Ytianomelnpiffaa
