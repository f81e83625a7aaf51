/- Walks of the functions that the claim reaches. Conditions: none. -/
import Derived.Test.YtianomelnpiffaaPa
set_option linter.all false
set_option linter.unusedSimpArgs false
set_option linter.unusedVariables false
set_option maxRecDepth 10000
set_option maxHeartbeats 1000000
namespace Go.Proofs.Ytianomelnpiffaa
open Go Go.Cn Go.RowKit
attribute [local irreducible] evL sem onG onI onV

/-! ### Maps from integers -/
def IntKeys (es : List MapEntry) : Prop := ∀ e ∈ es, ∃ n, e.key = .int .i64 n
def IntMap (es : Array MapEntry) (f : Int → Option Value) : Prop := IntKeys es.toList ∧ ∀ k : Int, ∃ r, findK (.int .i64 k) es.toList 0 = some r ∧ r.map Prod.snd = f k
theorem leaf_int {a b : Int} : leafEq (.int .i64 a) (.int .i64 b) = some (decide (a = b)) := by simp [leafEq]
theorem findK_app {k k' c : Int} {v : Value} {n : Nat} : ∀ {es : List MapEntry} {j : Nat}, IntKeys es → findK (.int .i64 k') (es ++ [⟨.int .i64 k, v, n⟩]) j =
    match findK (.int .i64 k') es j with | some none => (if k' = k then some (some (j + es.length, v)) else some none) | r => r
  | [], j, _ => by
    simp only [List.nil_append, findK, leaf_int]
    by_cases h : k' = k <;> simp [h]
  | e :: es, j, h => by
    obtain ⟨m, hm⟩ := h e (by simp)
    have ih := findK_app (k := k) (k' := k') (c := c) (v := v) (n := n) (es := es) (j := j + 1) fun x hx => h x (by simp [hx])
    simp only [List.cons_append, findK, hm, leaf_int]
    by_cases hk : k' = m
    · simp [hk]
    · simp only [hk, decide_false]
      rw [ih]
      have : j + 1 + es.length = j + (e :: es).length := by simp; omega
      rw [this]
theorem findK_mod {k k' : Int} {v v0 : Value} : ∀ {es : List MapEntry} {j i : Nat}, IntKeys es → findK (.int .i64 k) es j = some (some (j + i, v0)) →
    findK (.int .i64 k') (es.modify i fun e => { e with key := .int .i64 k, val := v }) j = if k' = k then some (some (j + i, v)) else findK (.int .i64 k') es j
  | [], j, i, _, h => by simp [findK] at h
  | e :: es, j, i, hk, h => by
    obtain ⟨m, hm⟩ := hk e (by simp)
    have hk' : IntKeys es := fun x hx => hk x (by simp [hx])
    simp only [findK, hm, leaf_int] at h
    by_cases hkm : k = m
    · simp only [hkm, decide_true, Option.some.injEq, Prod.mk.injEq] at h
      have : i = 0 := by omega
      subst this
      simp only [List.modify_zero_cons, findK, hm, leaf_int, hkm]
      by_cases h' : k' = m <;> simp [h']
    · simp only [hkm, decide_false] at h
      have hb : ∀ {es : List MapEntry} {j i : Nat} {w : Value}, findK (.int .i64 k) es j = some (some (i, w)) → j ≤ i := by
        intro es
        induction es with
        | nil => intro j i w h; simp [findK] at h
        | cons x es ih =>
          intro j i w h
          simp only [findK] at h
          split at h
          · injection h with h; injection h with h; injection h with h _; omega
          · have := ih h; omega
          · cases h
      have hji := hb h
      obtain ⟨i', rfl⟩ : ∃ i', i = i' + 1 := ⟨i - 1, by omega⟩
      have ih := findK_mod (k := k) (k' := k') (v := v) (v0 := v0) (es := es) (j := j + 1) (i := i') hk' (by rw [h]; congr 3; omega)
      simp only [List.modify_succ_cons, findK, hm, leaf_int]
      by_cases h' : k' = m
      · have : k' ≠ k := by omega
        have h2 : ¬ m = k := by omega
        simp [h', h2]
      · simp only [h', decide_false]
        rw [ih]
        have : j + 1 + i' = j + (i' + 1) := by omega
        rw [this]
theorem intKeys_mod {es : List MapEntry} {i : Nat} {k : Int} {v : Value} (h : IntKeys es) : IntKeys (es.modify i fun e => { e with key := .int .i64 k, val := v }) := by
  intro e he
  obtain ⟨j, hj⟩ := List.getElem?_of_mem he
  rw [List.getElem?_modify] at hj
  cases hx : es[j]? with
  | none => rw [hx] at hj; simp at hj
  | some x =>
    rw [hx] at hj
    have hj : (if i = j then ({ x with key := .int .i64 k, val := v } : MapEntry) else x) = e := by simpa using hj
    split at hj
    · exact ⟨k, by rw [← hj]⟩
    · rw [← hj]; exact h x (List.mem_of_getElem? hx)
theorem intMap_empty : IntMap #[] fun _ => none := ⟨fun e he => by simp at he, fun k => ⟨none, by simp [findK], rfl⟩⟩
theorem map_put {σ : H} {b ver clock : Nat} {es : Array MapEntry} {f : Int → Option Value} {k : Int} {v : Value} (hm : IntMap es f) (hb : σ[b]? = some (.map ver es clock)) :
    ∃ es' clock', mapPut (.int .i64) (.map (some b)) (.int .i64 k) v σ = some (σ.setIfInBounds b (.map (ver + 1) es' clock')) ∧ IntMap es' fun k' => if k' = k then some v else f k' := by
  obtain ⟨hk, hf⟩ := hm
  obtain ⟨r, h1, h2⟩ := hf k
  have fits : Leaf.fits (.int .i64) (.int .i64 k) = true := by simp [Leaf.fits]
  cases r with
  | none =>
    refine ⟨es.push { key := .int .i64 k, val := v, born := clock }, clock + 1, by simp only [mapPut, hb, fits, if_true, h1], ?_, fun k' => ?_⟩
    · intro e he
      rw [Array.toList_push] at he
      rcases List.mem_append.1 he with he | he
      · exact hk e he
      · simp at he; exact ⟨k, by rw [he]⟩
    · obtain ⟨r', g1, g2⟩ := hf k'
      rw [Array.toList_push, findK_app (c := 0) hk, g1]
      cases r' with
      | none =>
        by_cases hkk : k' = k
        · exact ⟨_, by rw [if_pos hkk], by simp [hkk]⟩
        · exact ⟨_, by rw [if_neg hkk], by show _ = (if k' = k then some v else f k'); rw [if_neg hkk, ← g2]⟩
      | some q =>
        have hkk : k' ≠ k := by
          intro h; subst h; rw [h1] at g1; cases g1
        exact ⟨_, rfl, by show _ = (if k' = k then some v else f k'); rw [if_neg hkk, ← g2]⟩
  | some q =>
    obtain ⟨i, v0⟩ := q
    refine ⟨es.modify i fun e => { e with key := .int .i64 k, val := v }, clock, by simp only [mapPut, hb, fits, if_true, h1], ?_, fun k' => ?_⟩
    · rw [Array.toList_modify]; exact intKeys_mod hk
    · obtain ⟨r', g1, g2⟩ := hf k'
      rw [Array.toList_modify, findK_mod (v0 := v0) (j := 0) (i := i) hk (by rw [h1, Nat.zero_add])]
      by_cases hkk : k' = k
      · exact ⟨_, by rw [if_pos hkk], by simp [hkk]⟩
      · exact ⟨r', by rw [if_neg hkk, g1], by show _ = (if k' = k then some v else f k'); rw [if_neg hkk, ← g2]⟩
theorem map_get {σ : H} {b ver clock : Nat} {es : Array MapEntry} {f : Int → Option Value} {k : Int} {z : Value} (hm : IntMap es f) (hb : σ[b]? = some (.map ver es clock)) :
    lookupV (.int .i64) z false (.map (some b)) (.int .i64 k) σ = some ((f k).getD z) := by
  obtain ⟨r, h1, h2⟩ := hm.2 k
  have fits : Leaf.fits (.int .i64) (.int .i64 k) = true := by simp [Leaf.fits]
  simp only [lookupV, mapOf, hb, fits, if_true, h1]
  cases r with
  | none => rw [← h2]; rfl
  | some q => rw [← h2]; rfl


/-! ### What plans cost -/
def waitF (l : Ln) : Int := 2 * l.d + 1
def costF (g : Ld) (l : Ln) (p : Pl) : Bd :=
  if p.m = 1 then ⟨timeF l (dirtyF g l p.r.toNat) + g.s, sumI (dirtyL g l p.r.toNat), 0⟩
  else if p.m = 2 then ⟨l.d + g.s, g.p, g.h * waitF l⟩
  else ⟨l.d + g.s, sumI (dirtyL g l 1), dirtyF g l 1 * waitF l⟩
def plansL : List Pl := (List.range 16).map (fun i : Nat => (⟨1, (i : Int) + 1⟩ : Pl)) ++ [⟨2, 0⟩, ⟨3, 0⟩]
theorem plans_pre {p : Pl} (h : p ∈ plansL) : (p.m = 1 ∧ 1 ≤ p.r ∧ p.r ≤ 16) ∨ (p = ⟨2, 0⟩) ∨ (p = ⟨3, 0⟩) := by
  unfold plansL at h
  rcases List.mem_append.1 h with h | h
  · obtain ⟨i, hi, rfl⟩ := List.mem_map.1 h
    rw [List.mem_range] at hi
    exact .inl ⟨rfl, by show (1:Int) ≤ (i:Int) + 1; omega, by show (i:Int) + 1 ≤ 16; omega⟩
  · simp at h
    rcases h with h | h
    · exact .inr (.inl h)
    · exact .inr (.inr h)
theorem pre_plans {p : Pl} (h : (p.m = 1 ∧ 1 ≤ p.r ∧ p.r ≤ 16) ∨ (p = ⟨2, 0⟩) ∨ (p = ⟨3, 0⟩)) : p ∈ plansL := by
  unfold plansL
  rcases h with ⟨h1, h2, h3⟩ | rfl | rfl
  · refine List.mem_append_left _ (List.mem_map.2 ⟨(p.r - 1).toNat, by rw [List.mem_range]; omega, ?_⟩)
    obtain ⟨m, r⟩ := p
    simp only at h1 h2 h3 ⊢
    subst h1
    congr 1
    omega
  · exact List.mem_append_right _ (by simp)
  · exact List.mem_append_right _ (by simp)
theorem dirtyL_small {g : Ld} {l : Ln} {k : Nat} (h : OkF g l) : ∀ x ∈ dirtyL g l k, 0 ≤ x ∧ x ≤ 64 := by
  intro x hx
  obtain ⟨i, _, rfl⟩ := List.mem_map.1 hx
  exact dirty_le h i

theorem pre_app {g : Ld} {l : Ln} {k b : Nat} {σ : H} (h : OkF g l) (hk : k ≤ 16) (hb : rdN σ ⟨b, 0, none⟩ 6 = some (mvV g l)) : App Try.prog (.func 34) #[.pointer (some ⟨b, 0, none⟩)] #[.int .i64 k] σ fun v σ' => Old σ σ' ∧ v = .agg #[.int .i64 (timeF l (dirtyF g l k) + g.s), .int .i64 (sumI (dirtyL g l k)), .int .i64 0] := by
  refine App.of_sem mixed Try.func34 t34 k34 r34 (Nat.le_of_ble_eq_true rfl) ?_
  rw [← ap_nil (σ := σ)]
  have f0 : ∀ τ, Old σ τ → rdN τ ⟨b, 0, none⟩ 6 = some (mvV g l) := fun τ ho => rdN_Old ho hb
  have f1 : ∀ τ, Old σ τ → rd1 τ ⟨b, 3, none⟩ = some (.int .i64 g.s) := fun τ ho => by simpa using rd1_row (f0 τ ho) (j := 3) rfl
  unfold s34
  have f00 := fun L => f0 (ap σ L) .ap
  simp only [↓eD0, ↓eD1, eC0, eC1, eC2, eC3, eC4, eC5, eC6, wantedE, ↓reduceIte, Nat.reduceEqDiff, Option.map_some, Option.map_none, reread, List.nil_append, List.cons_append, List.map_cons, List.map_nil, List.length_nil, List.length_cons, Value.cells, List.getElem?_cons_zero, List.getElem?_cons_succ, outE, lks, lkR, rdV, neg1, evs, opt, Nat.reduceAdd, Nat.reduceMul, and_self, reduceCtorEq, List.size_toArray, List.all_cons, List.all_nil, Value.oneCell', List.set_cons_zero, List.set_cons_succ, sets, fillL, Nat.reduceLeDiff, List.drop_succ_cons, List.drop_zero, List.take_succ_cons, List.take_zero, List.toList_toArray, argsE, Array.append_empty, Array.empty_append, List.getElem?_toArray, Int.reduceLT, Int.reduceLE, Int.reduceToNat, Int.reduceEq, Nat.reduceLT, f00, mvV]
  refine appK_of (dirty23_app (g := g) (l := l) (k := k) h (by omega)) ?_
  rintro v τ ⟨ho, hr⟩
  have hoτ : Old σ τ := Old.ap.trans ho
  obtain ⟨vb, vc, rfl⟩ := hr.slice
  simp only [List.length_map] at hr ⊢
  rw [dirtyL_len] at hr ⊢
  obtain ⟨b2, off, hbe, h1⟩ := hr.at (i := k) (x := intV (dirtyF g l k)) (by simp [dirtyL_get])
  subst hbe
  have hd := dirty_le h k
  have ht := time_le h.pos hd.1 (by omega)
  have hs := h.1.2.2.2
  have g3 : ∀ L, rd1 (ap τ L) ⟨b2, off + k, none⟩ = some (.int .i64 (dirtyF g l k)) := fun L => rd1_old (by simpa using rd1_row h1 (j := 0) rfl)
  have hbb : (0:Int) ≤ (k:Int) ∧ (k:Int) < ((k + 1 : Nat) : Int) := by omega
  have f01 := fun L => f0 (ap τ L) (hoτ.trans .ap)
  have f11 := fun L => f1 (ap τ L) (hoτ.trans .ap)
  have wt : IntKind.wrap .i64 (timeF l (dirtyF g l k) + g.s) = timeF l (dirtyF g l k) + g.s := wrap64' (by omega) (by omega)
  have p3 : τ[σ.size]? = some (.cells 0 [.int .i64 0, .int .i64 0, .int .i64 0] (0, 0)) := (ho.2 _ (by simp [ap_size])).trans ap_new0
  have z3 := (Array.getElem?_eq_some_iff.1 p3).1
  have w3 : ∀ L a b c, wrN (ap τ L) ⟨σ.size, 0, none⟩ [.int .i64 a, .int .i64 b, .int .i64 c] = some ((ap τ L).setIfInBounds σ.size (.cells 1 [.int .i64 a, .int .i64 b, .int .i64 c] (0, 0))) := fun L a b c => by
    rw [wrN_eq, if_neg (by simp), ap_old z3, p3, wrc_cells]; rfl
  have f3 : ∀ L a b c, rdN ((ap τ L).setIfInBounds σ.size (.cells 1 [.int .i64 a, .int .i64 b, .int .i64 c] (0, 0))) ⟨σ.size, 0, none⟩ 3 = some [.int .i64 a, .int .i64 b, .int .i64 c] := fun L a b c => rdN_all (get_set ((ap_old z3).trans p3)) rfl
  rw [← ap_nil (σ := τ)]
  simp only [↓eD0, ↓eD1, eC0, eC1, eC2, eC3, eC4, eC5, eC6, wantedE, ↓reduceIte, Nat.reduceEqDiff, Option.map_some, Option.map_none, reread, List.nil_append, List.cons_append, List.map_cons, List.map_nil, List.length_nil, List.length_cons, Value.cells, List.getElem?_cons_zero, List.getElem?_cons_succ, outE, lks, lkR, rdV, neg1, evs, opt, Nat.reduceAdd, Nat.reduceMul, and_self, reduceCtorEq, List.size_toArray, List.all_cons, List.all_nil, Value.oneCell', List.set_cons_zero, List.set_cons_succ, sets, fillL, Nat.reduceLeDiff, List.drop_succ_cons, List.drop_zero, List.take_succ_cons, List.take_zero, List.toList_toArray, argsE, Array.append_empty, Array.empty_append, List.getElem?_toArray, Int.reduceLT, Int.reduceLE, Int.reduceToNat, Int.reduceEq, Nat.reduceLT, f01, f11, mvV, hbb, Int.toNat_natCast, g3]
  refine appK_of (time32_app (g := g) h.pos hd.1 (by omega)) ?_
  rintro _ _ ⟨e2, rfl⟩
  rw [e2]
  clear e2
  simp only [↓eD0, ↓eD1, eC0, eC1, eC2, eC3, eC4, eC5, eC6, wantedE, ↓reduceIte, Nat.reduceEqDiff, Option.map_some, Option.map_none, reread, List.nil_append, List.cons_append, List.map_cons, List.map_nil, List.length_nil, List.length_cons, Value.cells, List.getElem?_cons_zero, List.getElem?_cons_succ, outE, lks, lkR, rdV, neg1, evs, opt, Nat.reduceAdd, Nat.reduceMul, and_self, reduceCtorEq, List.size_toArray, List.all_cons, List.all_nil, Value.oneCell', List.set_cons_zero, List.set_cons_succ, sets, fillL, Nat.reduceLeDiff, List.drop_succ_cons, List.drop_zero, List.take_succ_cons, List.take_zero, List.toList_toArray, argsE, Array.append_empty, Array.empty_append, List.getElem?_toArray, Int.reduceLT, Int.reduceLE, Int.reduceToNat, Int.reduceEq, Nat.reduceLT, f11, wt]
  refine appK_of (sum35_app (L := dirtyL g l k) (by rw [ap_nil]; simpa [dirtyL_len] using hr) (dirtyL_small h) (by rw [dirtyL_len]; omega)) ?_
  rintro _ _ ⟨e2, rfl⟩
  rw [e2]
  clear e2
  simp only [↓eD0, ↓eD1, eC0, eC1, eC2, eC3, eC4, eC5, eC6, wantedE, ↓reduceIte, Nat.reduceEqDiff, Option.map_some, Option.map_none, reread, List.nil_append, List.cons_append, List.map_cons, List.map_nil, List.length_nil, List.length_cons, Value.cells, List.getElem?_cons_zero, List.getElem?_cons_succ, outE, lks, lkR, rdV, neg1, evs, opt, Nat.reduceAdd, Nat.reduceMul, and_self, reduceCtorEq, List.size_toArray, List.all_cons, List.all_nil, Value.oneCell', List.set_cons_zero, List.set_cons_succ, sets, fillL, Nat.reduceLeDiff, List.drop_succ_cons, List.drop_zero, List.take_succ_cons, List.take_zero, List.toList_toArray, argsE, Array.append_empty, Array.empty_append, List.getElem?_toArray, Int.reduceLT, Int.reduceLE, Int.reduceToNat, Int.reduceEq, Nat.reduceLT, f11, w3, f3]
  rw [ap_nil]
  exact (hoτ.trans .ap).set (Nat.le_refl _)

theorem wait_le {l : Ln} (h : Pos l) {n : Int} (h0 : 0 ≤ n) (h1 : n ≤ 64) : 1 ≤ waitF l ∧ waitF l ≤ 2100000 ∧ 0 ≤ n * waitF l ∧ n * waitF l ≤ 134400000 := by
  obtain ⟨a, b, c, d⟩ := h
  have hw : 1 ≤ waitF l ∧ waitF l ≤ 2100000 := by unfold waitF; omega
  refine ⟨hw.1, hw.2, Int.mul_nonneg h0 (by omega), ?_⟩
  have : n * waitF l ≤ 64 * 2100000 := Int.le_trans (Int.mul_le_mul_of_nonneg_right h1 (by omega)) (Int.mul_le_mul_of_nonneg_left hw.2 (by omega))
  omega

theorem post_app {g : Ld} {l : Ln} {k : Int} {b b3 b4 : Nat} {σ : H} (h : OkF g l) (hb : rdN σ ⟨b, 0, none⟩ 6 = some (mvV g l)) (h3 : rd1 σ ⟨b3, 0, none⟩ = some (.int .i64 (waitF l))) (h4 : rd1 σ ⟨b4, 0, none⟩ = some (.int .i64 (l.d + g.s))) :
    App Try.prog (.func 36) #[.pointer (some ⟨b4, 0, none⟩), .pointer (some ⟨b, 0, none⟩), .pointer (some ⟨b3, 0, none⟩)] #[.int .i64 k] σ fun v σ' => Old σ σ' ∧ v = .agg #[.int .i64 (l.d + g.s), .int .i64 g.p, .int .i64 (g.h * waitF l)] := by
  refine App.of_sem mixed Try.func36 t36 k36 r36 (Nat.le_of_ble_eq_true rfl) ?_
  have hw := wait_le h.pos (n := g.h) h.1.2.1.1 (by have := h.1.2.1.2; have := h.1.1; omega)
  have wm : IntKind.wrap .i64 (g.h * waitF l) = g.h * waitF l := wrap64' (by omega) (by omega)
  have f1 : ∀ L, rd1 (ap σ L) ⟨b, 0, none⟩ = some (.int .i64 g.p) := fun L => rd1_old (by simpa using rd1_row hb (j := 0) rfl)
  have f2 : ∀ L, rd1 (ap σ L) ⟨b, 1, none⟩ = some (.int .i64 g.h) := fun L => rd1_old (by simpa using rd1_row hb (j := 1) rfl)
  have f3 : ∀ L, rd1 (ap σ L) ⟨b3, 0, none⟩ = some (.int .i64 (waitF l)) := fun L => rd1_old h3
  have f4 : ∀ L, rd1 (ap σ L) ⟨b4, 0, none⟩ = some (.int .i64 (l.d + g.s)) := fun L => rd1_old h4
  rw [← ap_nil (σ := σ)]
  unfold s36
  simp only [↓eD0, ↓eD1, eC0, eC1, eC2, eC3, eC4, eC5, eC6, wantedE, ↓reduceIte, Nat.reduceEqDiff, Option.map_some, Option.map_none, reread, List.nil_append, List.cons_append, List.map_cons, List.map_nil, List.length_nil, List.length_cons, Value.cells, List.getElem?_cons_zero, List.getElem?_cons_succ, outE, lks, lkR, rdV, neg1, evs, opt, Nat.reduceAdd, Nat.reduceMul, and_self, reduceCtorEq, List.size_toArray, List.all_cons, List.all_nil, Value.oneCell', List.set_cons_zero, List.set_cons_succ, sets, fillL, Nat.reduceLeDiff, List.drop_succ_cons, List.drop_zero, List.take_succ_cons, List.take_zero, List.toList_toArray, argsE, Array.append_empty, Array.empty_append, List.getElem?_toArray, Int.reduceLT, Int.reduceLE, Int.reduceToNat, Int.reduceEq, Nat.reduceLT, f1, f2, f3, f4, wm]
  rw [ap_nil]
  exact .ap

theorem mixed_app {g : Ld} {l : Ln} {k : Int} {b b3 b4 : Nat} {σ : H} (h : OkF g l) (hb : rdN σ ⟨b, 0, none⟩ 6 = some (mvV g l)) (h3 : rd1 σ ⟨b3, 0, none⟩ = some (.int .i64 (waitF l))) (h4 : rd1 σ ⟨b4, 0, none⟩ = some (.int .i64 (l.d + g.s))) :
    App Try.prog (.func 37) #[.pointer (some ⟨b, 0, none⟩), .pointer (some ⟨b4, 0, none⟩), .pointer (some ⟨b3, 0, none⟩)] #[.int .i64 k] σ fun v σ' => Old σ σ' ∧ v = .agg #[.int .i64 (l.d + g.s), .int .i64 (sumI (dirtyL g l 1)), .int .i64 (dirtyF g l 1 * waitF l)] := by
  refine App.of_sem mixed Try.func37 t37 k37 r37 (Nat.le_of_ble_eq_true rfl) ?_
  have hd := dirty_le h 1
  have hw := wait_le h.pos (n := dirtyF g l 1) hd.1 hd.2
  have wm : IntKind.wrap .i64 (dirtyF g l 1 * waitF l) = dirtyF g l 1 * waitF l := wrap64' (by omega) (by omega)
  have f0 : ∀ τ, Old σ τ → rdN τ ⟨b, 0, none⟩ 6 = some (mvV g l) := fun τ ho => rdN_Old ho hb
  have f3 : ∀ τ, Old σ τ → rd1 τ ⟨b3, 0, none⟩ = some (.int .i64 (waitF l)) := fun τ ho => rd1_Old ho h3
  have f4 : ∀ τ, Old σ τ → rd1 τ ⟨b4, 0, none⟩ = some (.int .i64 (l.d + g.s)) := fun τ ho => rd1_Old ho h4
  have f00 := fun L => f0 (ap σ L) .ap
  rw [← ap_nil (σ := σ)]
  unfold s37
  simp only [↓eD0, ↓eD1, eC0, eC1, eC2, eC3, eC4, eC5, eC6, wantedE, ↓reduceIte, Nat.reduceEqDiff, Option.map_some, Option.map_none, reread, List.nil_append, List.cons_append, List.map_cons, List.map_nil, List.length_nil, List.length_cons, Value.cells, List.getElem?_cons_zero, List.getElem?_cons_succ, outE, lks, lkR, rdV, neg1, evs, opt, Nat.reduceAdd, Nat.reduceMul, and_self, reduceCtorEq, List.size_toArray, List.all_cons, List.all_nil, Value.oneCell', List.set_cons_zero, List.set_cons_succ, sets, fillL, Nat.reduceLeDiff, List.drop_succ_cons, List.drop_zero, List.take_succ_cons, List.take_zero, List.toList_toArray, argsE, Array.append_empty, Array.empty_append, List.getElem?_toArray, Int.reduceLT, Int.reduceLE, Int.reduceToNat, Int.reduceEq, Nat.reduceLT, f00, mvV]
  refine appK_of (dirty23_app (g := g) (l := l) (k := 1) h (by omega)) ?_
  rintro v τ ⟨ho, hr⟩
  have hoτ : Old σ τ := Old.ap.trans ho
  obtain ⟨vb, vc, rfl⟩ := hr.slice
  simp only [List.length_map] at hr ⊢
  rw [dirtyL_len] at hr ⊢
  obtain ⟨b2, off, hbe, h1⟩ := hr.at (i := 1) (x := intV (dirtyF g l 1)) (by simp [dirtyL_get])
  subst hbe
  have g3 : ∀ L, rd1 (ap τ L) ⟨b2, off + 1, none⟩ = some (.int .i64 (dirtyF g l 1)) := fun L => rd1_old (by simpa using rd1_row h1 (j := 0) rfl)
  have hbb : (0:Int) ≤ (1:Int) ∧ (1:Int) < ((1 + 1 : Nat) : Int) := by omega
  have f3' := fun L => f3 (ap τ L) (hoτ.trans .ap)
  have f4' := fun L => f4 (ap τ L) (hoτ.trans .ap)
  have p3 : τ[σ.size]? = some (.cells 0 [.int .i64 0, .int .i64 0, .int .i64 0] (0, 0)) := (ho.2 _ (by simp [ap_size])).trans ap_new0
  have z3 := (Array.getElem?_eq_some_iff.1 p3).1
  have w3 : ∀ L a b c, wrN (ap τ L) ⟨σ.size, 0, none⟩ [.int .i64 a, .int .i64 b, .int .i64 c] = some ((ap τ L).setIfInBounds σ.size (.cells 1 [.int .i64 a, .int .i64 b, .int .i64 c] (0, 0))) := fun L a b c => by
    rw [wrN_eq, if_neg (by simp), ap_old z3, p3, wrc_cells]; rfl
  have f5 : ∀ L a b c, rdN ((ap τ L).setIfInBounds σ.size (.cells 1 [.int .i64 a, .int .i64 b, .int .i64 c] (0, 0))) ⟨σ.size, 0, none⟩ 3 = some [.int .i64 a, .int .i64 b, .int .i64 c] := fun L a b c => rdN_all (get_set ((ap_old z3).trans p3)) rfl
  have t1 : (1:Int).toNat = 1 := rfl
  rw [← ap_nil (σ := τ)]
  simp only [↓eD0, ↓eD1, eC0, eC1, eC2, eC3, eC4, eC5, eC6, wantedE, ↓reduceIte, Nat.reduceEqDiff, Option.map_some, Option.map_none, reread, List.nil_append, List.cons_append, List.map_cons, List.map_nil, List.length_nil, List.length_cons, Value.cells, List.getElem?_cons_zero, List.getElem?_cons_succ, outE, lks, lkR, rdV, neg1, evs, opt, Nat.reduceAdd, Nat.reduceMul, and_self, reduceCtorEq, List.size_toArray, List.all_cons, List.all_nil, Value.oneCell', List.set_cons_zero, List.set_cons_succ, sets, fillL, Nat.reduceLeDiff, List.drop_succ_cons, List.drop_zero, List.take_succ_cons, List.take_zero, List.toList_toArray, argsE, Array.append_empty, Array.empty_append, List.getElem?_toArray, Int.reduceLT, Int.reduceLE, Int.reduceToNat, Int.reduceEq, Nat.reduceLT, f3', f4', hbb, t1, g3, Nat.one_mul, wm]
  refine appK_of (sum35_app (L := dirtyL g l 1) (by rw [ap_nil]; simpa [dirtyL_len] using hr) (dirtyL_small h) (by rw [dirtyL_len]; omega)) ?_
  rintro _ _ ⟨e2, rfl⟩
  rw [e2]
  clear e2
  simp only [↓eD0, ↓eD1, eC0, eC1, eC2, eC3, eC4, eC5, eC6, wantedE, ↓reduceIte, Nat.reduceEqDiff, Option.map_some, Option.map_none, reread, List.nil_append, List.cons_append, List.map_cons, List.map_nil, List.length_nil, List.length_cons, Value.cells, List.getElem?_cons_zero, List.getElem?_cons_succ, outE, lks, lkR, rdV, neg1, evs, opt, Nat.reduceAdd, Nat.reduceMul, and_self, reduceCtorEq, List.size_toArray, List.all_cons, List.all_nil, Value.oneCell', List.set_cons_zero, List.set_cons_succ, sets, fillL, Nat.reduceLeDiff, List.drop_succ_cons, List.drop_zero, List.take_succ_cons, List.take_zero, List.toList_toArray, argsE, Array.append_empty, Array.empty_append, List.getElem?_toArray, Int.reduceLT, Int.reduceLE, Int.reduceToNat, Int.reduceEq, Nat.reduceLT, f3', f4', g3, w3, f5]
  rw [ap_nil]
  exact (hoτ.trans .ap).set (Nat.le_refl _)
end Go.Proofs.Ytianomelnpiffaa

set_option linter.unusedSimpArgs false
set_option linter.unusedVariables false
set_option maxRecDepth 10000
set_option maxHeartbeats 1000000
namespace Go.Proofs.Ytianomelnpiffaa
open Go Go.Cn Go.RowKit
attribute [local irreducible] evL sem onG onI onV

/-- The map of what the modes cost. -/
def IsModes (n0 : Nat) (σ : H) (mv : Value) (g : Ld) (l : Ln) : Prop :=
  ∀ τ : H, (∀ c, n0 ≤ c → c < σ.size → τ[c]? = σ[c]?) → ∀ p ∈ plansL, ∃ f cap, lookupV (.int .i64) .nilFunc false mv (.int .i64 p.m) τ = some (.func (.func f) #[] cap) ∧
    App Try.prog (.func f) cap #[.int .i64 p.r] τ fun v τ' => Old τ τ' ∧ v = .agg #[.int .i64 (costF g l p).d, .int .i64 (costF g l p).v, .int .i64 (costF g l p).s]

theorem modes_app {g : Ld} {l : Ln} {σ : H} (h : OkF g l) : App Try.prog (.func 25) #[] #[.agg (mvV g l).toArray] σ fun v σ' => Old σ σ' ∧ (∃ b, v = .map (some b)) ∧ IsModes σ.size σ' v g l := by
  refine App.of_sem mixed Try.func25 t25 k25 r25 (Nat.le_of_ble_eq_true rfl) ?_
  obtain ⟨a1, a2, a3, a4⟩ := h.pos
  have hs := h.1.2.2.2
  have w1 : IntKind.wrap .i64 (2 * l.d) = 2 * l.d := wrap64' (by omega) (by omega)
  have w2 : IntKind.wrap .i64 (2 * l.d + 1) = waitF l := wrap64' (by omega) (by omega)
  have w3 : IntKind.wrap .i64 (l.d + g.s) = l.d + g.s := wrap64' (by omega) (by omega)
  rw [← ap_nil (σ := σ)]
  unfold s25
  simp only [↓eD0, ↓eD1, eC0, eC1, eC2, eC3, eC4, eC5, eC6, wantedE, ↓reduceIte, Nat.reduceEqDiff, Option.map_some, Option.map_none, reread, List.nil_append, List.cons_append, List.map_cons, List.map_nil, List.length_nil, List.length_cons, Value.cells, List.getElem?_cons_zero, List.getElem?_cons_succ, outE, lks, lkR, rdV, neg1, evs, opt, Nat.reduceAdd, Nat.reduceMul, and_self, reduceCtorEq, List.size_toArray, List.all_cons, List.all_nil, Value.oneCell', List.set_cons_zero, List.set_cons_succ, sets, fillL, Nat.reduceLeDiff, List.drop_succ_cons, List.drop_zero, List.take_succ_cons, List.take_zero, List.toList_toArray, argsE, Array.append_empty, Array.empty_append, List.getElem?_toArray, Int.reduceLT, Int.reduceLE, Int.reduceToNat, Int.reduceEq, Nat.reduceLT, mvV, w1, w2, w3]
  generalize hT : ap σ [.cells 0 [.int .i64 g.p, .int .i64 g.h, .int .i64 g.r, .int .i64 g.s, .int .i64 l.p, .int .i64 l.d] (0, 0), .cells 1 [.int .i64 (waitF l)] (0, 0), .cells 1 [.int .i64 (l.d + g.s)] (0, 0), .map 0 #[] 0] = T
  have ho : Old σ T := hT ▸ .ap
  have q0 : T[σ.size]? = some (.cells 0 (mvV g l) (0, 0)) := by rw [← hT]; exact ap_new0
  have q1 : T[σ.size + 1]? = some (.cells 1 [.int .i64 (waitF l)] (0, 0)) := by rw [← hT]; exact ap_new
  have q2 : T[σ.size + 2]? = some (.cells 1 [.int .i64 (l.d + g.s)] (0, 0)) := by rw [← hT]; exact ap_new
  have q3 : T[σ.size + 3]? = some (.map 0 #[] 0) := by rw [← hT]; exact ap_new
  clear hT
  obtain ⟨es1, c1, m1, i1⟩ := map_put (k := 1) (v := .func (.func 34) #[] #[.pointer (some ⟨σ.size, 0, none⟩)]) intMap_empty q3
  have q3' := get_set (k := .map (0 + 1) es1 c1) q3
  obtain ⟨es2, c2, m2, i2⟩ := map_put (k := 2) (v := .func (.func 36) #[] #[.pointer (some ⟨σ.size + 2, 0, none⟩), .pointer (some ⟨σ.size, 0, none⟩), .pointer (some ⟨σ.size + 1, 0, none⟩)]) i1 q3'
  have q3'' := get_set (k := .map (0 + 1 + 1) es2 c2) q3'
  obtain ⟨es3, c3, m3, i3⟩ := map_put (k := 3) (v := .func (.func 37) #[] #[.pointer (some ⟨σ.size, 0, none⟩), .pointer (some ⟨σ.size + 2, 0, none⟩), .pointer (some ⟨σ.size + 1, 0, none⟩)]) i2 q3''
  have q3''' := get_set (k := .map (0 + 1 + 1 + 1) es3 c3) q3''
  simp only [↓eD0, ↓eD1, eC0, eC1, eC2, eC3, eC4, eC5, eC6, wantedE, ↓reduceIte, Nat.reduceEqDiff, Option.map_some, Option.map_none, reread, List.nil_append, List.cons_append, List.map_cons, List.map_nil, List.length_nil, List.length_cons, Value.cells, List.getElem?_cons_zero, List.getElem?_cons_succ, outE, lks, lkR, rdV, neg1, evs, opt, Nat.reduceAdd, Nat.reduceMul, and_self, reduceCtorEq, List.size_toArray, List.all_cons, List.all_nil, Value.oneCell', List.set_cons_zero, List.set_cons_succ, sets, fillL, Nat.reduceLeDiff, List.drop_succ_cons, List.drop_zero, List.take_succ_cons, List.take_zero, List.toList_toArray, argsE, Array.append_empty, Array.empty_append, List.getElem?_toArray, Int.reduceLT, Int.reduceLE, Int.reduceToNat, Int.reduceEq, Nat.reduceLT, m1, m2, m3]
  have hS : ∀ k1 k2 k3 : Blk, Old σ (((T.setIfInBounds (σ.size + 3) k1).setIfInBounds (σ.size + 3) k2).setIfInBounds (σ.size + 3) k3) ∧ (((T.setIfInBounds (σ.size + 3) k1).setIfInBounds (σ.size + 3) k2).setIfInBounds (σ.size + 3) k3)[σ.size]? = some (.cells 0 (mvV g l) (0, 0)) ∧
      (((T.setIfInBounds (σ.size + 3) k1).setIfInBounds (σ.size + 3) k2).setIfInBounds (σ.size + 3) k3)[σ.size + 1]? = some (.cells 1 [.int .i64 (waitF l)] (0, 0)) ∧ (((T.setIfInBounds (σ.size + 3) k1).setIfInBounds (σ.size + 3) k2).setIfInBounds (σ.size + 3) k3)[σ.size + 2]? = some (.cells 1 [.int .i64 (l.d + g.s)] (0, 0)) := fun k1 k2 k3 =>
    ⟨((ho.set (by omega)).set (by omega)).set (by omega), by rw [get_set_ne (by omega), get_set_ne (by omega), get_set_ne (by omega)]; exact q0,
      by rw [get_set_ne (by omega), get_set_ne (by omega), get_set_ne (by omega)]; exact q1, by rw [get_set_ne (by omega), get_set_ne (by omega), get_set_ne (by omega)]; exact q2⟩
  obtain ⟨o3, x0, x1, x2⟩ := hS (.map (0 + 1) es1 c1) (.map (0 + 1 + 1) es2 c2) (.map (0 + 1 + 1 + 1) es3 c3)
  generalize ((T.setIfInBounds (σ.size + 3) (.map (0 + 1) es1 c1)).setIfInBounds (σ.size + 3) (.map (0 + 1 + 1) es2 c2)).setIfInBounds (σ.size + 3) (.map (0 + 1 + 1 + 1) es3 c3) = T3 at o3 x0 x1 x2 q3'''
  refine ⟨by rw [ap_nil]; exact o3, ⟨_, rfl⟩, fun τ hτ p hp => ?_⟩
  have lt3 : σ.size + 3 < T3.size := (Array.getElem?_eq_some_iff.1 q3''').1
  have y3 : τ[σ.size + 3]? = some (.map (0 + 1 + 1 + 1) es3 c3) := (hτ _ (by omega) lt3).trans q3'''
  have y0 : rdN τ ⟨σ.size, 0, none⟩ 6 = some (mvV g l) := rdN_all ((hτ _ (by omega) (by omega)).trans x0) rfl
  have y1 : rd1 τ ⟨σ.size + 1, 0, none⟩ = some (.int .i64 (waitF l)) := by rw [rd1_eq, (hτ _ (by omega) (by omega)).trans x1]; rfl
  have y2 : rd1 τ ⟨σ.size + 2, 0, none⟩ = some (.int .i64 (l.d + g.s)) := by rw [rd1_eq, (hτ _ (by omega) (by omega)).trans x2]; rfl
  have hlk := fun k => map_get (k := k) (z := .nilFunc) i3 y3
  rcases plans_pre hp with ⟨hm, h1, h2⟩ | rfl | rfl
  · obtain ⟨n, hn⟩ : ∃ n : Nat, p.r = (n : Int) := ⟨p.r.toNat, by omega⟩
    refine ⟨34, #[.pointer (some ⟨σ.size, 0, none⟩)], ?_, ?_⟩
    · rw [hlk, hm]; rfl
    · rw [hn]
      refine (pre_app (g := g) (l := l) (k := n) (b := σ.size) h (by omega) y0).mono fun v τ' ⟨z1, z2⟩ => ⟨z1, ?_⟩
      rw [z2, costF, if_pos hm, hn]
      rfl
  · refine ⟨36, #[.pointer (some ⟨σ.size + 2, 0, none⟩), .pointer (some ⟨σ.size, 0, none⟩), .pointer (some ⟨σ.size + 1, 0, none⟩)], ?_, ?_⟩
    · rw [hlk]; rfl
    · exact (post_app (g := g) (l := l) (k := 0) h y0 y1 y2).mono fun v τ' ⟨z1, z2⟩ => ⟨z1, z2⟩
  · refine ⟨37, #[.pointer (some ⟨σ.size, 0, none⟩), .pointer (some ⟨σ.size + 2, 0, none⟩), .pointer (some ⟨σ.size + 1, 0, none⟩)], ?_, ?_⟩
    · rw [hlk]; rfl
    · exact (mixed_app (g := g) (l := l) (k := 0) h y0 y1 y2).mono fun v τ' ⟨z1, z2⟩ => ⟨z1, z2⟩

/-! ### All plans, one by one -/
theorem plans24_app {σ : H} : App Try.prog (.func 24) #[] #[] σ fun v σ' => σ' = σ ∧ v = .func (.func 33) #[] #[] := by
  refine App.of_sem mixed Try.func24 t24 k24 r24 (Nat.le_of_ble_eq_true rfl) ?_
  unfold s24
  simp only [↓eD0, ↓eD1, eC0, eC1, eC2, eC3, eC4, eC5, eC6, wantedE, ↓reduceIte, Nat.reduceEqDiff, Option.map_some, Option.map_none, reread, List.nil_append, List.cons_append, List.map_cons, List.map_nil, List.length_nil, List.length_cons, Value.cells, List.getElem?_cons_zero, List.getElem?_cons_succ, outE, lks, lkR, rdV, neg1, evs, opt, Nat.reduceAdd, Nat.reduceMul, and_self, reduceCtorEq, List.size_toArray, List.all_cons, List.all_nil, Value.oneCell', List.set_cons_zero, List.set_cons_succ, sets, fillL, Nat.reduceLeDiff, List.drop_succ_cons, List.drop_zero, List.take_succ_cons, List.take_zero, List.toList_toArray, argsE, Array.append_empty, Array.empty_append, List.getElem?_toArray, Int.reduceLT, Int.reduceLE, Int.reduceToNat, Int.reduceEq, Nat.reduceLT]
theorem plans_len : plansL.length = 18 := by decide
/-- The plans are handed over as long as yield says so. -/
theorem plans33_app {σ : H} {y : Fn} (I : Nat → H → Prop) (S : H → Prop) (h0 : I 0 σ)
    (hy : ∀ i (h : i < plansL.length) τ, I i τ → App Try.prog y #[] #[.agg #[.int .i64 plansL[i].m, .int .i64 plansL[i].r]] τ fun v τ' => (v = .bool true ∧ I (i + 1) τ') ∨ (v = .bool false ∧ S τ')) :
    App Try.prog (.func 33) #[] #[.func y #[] #[]] σ fun _ τ => I 18 τ ∨ S τ := by
  refine App.of_sem mixed Try.func33 t33 k33 r33 (Nat.le_of_ble_eq_true rfl) ?_
  have hl := plans_len
  unfold s33
  simp only [↓eD0, ↓eD1, eC0, eC1, eC2, eC3, eC4, eC5, eC6, wantedE, ↓reduceIte, Nat.reduceEqDiff, Option.map_some, Option.map_none, reread, List.nil_append, List.cons_append, List.map_cons, List.map_nil, List.length_nil, List.length_cons, Value.cells, List.getElem?_cons_zero, List.getElem?_cons_succ, outE, lks, lkR, rdV, neg1, evs, opt, Nat.reduceAdd, Nat.reduceMul, and_self, reduceCtorEq, List.size_toArray, List.all_cons, List.all_nil, Value.oneCell', List.set_cons_zero, List.set_cons_succ, sets, fillL, Nat.reduceLeDiff, List.drop_succ_cons, List.drop_zero, List.take_succ_cons, List.take_zero, List.toList_toArray, argsE, Array.append_empty, Array.empty_append, List.getElem?_toArray, Int.reduceLT, Int.reduceLE, Int.reduceToNat, Int.reduceEq, Nat.reduceLT]
  refine loop_for (J := fun i e τ => i ≤ 16 ∧ I i τ ∧ e = [(0, .func y #[] #[]), (3, .int .i64 i)]) 16 ⟨by omega, h0, rfl⟩ ?_
  rintro i e τ hi ⟨_, hI, rfl⟩
  by_cases hlt : i < 16
  · have dl : decide ((i:Int) < 16) = true := by rw [decide_eq_true]; omega
    have hw : IntKind.wrap .i64 ((i:Int) + 1) = ((i + 1 : Nat) : Int) := by rw [wrap64' (by omega) (by omega)]; omega
    have hp : plansL[i]'(by omega) = ⟨1, ((i + 1 : Nat) : Int)⟩ := by
      simp only [plansL]
      rw [List.getElem_append_left (by simp; omega)]
      simp
    have hc := hy i (by omega) τ hI
    rw [hp] at hc
    simp only [↓eD0, ↓eD1, eC0, eC1, eC2, eC3, eC4, eC5, eC6, wantedE, ↓reduceIte, Nat.reduceEqDiff, Option.map_some, Option.map_none, reread, List.nil_append, List.cons_append, List.map_cons, List.map_nil, List.length_nil, List.length_cons, Value.cells, List.getElem?_cons_zero, List.getElem?_cons_succ, outE, lks, lkR, rdV, neg1, evs, opt, Nat.reduceAdd, Nat.reduceMul, and_self, reduceCtorEq, List.size_toArray, List.all_cons, List.all_nil, Value.oneCell', List.set_cons_zero, List.set_cons_succ, sets, fillL, Nat.reduceLeDiff, List.drop_succ_cons, List.drop_zero, List.take_succ_cons, List.take_zero, List.toList_toArray, argsE, Array.append_empty, Array.empty_append, List.getElem?_toArray, Int.reduceLT, Int.reduceLE, Int.reduceToNat, Int.reduceEq, Nat.reduceLT, dl, hw]
    refine appK_of hc ?_
    rintro _ τ' (⟨rfl, hI'⟩ | ⟨rfl, hS⟩)
    · simp only [↓eD0, ↓eD1, eC0, eC1, eC2, eC3, eC4, eC5, eC6, wantedE, ↓reduceIte, Nat.reduceEqDiff, Option.map_some, Option.map_none, reread, List.nil_append, List.cons_append, List.map_cons, List.map_nil, List.length_nil, List.length_cons, Value.cells, List.getElem?_cons_zero, List.getElem?_cons_succ, outE, lks, lkR, rdV, neg1, evs, opt, Nat.reduceAdd, Nat.reduceMul, and_self, reduceCtorEq, List.size_toArray, List.all_cons, List.all_nil, Value.oneCell', List.set_cons_zero, List.set_cons_succ, sets, fillL, Nat.reduceLeDiff, List.drop_succ_cons, List.drop_zero, List.take_succ_cons, List.take_zero, List.toList_toArray, argsE, Array.append_empty, Array.empty_append, List.getElem?_toArray, Int.reduceLT, Int.reduceLE, Int.reduceToNat, Int.reduceEq, Nat.reduceLT, hw]
      exact ⟨hlt, by omega, hI'⟩
    · simp only [↓eD0, ↓eD1, eC0, eC1, eC2, eC3, eC4, eC5, eC6, wantedE, ↓reduceIte, Nat.reduceEqDiff, Option.map_some, Option.map_none, reread, List.nil_append, List.cons_append, List.map_cons, List.map_nil, List.length_nil, List.length_cons, Value.cells, List.getElem?_cons_zero, List.getElem?_cons_succ, outE, lks, lkR, rdV, neg1, evs, opt, Nat.reduceAdd, Nat.reduceMul, and_self, reduceCtorEq, List.size_toArray, List.all_cons, List.all_nil, Value.oneCell', List.set_cons_zero, List.set_cons_succ, sets, fillL, Nat.reduceLeDiff, List.drop_succ_cons, List.drop_zero, List.take_succ_cons, List.take_zero, List.toList_toArray, argsE, Array.append_empty, Array.empty_append, List.getElem?_toArray, Int.reduceLT, Int.reduceLE, Int.reduceToNat, Int.reduceEq, Nat.reduceLT]
      exact .inr hS
  · have : i = 16 := by omega
    subst this
    have dl : decide (((16:Nat):Int) < 16) = false := by decide
    have hp1 : plansL[16]'(by omega) = ⟨2, 0⟩ := (List.getElem?_eq_some_iff.1 (by decide : plansL[16]? = some ⟨2, 0⟩)).2
    have hp2 : plansL[17]'(by omega) = ⟨3, 0⟩ := (List.getElem?_eq_some_iff.1 (by decide : plansL[17]? = some ⟨3, 0⟩)).2
    have hc1 := hy 16 (by omega) τ hI
    rw [hp1] at hc1
    simp only [↓eD0, ↓eD1, eC0, eC1, eC2, eC3, eC4, eC5, eC6, wantedE, ↓reduceIte, Nat.reduceEqDiff, Option.map_some, Option.map_none, reread, List.nil_append, List.cons_append, List.map_cons, List.map_nil, List.length_nil, List.length_cons, Value.cells, List.getElem?_cons_zero, List.getElem?_cons_succ, outE, lks, lkR, rdV, neg1, evs, opt, Nat.reduceAdd, Nat.reduceMul, and_self, reduceCtorEq, List.size_toArray, List.all_cons, List.all_nil, Value.oneCell', List.set_cons_zero, List.set_cons_succ, sets, fillL, Nat.reduceLeDiff, List.drop_succ_cons, List.drop_zero, List.take_succ_cons, List.take_zero, List.toList_toArray, argsE, Array.append_empty, Array.empty_append, List.getElem?_toArray, Int.reduceLT, Int.reduceLE, Int.reduceToNat, Int.reduceEq, Nat.reduceLT, dl]
    refine appK_of hc1 ?_
    rintro _ τ' (⟨rfl, hI'⟩ | ⟨rfl, hS⟩)
    · have hc2 := hy 17 (by omega) τ' hI'
      rw [hp2] at hc2
      simp only [↓eD0, ↓eD1, eC0, eC1, eC2, eC3, eC4, eC5, eC6, wantedE, ↓reduceIte, Nat.reduceEqDiff, Option.map_some, Option.map_none, reread, List.nil_append, List.cons_append, List.map_cons, List.map_nil, List.length_nil, List.length_cons, Value.cells, List.getElem?_cons_zero, List.getElem?_cons_succ, outE, lks, lkR, rdV, neg1, evs, opt, Nat.reduceAdd, Nat.reduceMul, and_self, reduceCtorEq, List.size_toArray, List.all_cons, List.all_nil, Value.oneCell', List.set_cons_zero, List.set_cons_succ, sets, fillL, Nat.reduceLeDiff, List.drop_succ_cons, List.drop_zero, List.take_succ_cons, List.take_zero, List.toList_toArray, argsE, Array.append_empty, Array.empty_append, List.getElem?_toArray, Int.reduceLT, Int.reduceLE, Int.reduceToNat, Int.reduceEq, Nat.reduceLT]
      refine appK_of hc2 ?_
      rintro _ τ'' (⟨rfl, hI''⟩ | ⟨rfl, hS⟩)
      · simp only [↓eD0, ↓eD1, eC0, eC1, eC2, eC3, eC4, eC5, eC6, wantedE, ↓reduceIte, Nat.reduceEqDiff, Option.map_some, Option.map_none, reread, List.nil_append, List.cons_append, List.map_cons, List.map_nil, List.length_nil, List.length_cons, Value.cells, List.getElem?_cons_zero, List.getElem?_cons_succ, outE, lks, lkR, rdV, neg1, evs, opt, Nat.reduceAdd, Nat.reduceMul, and_self, reduceCtorEq, List.size_toArray, List.all_cons, List.all_nil, Value.oneCell', List.set_cons_zero, List.set_cons_succ, sets, fillL, Nat.reduceLeDiff, List.drop_succ_cons, List.drop_zero, List.take_succ_cons, List.take_zero, List.toList_toArray, argsE, Array.append_empty, Array.empty_append, List.getElem?_toArray, Int.reduceLT, Int.reduceLE, Int.reduceToNat, Int.reduceEq, Nat.reduceLT]
        exact .inl hI''
      · simp only [↓eD0, ↓eD1, eC0, eC1, eC2, eC3, eC4, eC5, eC6, wantedE, ↓reduceIte, Nat.reduceEqDiff, Option.map_some, Option.map_none, reread, List.nil_append, List.cons_append, List.map_cons, List.map_nil, List.length_nil, List.length_cons, Value.cells, List.getElem?_cons_zero, List.getElem?_cons_succ, outE, lks, lkR, rdV, neg1, evs, opt, Nat.reduceAdd, Nat.reduceMul, and_self, reduceCtorEq, List.size_toArray, List.all_cons, List.all_nil, Value.oneCell', List.set_cons_zero, List.set_cons_succ, sets, fillL, Nat.reduceLeDiff, List.drop_succ_cons, List.drop_zero, List.take_succ_cons, List.take_zero, List.toList_toArray, argsE, Array.append_empty, Array.empty_append, List.getElem?_toArray, Int.reduceLT, Int.reduceLE, Int.reduceToNat, Int.reduceEq, Nat.reduceLT]
        exact .inr hS
    · simp only [↓eD0, ↓eD1, eC0, eC1, eC2, eC3, eC4, eC5, eC6, wantedE, ↓reduceIte, Nat.reduceEqDiff, Option.map_some, Option.map_none, reread, List.nil_append, List.cons_append, List.map_cons, List.map_nil, List.length_nil, List.length_cons, Value.cells, List.getElem?_cons_zero, List.getElem?_cons_succ, outE, lks, lkR, rdV, neg1, evs, opt, Nat.reduceAdd, Nat.reduceMul, and_self, reduceCtorEq, List.size_toArray, List.all_cons, List.all_nil, Value.oneCell', List.set_cons_zero, List.set_cons_succ, sets, fillL, Nat.reduceLeDiff, List.drop_succ_cons, List.drop_zero, List.take_succ_cons, List.take_zero, List.toList_toArray, argsE, Array.append_empty, Array.empty_append, List.getElem?_toArray, Int.reduceLT, Int.reduceLE, Int.reduceToNat, Int.reduceEq, Nat.reduceLT, undef_eq]
      exact .inr hS
end Go.Proofs.Ytianomelnpiffaa
