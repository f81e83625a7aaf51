/- Walks of the functions that the claim reaches. Conditions: none. -/
import Derived.Test.YtianomelnpiffaaPc
set_option linter.all false
set_option linter.unusedSimpArgs false
set_option linter.unusedVariables false
set_option maxRecDepth 10000
set_option maxHeartbeats 1000000
namespace Go.Proofs.Ytianomelnpiffaa
open Go Go.Cn Go.RowKit
attribute [local irreducible] evL sem onG onI onV

def chStep (g : Ld) (l : Ln) (b : Bd) (acc : Option (Pl × Bd)) (p : Pl) : Option (Pl × Bd) :=
  if within (costF g l p) b = true ∧ (∀ x, acc = some x → better (costF g l p) x.2 = true) then some (p, costF g l p) else acc
@[irreducible] def chL (g : Ld) (l : Ln) (b : Bd) (i : Nat) : Option (Pl × Bd) := (plansL.take i).foldl (chStep g l b) none
def plOf : Option (Pl × Bd) → Pl
  | none => ⟨0, 0⟩
  | some x => x.1
def bdOf : Option (Pl × Bd) → Bd
  | none => ⟨0, 0, 0⟩
  | some x => x.2
def erOf : Option (Pl × Bd) → Int
  | none => 4
  | some _ => 0
def chooseF (g : Ld) (l : Ln) (b : Bd) : (Pl × Bd) × Int :=
  if OkF g l then ((plOf (chL g l b 18), bdOf (chL g l b 18)), erOf (chL g l b 18)) else ((⟨0, 0⟩, ⟨0, 0, 0⟩), 7)
theorem chL_succ {g : Ld} {l : Ln} {b : Bd} {i : Nat} (h : i < plansL.length) : chL g l b (i + 1) = chStep g l b (chL g l b i) plansL[i] := by
  unfold chL
  rw [List.take_succ_eq_append_getElem h, List.foldl_append]; rfl
theorem chL_pos {g : Ld} {l : Ln} {b : Bd} : ∀ i, ∀ x, chL g l b i = some x → x.1 ∈ plansL ∧ x.2 = costF g l x.1
  | 0, x, h => by simp [chL] at h
  | i + 1, x, h => by
    by_cases hi : i < plansL.length
    · rw [chL_succ hi] at h
      unfold chStep at h
      split at h
      · cases h; exact ⟨by simp, rfl⟩
      · exact chL_pos i x h
    · have : chL g l b (i + 1) = chL g l b i := by unfold chL; rw [List.take_of_length_le (by omega), List.take_of_length_le (by omega)]
      exact chL_pos i x (this ▸ h)
/-- Nothing is chosen yet iff the plan is zero. -/
theorem plOf_zero {g : Ld} {l : Ln} {b : Bd} {i : Nat} : decide ((plOf (chL g l b i)).m = 0 ∧ (plOf (chL g l b i)).r = 0) = (chL g l b i).isNone := by
  cases h : chL g l b i with
  | none => rfl
  | some x =>
    have := plans_pre (chL_pos i x h).1
    obtain ⟨⟨m, r⟩, c⟩ := x
    refine decide_eq_false ?_
    rintro ⟨h1, h2⟩
    simp only [plOf] at h1 h2
    simp only [Pl.mk.injEq] at this
    omega

structure EC (σ θ τ : H) (mb : Nat) (n0 : Nat) (b : Bd) (acc : Option (Pl × Bd)) : Prop where
  old : Old σ τ
  b2 : τ[σ.size + 2]? = some (.cells 0 (bdV b) (0, 0))
  b3 : τ[σ.size + 3]? = some (.cells 0 [.int .i64 0, .int .i64 0] (0, 0))
  b4 : τ[σ.size + 4]? = some (.cells 0 [.int .i64 0, .int .i64 0, .int .i64 0] (0, 0))
  b5 : ∃ v, τ[σ.size + 5]? = some (.cells v (plV (plOf acc)) (0, 0))
  b6 : ∃ v, τ[σ.size + 6]? = some (.cells v (bdV (bdOf acc)) (0, 0))
  bm : τ[θ.size]? = some (.cells 1 [.map (some mb)] (0, 0))
  md : ∀ c, n0 ≤ c → c < θ.size → τ[c]? = θ[c]?

theorem wr_push3 {σ : H} {a b c : Int} {x0 : List Value} (h : x0.length = 3) : wrN (σ.push (.cells 0 x0 (0, 0))) ⟨σ.size, 0, none⟩ [.int .i64 a, .int .i64 b, .int .i64 c] = some (σ.push (.cells 1 [.int .i64 a, .int .i64 b, .int .i64 c] (0, 0))) := by
  match x0, h with
  | [p, q, r], _ =>
    have : wrN (ap σ [.cells 0 [p, q, r] (0, 0)]) ⟨σ.size, 0, none⟩ [.int .i64 a, .int .i64 b, .int .i64 c] = some (ap σ [.cells 1 [.int .i64 a, .int .i64 b, .int .i64 c] (0, 0)]) := by
      rw [wrN_ap0]; rfl
    simpa [ap] using this
theorem EC.old' {σ θ τ τ' : H} {mb n0 : Nat} {b : Bd} {acc : Option (Pl × Bd)} (h : EC σ θ τ mb n0 b acc) (ho : Old τ τ') : EC σ θ τ' mb n0 b acc :=
  ⟨h.old.trans ho, (ho.2 _ (Array.getElem?_eq_some_iff.1 h.b2).1).trans h.b2, (ho.2 _ (Array.getElem?_eq_some_iff.1 h.b3).1).trans h.b3, (ho.2 _ (Array.getElem?_eq_some_iff.1 h.b4).1).trans h.b4,
    let ⟨v, q⟩ := h.b5; ⟨v, (ho.2 _ (Array.getElem?_eq_some_iff.1 q).1).trans q⟩, let ⟨v, q⟩ := h.b6; ⟨v, (ho.2 _ (Array.getElem?_eq_some_iff.1 q).1).trans q⟩,
    (ho.2 _ (Array.getElem?_eq_some_iff.1 h.bm).1).trans h.bm, fun c h1 h2 => (ho.2 _ (by have := (Array.getElem?_eq_some_iff.1 h.bm).1; omega)).trans (h.md c h1 h2)⟩
theorem EC.set {σ θ τ : H} {mb n0 : Nat} {b : Bd} {acc : Option (Pl × Bd)} {c : Nat} {k : Blk} (h : EC σ θ τ mb n0 b acc) (hb : θ.size < c) (hs : σ.size + 7 ≤ θ.size) : EC σ θ (τ.setIfInBounds c k) mb n0 b acc :=
  ⟨h.old.set (by omega), (get_set_ne (by omega)).trans h.b2, (get_set_ne (by omega)).trans h.b3, (get_set_ne (by omega)).trans h.b4,
    let ⟨v, q⟩ := h.b5; ⟨v, (get_set_ne (by omega)).trans q⟩, let ⟨v, q⟩ := h.b6; ⟨v, (get_set_ne (by omega)).trans q⟩,
    (get_set_ne (by omega)).trans h.bm, fun c h1 h2 => (get_set_ne (by omega)).trans (h.md c h1 h2)⟩
theorem EC.upd {σ θ τ : H} {mb n0 v1 v2 : Nat} {b : Bd} {acc : Option (Pl × Bd)} {x : Pl × Bd} (h : EC σ θ τ mb n0 b acc) (hn : n0 = σ.size + 7) (hs : σ.size + 7 ≤ θ.size) :
    EC σ θ ((τ.setIfInBounds (σ.size + 5) (.cells v1 (plV x.1) (0, 0))).setIfInBounds (σ.size + 6) (.cells v2 (bdV x.2) (0, 0))) mb n0 b (some x) :=
  ⟨(h.old.set (by omega)).set (by omega), (get_set_ne (by omega)).trans ((get_set_ne (by omega)).trans h.b2), (get_set_ne (by omega)).trans ((get_set_ne (by omega)).trans h.b3), (get_set_ne (by omega)).trans ((get_set_ne (by omega)).trans h.b4),
    let ⟨v, q⟩ := h.b5; ⟨v1, (get_set_ne (by omega)).trans (get_set q)⟩, let ⟨v, q⟩ := h.b6; ⟨v2, get_set ((get_set_ne (by omega)).trans q)⟩,
    (get_set_ne (by omega)).trans ((get_set_ne (by omega)).trans h.bm), fun c h1 h2 => (get_set_ne (by omega)).trans ((get_set_ne (by omega)).trans (h.md c h1 h2))⟩

theorem choose19_app {g : Ld} {l : Ln} {b : Bd} {σ : H} : App Try.prog (.func 19) #[] #[.agg (ldV g).toArray, .agg (lnV l).toArray, .agg (bdV b).toArray] σ fun v σ' => Old σ σ' ∧ v = .tuple #[.agg (plV (chooseF g l b).1.1).toArray, .agg (bdV (chooseF g l b).1.2).toArray, .int .i64 (chooseF g l b).2] := by
  refine App.of_sem mixed Try.func19 t19 k19 r19 (Nat.le_of_ble_eq_true rfl) ?_
  rw [← ap_nil (σ := σ)]
  unfold s19 chooseF
  simp only [↓eD0, ↓eD1, eC0, eC1, eC2, eC3, eC4, eC5, eC6, wantedE, ↓reduceIte, Nat.reduceEqDiff, Option.map_some, Option.map_none, reread, List.nil_append, List.cons_append, List.map_cons, List.map_nil, List.length_nil, List.length_cons, Value.cells, List.getElem?_cons_zero, List.getElem?_cons_succ, outE, lks, lkR, rdV, neg1, evs, opt, Nat.reduceAdd, Nat.reduceMul, and_self, reduceCtorEq, List.size_toArray, List.all_cons, List.all_nil, Value.oneCell', List.set_cons_zero, List.set_cons_succ, sets, fillL, Nat.reduceLeDiff, List.drop_succ_cons, List.drop_zero, List.take_succ_cons, List.take_zero, List.toList_toArray, argsE, Array.append_empty, Array.empty_append, List.getElem?_toArray, Int.reduceLT, Int.reduceLE, Int.reduceToNat, Int.reduceEq, Nat.reduceLT, ldV, lnV, bdV]
  refine appK_of check14_app ?_
  rintro _ _ ⟨e2, rfl⟩
  rw [e2]
  clear e2
  by_cases h : OkF g l
  case neg =>
    have d1 : decide (chk g l = 0) = false := by unfold chk; rw [if_neg h]; rfl
    have hc : chk g l = 7 := if_neg h
    simp only [↓eD0, ↓eD1, eC0, eC1, eC2, eC3, eC4, eC5, eC6, wantedE, ↓reduceIte, Nat.reduceEqDiff, Option.map_some, Option.map_none, reread, List.nil_append, List.cons_append, List.map_cons, List.map_nil, List.length_nil, List.length_cons, Value.cells, List.getElem?_cons_zero, List.getElem?_cons_succ, outE, lks, lkR, rdV, neg1, evs, opt, Nat.reduceAdd, Nat.reduceMul, and_self, reduceCtorEq, List.size_toArray, List.all_cons, List.all_nil, Value.oneCell', List.set_cons_zero, List.set_cons_succ, sets, fillL, Nat.reduceLeDiff, List.drop_succ_cons, List.drop_zero, List.take_succ_cons, List.take_zero, List.toList_toArray, argsE, Array.append_empty, Array.empty_append, List.getElem?_toArray, Int.reduceLT, Int.reduceLE, Int.reduceToNat, Int.reduceEq, Nat.reduceLT, d1]
    rw [if_neg h, hc, ap_nil]
    exact ⟨.ap, rfl⟩
  have d1 : decide (chk g l = 0) = true := by unfold chk; rw [if_pos h]; rfl
  simp only [↓eD0, ↓eD1, eC0, eC1, eC2, eC3, eC4, eC5, eC6, wantedE, ↓reduceIte, Nat.reduceEqDiff, Option.map_some, Option.map_none, reread, List.nil_append, List.cons_append, List.map_cons, List.map_nil, List.length_nil, List.length_cons, Value.cells, List.getElem?_cons_zero, List.getElem?_cons_succ, outE, lks, lkR, rdV, neg1, evs, opt, Nat.reduceAdd, Nat.reduceMul, and_self, reduceCtorEq, List.size_toArray, List.all_cons, List.all_nil, Value.oneCell', List.set_cons_zero, List.set_cons_succ, sets, fillL, Nat.reduceLeDiff, List.drop_succ_cons, List.drop_zero, List.take_succ_cons, List.take_zero, List.toList_toArray, argsE, Array.append_empty, Array.empty_append, List.getElem?_toArray, Int.reduceLT, Int.reduceLE, Int.reduceToNat, Int.reduceEq, Nat.reduceLT, d1, rep6]
  rw [if_pos h]
  refine appK_of (modes_app (g := g) (l := l) h) ?_
  rintro _ θ ⟨ho1, ⟨mb, rfl⟩, hM⟩
  have wm : wrN (θ.push (.cells 0 [.map none] (0, 0))) ⟨θ.size, 0, none⟩ [.map (some mb)] = some (θ.push (.cells 1 [.map (some mb)] (0, 0))) := by
    have : wrN (ap θ [.cells 0 [.map none] (0, 0)]) ⟨θ.size, 0, none⟩ [.map (some mb)] = some (ap θ [.cells 1 [.map (some mb)] (0, 0)]) := by rw [wrN_ap0]; rfl
    simpa [ap] using this
  simp only [↓eD0, ↓eD1, eC0, eC1, eC2, eC3, eC4, eC5, eC6, wantedE, ↓reduceIte, Nat.reduceEqDiff, Option.map_some, Option.map_none, reread, List.nil_append, List.cons_append, List.map_cons, List.map_nil, List.length_nil, List.length_cons, Value.cells, List.getElem?_cons_zero, List.getElem?_cons_succ, outE, lks, lkR, rdV, neg1, evs, opt, Nat.reduceAdd, Nat.reduceMul, and_self, reduceCtorEq, List.size_toArray, List.all_cons, List.all_nil, Value.oneCell', List.set_cons_zero, List.set_cons_succ, sets, fillL, Nat.reduceLeDiff, List.drop_succ_cons, List.drop_zero, List.take_succ_cons, List.take_zero, List.toList_toArray, argsE, Array.append_empty, Array.empty_append, List.getElem?_toArray, Int.reduceLT, Int.reduceLE, Int.reduceToNat, Int.reduceEq, Nat.reduceLT]
  refine onV_of (by rw [wm]; rfl) ?_
  simp only [↓eD0, ↓eD1, eC0, eC1, eC2, eC3, eC4, eC5, eC6, wantedE, ↓reduceIte, Nat.reduceEqDiff, Option.map_some, Option.map_none, reread, List.nil_append, List.cons_append, List.map_cons, List.map_nil, List.length_nil, List.length_cons, Value.cells, List.getElem?_cons_zero, List.getElem?_cons_succ, outE, lks, lkR, rdV, neg1, evs, opt, Nat.reduceAdd, Nat.reduceMul, and_self, reduceCtorEq, List.size_toArray, List.all_cons, List.all_nil, Value.oneCell', List.set_cons_zero, List.set_cons_succ, sets, fillL, Nat.reduceLeDiff, List.drop_succ_cons, List.drop_zero, List.take_succ_cons, List.take_zero, List.toList_toArray, argsE, Array.append_empty, Array.empty_append, List.getElem?_toArray, Int.reduceLT, Int.reduceLE, Int.reduceToNat, Int.reduceEq, Nat.reduceLT]
  refine appK_of plans24_app ?_
  rintro _ _ ⟨e2, rfl⟩
  rw [e2]
  clear e2
  simp only [↓eD0, ↓eD1, eC0, eC1, eC2, eC3, eC4, eC5, eC6, wantedE, ↓reduceIte, Nat.reduceEqDiff, Option.map_some, Option.map_none, reread, List.nil_append, List.cons_append, List.map_cons, List.map_nil, List.length_nil, List.length_cons, Value.cells, List.getElem?_cons_zero, List.getElem?_cons_succ, outE, lks, lkR, rdV, neg1, evs, opt, Nat.reduceAdd, Nat.reduceMul, and_self, reduceCtorEq, List.size_toArray, List.all_cons, List.all_nil, Value.oneCell', List.set_cons_zero, List.set_cons_succ, sets, fillL, Nat.reduceLeDiff, List.drop_succ_cons, List.drop_zero, List.take_succ_cons, List.take_zero, List.toList_toArray, argsE, Array.append_empty, Array.empty_append, List.getElem?_toArray, Int.reduceLT, Int.reduceLE, Int.reduceToNat, Int.reduceEq, Nat.reduceLT]
  generalize hT : ap σ [.cells 0 [.int .i64 g.p, .int .i64 g.h, .int .i64 g.r, .int .i64 g.s] (0, 0), .cells 0 [.int .i64 l.p, .int .i64 l.d] (0, 0), .cells 0 [.int .i64 b.d, .int .i64 b.v, .int .i64 b.s] (0, 0), .cells 0 [.int .i64 0, .int .i64 0] (0, 0), .cells 0 [.int .i64 0, .int .i64 0, .int .i64 0] (0, 0), .cells 0 [.int .i64 0, .int .i64 0] (0, 0), .cells 0 [.int .i64 0, .int .i64 0, .int .i64 0] (0, 0)] = T at ho1 hM
  have hTs : T.size = σ.size + 7 := by rw [← hT, ap_size]; rfl
  have hoT : Old σ T := by rw [← hT]; exact .ap
  have q2 : T[σ.size + 2]? = some (.cells 0 (bdV b) (0, 0)) := by rw [← hT]; exact ap_new
  have q3 : T[σ.size + 3]? = some (.cells 0 [.int .i64 0, .int .i64 0] (0, 0)) := by rw [← hT]; exact ap_new
  have q4 : T[σ.size + 4]? = some (.cells 0 [.int .i64 0, .int .i64 0, .int .i64 0] (0, 0)) := by rw [← hT]; exact ap_new
  have q5 : T[σ.size + 5]? = some (.cells 0 [.int .i64 0, .int .i64 0] (0, 0)) := by rw [← hT]; exact ap_new
  have q6 : T[σ.size + 6]? = some (.cells 0 [.int .i64 0, .int .i64 0, .int .i64 0] (0, 0)) := by rw [← hT]; exact ap_new
  clear hT
  have hpush : ∀ (A : H) k, Old A (A.push k) := fun A k => by have := Old.ap (σ := A) (l := [k]); simpa [ap] using this
  have hT2 := ho1.trans (hpush θ (.cells 1 [.map (some mb)] (0, 0)))
  have hbm : (θ.push (.cells 1 [.map (some mb)] (0, 0)))[θ.size]? = some (.cells 1 [.map (some mb)] (0, 0)) := by simp
  have hEC : EC σ θ (θ.push (.cells 1 [.map (some mb)] (0, 0))) mb T.size b (chL g l b 0) :=
    ⟨hoT.trans hT2, (hT2.2 _ (by omega)).trans q2, (hT2.2 _ (by omega)).trans q3, (hT2.2 _ (by omega)).trans q4, ⟨0, by unfold chL; exact (hT2.2 _ (by omega)).trans q5⟩, ⟨0, by unfold chL; exact (hT2.2 _ (by omega)).trans q6⟩, hbm,
      fun c _ hc => (hpush θ _).2 c hc⟩
  have hsz2 : (θ.push (.cells 1 [.map (some mb)] (0, 0))).size = θ.size + 1 := by simp
  have hts := ho1.1
  generalize θ.push (.cells 1 [.map (some mb)] (0, 0)) = T2 at hEC hsz2 ⊢
  refine rng_of (by kernel_rfl) fun R hY => ?_
  have hlen := plans_len
  refine (plans33_app (I := fun i τ => EC σ θ τ mb T.size b (chL g l b i) ∧ T2.size + 1 ≤ τ.size ∧ (∃ ver, τ[T2.size]? = some (.loop ver .ready none R)))
    (S := fun τ => False) ⟨hEC.old' (hpush T2 _), by simp, ⟨0, by simp⟩⟩ ?_).mono ?_
  · rintro i hi τ ⟨hE, hsz, ⟨ver, hl⟩⟩
    have zl := (Array.getElem?_eq_some_iff.1 hl).1
    refine yield_step hY hl rfl [(5, .pointer (some ⟨σ.size + 2, 0, none⟩)), (10, .pointer (some ⟨σ.size + 5, 0, none⟩)), (11, .pointer (some ⟨σ.size + 6, 0, none⟩)), (12, .pointer (some ⟨θ.size, 0, none⟩)), (13, .pointer (some ⟨τ.size, 0, none⟩))]
      (ap τ [.cells 1 [.int .i64 plansL[i].m, .int .i64 plansL[i].r] (0, 0)]) (fun A hA => ?_) ((ap_old zl).trans hl) ?_
    · rw [← ap_nil (σ := τ)]
      simp only [↓eD0, ↓eD1, eC0, eC1, eC2, eC3, eC4, eC5, eC6, wantedE, ↓reduceIte, Nat.reduceEqDiff, Option.map_some, Option.map_none, reread, List.nil_append, List.cons_append, List.map_cons, List.map_nil, List.length_nil, List.length_cons, Value.cells, List.getElem?_cons_zero, List.getElem?_cons_succ, outE, lks, lkR, rdV, neg1, evs, opt, Nat.reduceAdd, Nat.reduceMul, and_self, reduceCtorEq, List.size_toArray, List.all_cons, List.all_nil, Value.oneCell', List.set_cons_zero, List.set_cons_succ, sets, fillL, Nat.reduceLeDiff, List.drop_succ_cons, List.drop_zero, List.take_succ_cons, List.take_zero, List.toList_toArray, argsE, Array.append_empty, Array.empty_append, List.getElem?_toArray, Int.reduceLT, Int.reduceLE, Int.reduceToNat, Int.reduceEq, Nat.reduceLT]
      exact hA
    · have hz : T2.size ≠ τ.size := by omega
      have hE1 := (hE.old' (Old.ap (l := [.cells 1 [.int .i64 plansL[i].m, .int .i64 plansL[i].r] (0, 0)]))).set (c := T2.size) (k := .loop (ver + 1) .busy none R) (by omega) (by omega)
      have rl := get_set (k := .loop (ver + 1) .busy none R) ((ap_old (l := [.cells 1 [.int .i64 plansL[i].m, .int .i64 plansL[i].r] (0, 0)]) zl).trans hl)
      have rx : ((ap τ [.cells 1 [.int .i64 plansL[i].m, .int .i64 plansL[i].r] (0, 0)]).setIfInBounds T2.size (.loop (ver + 1) .busy none R))[τ.size]? = some (.cells 1 [.int .i64 plansL[i].m, .int .i64 plansL[i].r] (0, 0)) := (get_set_ne hz).trans ap_new0
      have hsz1 : τ.size + 1 ≤ ((ap τ [.cells 1 [.int .i64 plansL[i].m, .int .i64 plansL[i].r] (0, 0)]).setIfInBounds T2.size (.loop (ver + 1) .busy none R)).size := by simp [ap_size]
      generalize (ap τ [.cells 1 [.int .i64 plansL[i].m, .int .i64 plansL[i].r] (0, 0)]).setIfInBounds T2.size (.loop (ver + 1) .busy none R) = φ at hE1 rl rx hsz1
      have hacc : chL g l b (i + 1) = chStep g l b (chL g l b i) plansL[i] := chL_succ hi
      have hzero := plOf_zero (g := g) (l := l) (b := b) (i := i)
      generalize chL g l b i = acc at hE1 hacc hzero
      generalize hp : plansL[i] = p at rx hacc
      have hin : p ∈ plansL := by rw [← hp]; simp
      obtain ⟨f, cap, hlk, hap⟩ := hM φ hE1.md p hin
      have fm : rd1 φ ⟨θ.size, 0, none⟩ = some (.map (some mb)) := by rw [rd1_eq, hE1.bm]; rfl
      have fx0 : rd1 φ ⟨τ.size, 0, none⟩ = some (.int .i64 p.m) := by rw [rd1_eq, rx]; rfl
      have fx1 : rd1 φ ⟨τ.size, 1, none⟩ = some (.int .i64 p.r) := by rw [rd1_eq, rx]; rfl
      simp only [↓eD0, ↓eD1, eC0, eC1, eC2, eC3, eC4, eC5, eC6, wantedE, ↓reduceIte, Nat.reduceEqDiff, Option.map_some, Option.map_none, reread, List.nil_append, List.cons_append, List.map_cons, List.map_nil, List.length_nil, List.length_cons, Value.cells, List.getElem?_cons_zero, List.getElem?_cons_succ, outE, lks, lkR, rdV, neg1, evs, opt, Nat.reduceAdd, Nat.reduceMul, and_self, reduceCtorEq, List.size_toArray, List.all_cons, List.all_nil, Value.oneCell', List.set_cons_zero, List.set_cons_succ, sets, fillL, Nat.reduceLeDiff, List.drop_succ_cons, List.drop_zero, List.take_succ_cons, List.take_zero, List.toList_toArray, argsE, Array.append_empty, Array.empty_append, List.getElem?_toArray, Int.reduceLT, Int.reduceLE, Int.reduceToNat, Int.reduceEq, Nat.reduceLT, fm, fx0, fx1, hlk]
      refine appK_of hap ?_
      rintro _ φ1 ⟨ho1, rfl⟩
      have w1 := fun a b c => wr_push3 (σ := φ1) (a := a) (b := b) (c := c) (x0 := [.int .i64 0, .int .i64 0, .int .i64 0]) rfl
      simp only [↓eD0, ↓eD1, eC0, eC1, eC2, eC3, eC4, eC5, eC6, wantedE, ↓reduceIte, Nat.reduceEqDiff, Option.map_some, Option.map_none, reread, List.nil_append, List.cons_append, List.map_cons, List.map_nil, List.length_nil, List.length_cons, Value.cells, List.getElem?_cons_zero, List.getElem?_cons_succ, outE, lks, lkR, rdV, neg1, evs, opt, Nat.reduceAdd, Nat.reduceMul, and_self, reduceCtorEq, List.size_toArray, List.all_cons, List.all_nil, Value.oneCell', List.set_cons_zero, List.set_cons_succ, sets, fillL, Nat.reduceLeDiff, List.drop_succ_cons, List.drop_zero, List.take_succ_cons, List.take_zero, List.toList_toArray, argsE, Array.append_empty, Array.empty_append, List.getElem?_toArray, Int.reduceLT, Int.reduceLE, Int.reduceToNat, Int.reduceEq, Nat.reduceLT, w1]
      have hE2 := (hE1.old' ho1).old' (hpush φ1 (.cells 1 [.int .i64 (costF g l p).d, .int .i64 (costF g l p).v, .int .i64 (costF g l p).s] (0, 0)))
      have rc : (φ1.push (.cells 1 [.int .i64 (costF g l p).d, .int .i64 (costF g l p).v, .int .i64 (costF g l p).s] (0, 0)))[φ1.size]? = some (.cells 1 (bdV (costF g l p)) (0, 0)) := by simp; rfl
      have hho := ho1.trans (hpush φ1 (.cells 1 [.int .i64 (costF g l p).d, .int .i64 (costF g l p).v, .int .i64 (costF g l p).s] (0, 0)))
      have sl := (hho.2 _ (Array.getElem?_eq_some_iff.1 rl).1).trans rl
      have sx := (hho.2 _ (Array.getElem?_eq_some_iff.1 rx).1).trans rx
      have hsz2 := hho.1
      have hφ1 := ho1.1
      generalize φ1.push (.cells 1 [.int .i64 (costF g l p).d, .int .i64 (costF g l p).v, .int .i64 (costF g l p).s] (0, 0)) = φ2 at hE2 rc sl sx hsz2 ⊢
      have fc : rdN φ2 ⟨φ1.size, 0, none⟩ 3 = some (bdV (costF g l p)) := rdN_all rc rfl
      have fb : rdN φ2 ⟨σ.size + 2, 0, none⟩ 3 = some (bdV b) := rdN_all hE2.b2 rfl
      have fp : rdN φ2 ⟨τ.size, 0, none⟩ 2 = some (plV p) := rdN_all sx rfl
      have f5 : rdN φ2 ⟨σ.size + 5, 0, none⟩ 2 = some (plV (plOf acc)) := by obtain ⟨v, q⟩ := hE2.b5; exact rdN_all q rfl
      have f6 : rdN φ2 ⟨σ.size + 6, 0, none⟩ 3 = some (bdV (bdOf acc)) := by obtain ⟨v, q⟩ := hE2.b6; exact rdN_all q rfl
      simp only [↓eD0, ↓eD1, eC0, eC1, eC2, eC3, eC4, eC5, eC6, wantedE, ↓reduceIte, Nat.reduceEqDiff, Option.map_some, Option.map_none, reread, List.nil_append, List.cons_append, List.map_cons, List.map_nil, List.length_nil, List.length_cons, Value.cells, List.getElem?_cons_zero, List.getElem?_cons_succ, outE, lks, lkR, rdV, neg1, evs, opt, Nat.reduceAdd, Nat.reduceMul, and_self, reduceCtorEq, List.size_toArray, List.all_cons, List.all_nil, Value.oneCell', List.set_cons_zero, List.set_cons_succ, sets, fillL, Nat.reduceLeDiff, List.drop_succ_cons, List.drop_zero, List.take_succ_cons, List.take_zero, List.toList_toArray, argsE, Array.append_empty, Array.empty_append, List.getElem?_toArray, Int.reduceLT, Int.reduceLE, Int.reduceToNat, Int.reduceEq, Nat.reduceLT, fc, fb, bdV]
      refine appK_of (within17_app (a := costF g l p) (b := b)) ?_
      rintro _ _ ⟨e2, rfl⟩
      rw [e2]
      clear e2
      have skip : ∃ ver st pend, φ2[T2.size]? = some (.loop ver st pend R) ∧ (EC σ θ (φ2.setIfInBounds T2.size (.loop (ver + 1) .ready none R)) mb T.size b acc ∧ T2.size + 1 ≤ (φ2.setIfInBounds T2.size (.loop (ver + 1) .ready none R)).size ∧ ∃ ver', (φ2.setIfInBounds T2.size (.loop (ver + 1) .ready none R))[T2.size]? = some (.loop ver' .ready none R)) :=
        ⟨ver + 1, .busy, none, sl, hE2.set (by omega) (by omega), by simp; omega, _, get_set sl⟩
      by_cases hw : within (costF g l p) b = true
      case neg =>
        have hw' : within (costF g l p) b = false := by simpa using hw
        have hst : chStep g l b acc p = acc := by unfold chStep; rw [if_neg (fun hh => hw hh.1)]
        simp only [↓eD0, ↓eD1, eC0, eC1, eC2, eC3, eC4, eC5, eC6, wantedE, ↓reduceIte, Nat.reduceEqDiff, Option.map_some, Option.map_none, reread, List.nil_append, List.cons_append, List.map_cons, List.map_nil, List.length_nil, List.length_cons, Value.cells, List.getElem?_cons_zero, List.getElem?_cons_succ, outE, lks, lkR, rdV, neg1, evs, opt, Nat.reduceAdd, Nat.reduceMul, and_self, reduceCtorEq, List.size_toArray, List.all_cons, List.all_nil, Value.oneCell', List.set_cons_zero, List.set_cons_succ, sets, fillL, Nat.reduceLeDiff, List.drop_succ_cons, List.drop_zero, List.take_succ_cons, List.take_zero, List.toList_toArray, argsE, Array.append_empty, Array.empty_append, List.getElem?_toArray, Int.reduceLT, Int.reduceLE, Int.reduceToNat, Int.reduceEq, Nat.reduceLT, hw', undef_eq]
        rw [hacc, hst]
        obtain ⟨v1, v2, v3, h1, h2⟩ := skip
        exact ⟨v1, v2, v3, h1, .inl h2⟩
      obtain ⟨u5, g5⟩ := hE2.b5
      obtain ⟨u6, g6⟩ := hE2.b6
      have w5 : ∀ a b, wrN φ2 ⟨σ.size + 5, 0, none⟩ [.int .i64 a, .int .i64 b] = some (φ2.setIfInBounds (σ.size + 5) (.cells (u5 + 1) [.int .i64 a, .int .i64 b] (0, 0))) := fun a b => by
        rw [wrN_eq, if_neg (by simp), g5, wrc_cells]; rfl
      have w6 : ∀ k a b c, wrN (φ2.setIfInBounds (σ.size + 5) k) ⟨σ.size + 6, 0, none⟩ [.int .i64 a, .int .i64 b, .int .i64 c] = some ((φ2.setIfInBounds (σ.size + 5) k).setIfInBounds (σ.size + 6) (.cells (u6 + 1) [.int .i64 a, .int .i64 b, .int .i64 c] (0, 0))) := fun k a b c => by
        rw [wrN_eq, if_neg (by simp), get_set_ne (by show σ.size + 5 ≠ σ.size + 6; omega), g6, wrc_cells]; rfl
      have fc' : ∀ k, rdN (φ2.setIfInBounds (σ.size + 5) k) ⟨φ1.size, 0, none⟩ 3 = some (bdV (costF g l p)) := fun k => rdN_all ((get_set_ne (by omega)).trans rc) rfl
      have take : ∃ ver st pend, ((φ2.setIfInBounds (σ.size + 5) (.cells (u5 + 1) (plV p) (0, 0))).setIfInBounds (σ.size + 6) (.cells (u6 + 1) (bdV (costF g l p)) (0, 0)))[T2.size]? = some (.loop ver st pend R) ∧
          (EC σ θ (((φ2.setIfInBounds (σ.size + 5) (.cells (u5 + 1) (plV p) (0, 0))).setIfInBounds (σ.size + 6) (.cells (u6 + 1) (bdV (costF g l p)) (0, 0))).setIfInBounds T2.size (.loop (ver + 1) .ready none R)) mb T.size b (some (p, costF g l p)) ∧ T2.size + 1 ≤ (((φ2.setIfInBounds (σ.size + 5) (.cells (u5 + 1) (plV p) (0, 0))).setIfInBounds (σ.size + 6) (.cells (u6 + 1) (bdV (costF g l p)) (0, 0))).setIfInBounds T2.size (.loop (ver + 1) .ready none R)).size ∧
            ∃ ver', (((φ2.setIfInBounds (σ.size + 5) (.cells (u5 + 1) (plV p) (0, 0))).setIfInBounds (σ.size + 6) (.cells (u6 + 1) (bdV (costF g l p)) (0, 0))).setIfInBounds T2.size (.loop (ver + 1) .ready none R))[T2.size]? = some (.loop ver' .ready none R)) :=
        have sl' := (get_set_ne (k := .cells (u6 + 1) (bdV (costF g l p)) (0, 0)) (by omega : σ.size + 6 ≠ T2.size)).trans ((get_set_ne (k := .cells (u5 + 1) (plV p) (0, 0)) (by omega : σ.size + 5 ≠ T2.size)).trans sl)
        ⟨ver + 1, .busy, none, sl', (hE2.upd (x := (p, costF g l p)) hTs (by omega)).set (by omega) (by omega), by simp; omega, _, get_set sl'⟩
      cases acc with
      | none =>
        have hst : chStep g l b none p = some (p, costF g l p) := by unfold chStep; rw [if_pos ⟨hw, by simp⟩]
        simp only [plOf, bdOf, plV, bdV] at f5 f6
        simp only [↓eD0, ↓eD1, eC0, eC1, eC2, eC3, eC4, eC5, eC6, wantedE, ↓reduceIte, Nat.reduceEqDiff, Option.map_some, Option.map_none, reread, List.nil_append, List.cons_append, List.map_cons, List.map_nil, List.length_nil, List.length_cons, Value.cells, List.getElem?_cons_zero, List.getElem?_cons_succ, outE, lks, lkR, rdV, neg1, evs, opt, Nat.reduceAdd, Nat.reduceMul, and_self, reduceCtorEq, List.size_toArray, List.all_cons, List.all_nil, Value.oneCell', List.set_cons_zero, List.set_cons_succ, sets, fillL, Nat.reduceLeDiff, List.drop_succ_cons, List.drop_zero, List.take_succ_cons, List.take_zero, List.toList_toArray, argsE, Array.append_empty, Array.empty_append, List.getElem?_toArray, Int.reduceLT, Int.reduceLE, Int.reduceToNat, Int.reduceEq, Nat.reduceLT, hw, f5, pl_eq, decide_true, fp, fc, fc', w5, w6, plV, bdV, undef_eq]
        rw [hacc, hst]
        obtain ⟨v1, v2, v3, h1, h2⟩ := take
        exact ⟨v1, v2, v3, h1, .inl h2⟩
      | some x =>
        have hz' : decide (x.1.m = 0 ∧ x.1.r = 0) = false := hzero
        simp only [plOf, bdOf, plV, bdV] at f5 f6
        by_cases hb : better (costF g l p) x.2 = true
        · have hst : chStep g l b (some x) p = some (p, costF g l p) := by unfold chStep; rw [if_pos ⟨hw, fun y hy => by cases hy; exact hb⟩]
          have hor : decide (orF [cmp (costF g l p).s x.2.s, cmp (costF g l p).v x.2.v, cmp (costF g l p).d x.2.d] < 0) = true := by rw [better_or]; exact hb
          simp only [↓eD0, ↓eD1, eC0, eC1, eC2, eC3, eC4, eC5, eC6, wantedE, ↓reduceIte, Nat.reduceEqDiff, Option.map_some, Option.map_none, reread, List.nil_append, List.cons_append, List.map_cons, List.map_nil, List.length_nil, List.length_cons, Value.cells, List.getElem?_cons_zero, List.getElem?_cons_succ, outE, lks, lkR, rdV, neg1, evs, opt, Nat.reduceAdd, Nat.reduceMul, and_self, reduceCtorEq, List.size_toArray, List.all_cons, List.all_nil, Value.oneCell', List.set_cons_zero, List.set_cons_succ, sets, fillL, Nat.reduceLeDiff, List.drop_succ_cons, List.drop_zero, List.take_succ_cons, List.take_zero, List.toList_toArray, argsE, Array.append_empty, Array.empty_append, List.getElem?_toArray, Int.reduceLT, Int.reduceLE, Int.reduceToNat, Int.reduceEq, Nat.reduceLT, hw, f5, f6, pl_eq, hz', fp, fc, plV, bdV, undef_eq]
          refine appK_of (compare_app (a := costF g l p) (b := x.2)) ?_
          rintro _ _ ⟨e2, rfl⟩
          rw [e2]
          clear e2
          simp only [↓eD0, ↓eD1, eC0, eC1, eC2, eC3, eC4, eC5, eC6, wantedE, ↓reduceIte, Nat.reduceEqDiff, Option.map_some, Option.map_none, reread, List.nil_append, List.cons_append, List.map_cons, List.map_nil, List.length_nil, List.length_cons, Value.cells, List.getElem?_cons_zero, List.getElem?_cons_succ, outE, lks, lkR, rdV, neg1, evs, opt, Nat.reduceAdd, Nat.reduceMul, and_self, reduceCtorEq, List.size_toArray, List.all_cons, List.all_nil, Value.oneCell', List.set_cons_zero, List.set_cons_succ, sets, fillL, Nat.reduceLeDiff, List.drop_succ_cons, List.drop_zero, List.take_succ_cons, List.take_zero, List.toList_toArray, argsE, Array.append_empty, Array.empty_append, List.getElem?_toArray, Int.reduceLT, Int.reduceLE, Int.reduceToNat, Int.reduceEq, Nat.reduceLT, hor, fp, fc, fc', w5, w6, plV, bdV, undef_eq]
          rw [hacc, hst]
          obtain ⟨v1, v2, v3, h1, h2⟩ := take
          exact ⟨v1, v2, v3, h1, .inl h2⟩
        · have hst : chStep g l b (some x) p = some x := by unfold chStep; rw [if_neg (fun hh => hb (hh.2 x rfl))]
          have hor : decide (orF [cmp (costF g l p).s x.2.s, cmp (costF g l p).v x.2.v, cmp (costF g l p).d x.2.d] < 0) = false := by rw [better_or]; simpa using hb
          simp only [↓eD0, ↓eD1, eC0, eC1, eC2, eC3, eC4, eC5, eC6, wantedE, ↓reduceIte, Nat.reduceEqDiff, Option.map_some, Option.map_none, reread, List.nil_append, List.cons_append, List.map_cons, List.map_nil, List.length_nil, List.length_cons, Value.cells, List.getElem?_cons_zero, List.getElem?_cons_succ, outE, lks, lkR, rdV, neg1, evs, opt, Nat.reduceAdd, Nat.reduceMul, and_self, reduceCtorEq, List.size_toArray, List.all_cons, List.all_nil, Value.oneCell', List.set_cons_zero, List.set_cons_succ, sets, fillL, Nat.reduceLeDiff, List.drop_succ_cons, List.drop_zero, List.take_succ_cons, List.take_zero, List.toList_toArray, argsE, Array.append_empty, Array.empty_append, List.getElem?_toArray, Int.reduceLT, Int.reduceLE, Int.reduceToNat, Int.reduceEq, Nat.reduceLT, hw, f5, f6, pl_eq, hz', fp, fc, plV, bdV, undef_eq]
          refine appK_of (compare_app (a := costF g l p) (b := x.2)) ?_
          rintro _ _ ⟨e2, rfl⟩
          rw [e2]
          clear e2
          simp only [↓eD0, ↓eD1, eC0, eC1, eC2, eC3, eC4, eC5, eC6, wantedE, ↓reduceIte, Nat.reduceEqDiff, Option.map_some, Option.map_none, reread, List.nil_append, List.cons_append, List.map_cons, List.map_nil, List.length_nil, List.length_cons, Value.cells, List.getElem?_cons_zero, List.getElem?_cons_succ, outE, lks, lkR, rdV, neg1, evs, opt, Nat.reduceAdd, Nat.reduceMul, and_self, reduceCtorEq, List.size_toArray, List.all_cons, List.all_nil, Value.oneCell', List.set_cons_zero, List.set_cons_succ, sets, fillL, Nat.reduceLeDiff, List.drop_succ_cons, List.drop_zero, List.take_succ_cons, List.take_zero, List.toList_toArray, argsE, Array.append_empty, Array.empty_append, List.getElem?_toArray, Int.reduceLT, Int.reduceLE, Int.reduceToNat, Int.reduceEq, Nat.reduceLT, hor, undef_eq]
          rw [hacc, hst]
          obtain ⟨v1, v2, v3, h1, h2⟩ := skip
          exact ⟨v1, v2, v3, h1, .inl h2⟩
  · rintro v τ (⟨hE, hsz, ⟨ver, hl⟩⟩ | hF)
    · refine ⟨ver, .ready, none, hl, by simp, ?_⟩
      have hE1 := hE.set (c := T2.size) (k := .loop (ver + 1) .exhausted none R) (by omega) (by omega)
      have hzero := plOf_zero (g := g) (l := l) (b := b) (i := 18)
      generalize chL g l b 18 = acc at hE1 hzero ⊢
      generalize τ.setIfInBounds T2.size (.loop (ver + 1) .exhausted none R) = φ at hE1
      have f5 : rdN φ ⟨σ.size + 5, 0, none⟩ 2 = some (plV (plOf acc)) := by obtain ⟨v, q⟩ := hE1.b5; exact rdN_all q rfl
      have f6 : rdN φ ⟨σ.size + 6, 0, none⟩ 3 = some (bdV (bdOf acc)) := by obtain ⟨v, q⟩ := hE1.b6; exact rdN_all q rfl
      have f6' : ∀ k, rdN (φ.setIfInBounds (σ.size + 3) k) ⟨σ.size + 6, 0, none⟩ 3 = some (bdV (bdOf acc)) := fun k => by obtain ⟨v, q⟩ := hE1.b6; exact rdN_all ((get_set_ne (by omega)).trans q) rfl
      have w3 : ∀ a b, wrN φ ⟨σ.size + 3, 0, none⟩ [.int .i64 a, .int .i64 b] = some (φ.setIfInBounds (σ.size + 3) (.cells 1 [.int .i64 a, .int .i64 b] (0, 0))) := fun a b => by
        rw [wrN_eq, if_neg (by simp), hE1.b3, wrc_cells]; rfl
      have w4 : ∀ k a b c, wrN (φ.setIfInBounds (σ.size + 3) k) ⟨σ.size + 4, 0, none⟩ [.int .i64 a, .int .i64 b, .int .i64 c] = some ((φ.setIfInBounds (σ.size + 3) k).setIfInBounds (σ.size + 4) (.cells 1 [.int .i64 a, .int .i64 b, .int .i64 c] (0, 0))) := fun k a b c => by
        rw [wrN_eq, if_neg (by simp), get_set_ne (by show σ.size + 3 ≠ σ.size + 4; omega), hE1.b4, wrc_cells]; rfl
      have g3 : ∀ k a b, rdN ((φ.setIfInBounds (σ.size + 3) (.cells 1 [.int .i64 a, .int .i64 b] (0, 0))).setIfInBounds (σ.size + 4) k) ⟨σ.size + 3, 0, none⟩ 2 = some [.int .i64 a, .int .i64 b] := fun k a b =>
        rdN_all ((get_set_ne (by omega)).trans (get_set hE1.b3)) rfl
      have g4 : ∀ k a b c, rdN ((φ.setIfInBounds (σ.size + 3) k).setIfInBounds (σ.size + 4) (.cells 1 [.int .i64 a, .int .i64 b, .int .i64 c] (0, 0))) ⟨σ.size + 4, 0, none⟩ 3 = some [.int .i64 a, .int .i64 b, .int .i64 c] := fun k a b c =>
        rdN_all (get_set ((get_set_ne (by omega)).trans hE1.b4)) rfl
      have fin : ∀ k1 k2, Old σ ((φ.setIfInBounds (σ.size + 3) k1).setIfInBounds (σ.size + 4) k2) := fun k1 k2 => (hE1.old.set (by omega)).set (by omega)
      cases acc with
      | none =>
        simp only [plOf, bdOf, plV, bdV, erOf] at f5 f6 ⊢
        simp only [↓eD0, ↓eD1, eC0, eC1, eC2, eC3, eC4, eC5, eC6, wantedE, ↓reduceIte, Nat.reduceEqDiff, Option.map_some, Option.map_none, reread, List.nil_append, List.cons_append, List.map_cons, List.map_nil, List.length_nil, List.length_cons, Value.cells, List.getElem?_cons_zero, List.getElem?_cons_succ, outE, lks, lkR, rdV, neg1, evs, opt, Nat.reduceAdd, Nat.reduceMul, and_self, reduceCtorEq, List.size_toArray, List.all_cons, List.all_nil, Value.oneCell', List.set_cons_zero, List.set_cons_succ, sets, fillL, Nat.reduceLeDiff, List.drop_succ_cons, List.drop_zero, List.take_succ_cons, List.take_zero, List.toList_toArray, argsE, Array.append_empty, Array.empty_append, List.getElem?_toArray, Int.reduceLT, Int.reduceLE, Int.reduceToNat, Int.reduceEq, Nat.reduceLT, f5, pl_eq, decide_true, w3, w4, g3, g4, erOf]
        rw [ap_nil]
        exact fin _ _
      | some x =>
        have hz' : decide (x.1.m = 0 ∧ x.1.r = 0) = false := hzero
        simp only [plOf, bdOf, plV, bdV, erOf] at f5 f6 f6' ⊢
        simp only [↓eD0, ↓eD1, eC0, eC1, eC2, eC3, eC4, eC5, eC6, wantedE, ↓reduceIte, Nat.reduceEqDiff, Option.map_some, Option.map_none, reread, List.nil_append, List.cons_append, List.map_cons, List.map_nil, List.length_nil, List.length_cons, Value.cells, List.getElem?_cons_zero, List.getElem?_cons_succ, outE, lks, lkR, rdV, neg1, evs, opt, Nat.reduceAdd, Nat.reduceMul, and_self, reduceCtorEq, List.size_toArray, List.all_cons, List.all_nil, Value.oneCell', List.set_cons_zero, List.set_cons_succ, sets, fillL, Nat.reduceLeDiff, List.drop_succ_cons, List.drop_zero, List.take_succ_cons, List.take_zero, List.toList_toArray, argsE, Array.append_empty, Array.empty_append, List.getElem?_toArray, Int.reduceLT, Int.reduceLE, Int.reduceToNat, Int.reduceEq, Nat.reduceLT, f5, f6, f6', pl_eq, hz', w3, w4, g3, g4, undef_eq]
        rw [ap_nil]
        exact fin _ _
    · exact hF.elim
end Go.Proofs.Ytianomelnpiffaa

set_option linter.unusedSimpArgs false
set_option linter.unusedVariables false
set_option maxRecDepth 10000
set_option maxHeartbeats 1000000
namespace Go.Proofs.Ytianomelnpiffaa
open Go Go.Cn Go.RowKit
attribute [local irreducible] evL sem onG onI onV

def chV (acc : Option (Pl × Bd)) : List Value := [.int .i64 (plOf acc).m, .int .i64 (plOf acc).r, .int .i64 (bdOf acc).d, .int .i64 (bdOf acc).v, .int .i64 (bdOf acc).s, .int .i64 (erOf acc)]
structure EF (σ T τ : H) (g : Ld) (l : Ln) (b : Bd) (lv : Value) (acc : Option (Pl × Bd)) : Prop where
  old : Old σ τ
  b0 : τ[σ.size]? = some (.cells 0 (ldV g) (0, 0))
  b1 : τ[σ.size + 1]? = some (.cells 0 (lnV l) (0, 0))
  b2 : τ[σ.size + 2]? = some (.cells 0 (bdV b) (0, 0))
  b3 : τ[σ.size + 3]? = some (.cells 0 [.int .i64 0, .int .i64 0, .int .i64 0, .int .i64 0, .int .i64 0, .int .i64 0] (0, 0))
  b4 : ∃ v, τ[σ.size + 4]? = some (.cells v (chV acc) (0, 0))
  row : Grown T τ 2 lv (plansL.map plV).flatten plansL.length
theorem EF.old' {σ T τ τ' : H} {g : Ld} {l : Ln} {b : Bd} {lv : Value} {acc : Option (Pl × Bd)} (h : EF σ T τ g l b lv acc) (ho : Old τ τ') : EF σ T τ' g l b lv acc :=
  ⟨h.old.trans ho, (ho.2 _ (Array.getElem?_eq_some_iff.1 h.b0).1).trans h.b0, (ho.2 _ (Array.getElem?_eq_some_iff.1 h.b1).1).trans h.b1, (ho.2 _ (Array.getElem?_eq_some_iff.1 h.b2).1).trans h.b2, (ho.2 _ (Array.getElem?_eq_some_iff.1 h.b3).1).trans h.b3,
    let ⟨v, q⟩ := h.b4; ⟨v, (ho.2 _ (Array.getElem?_eq_some_iff.1 q).1).trans q⟩, h.row.old ho⟩
theorem EF.upd {σ T τ : H} {g : Ld} {l : Ln} {b : Bd} {lv : Value} {acc : Option (Pl × Bd)} {x : Pl × Bd} {v1 : Nat} (h : EF σ T τ g l b lv acc) (hT : T.size = σ.size + 5) :
    EF σ T (τ.setIfInBounds (σ.size + 4) (.cells v1 (chV (some x)) (0, 0))) g l b lv (some x) :=
  ⟨h.old.set (by omega), (get_set_ne (by omega)).trans h.b0, (get_set_ne (by omega)).trans h.b1, (get_set_ne (by omega)).trans h.b2, (get_set_ne (by omega)).trans h.b3,
    let ⟨v, q⟩ := h.b4; ⟨v1, get_set q⟩, h.row.set (by omega)⟩
theorem wr_push4 {σ : H} {a b c d : Int} {x0 : List Value} (h : x0.length = 4) : wrN (σ.push (.cells 0 x0 (0, 0))) ⟨σ.size, 0, none⟩ [.int .i64 a, .int .i64 b, .int .i64 c, .int .i64 d] = some (σ.push (.cells 1 [.int .i64 a, .int .i64 b, .int .i64 c, .int .i64 d] (0, 0))) := by
  match x0, h with
  | [p, q, r, s], _ =>
    have : wrN (ap σ [.cells 0 [p, q, r, s] (0, 0)]) ⟨σ.size, 0, none⟩ [.int .i64 a, .int .i64 b, .int .i64 c, .int .i64 d] = some (ap σ [.cells 1 [.int .i64 a, .int .i64 b, .int .i64 c, .int .i64 d] (0, 0)]) := by
      rw [wrN_ap0]; rfl
    simpa [ap] using this
theorem old_push {σ : H} {k : Blk} : Old σ (σ.push k) := by have := Old.ap (σ := σ) (l := [k]); simpa [ap] using this

theorem choose20_app {g : Ld} {l : Ln} {b : Bd} {σ : H} : App Try.prog (.func 20) #[] #[.agg (ldV g).toArray, .agg (lnV l).toArray, .agg (bdV b).toArray] σ fun v σ' => Old σ σ' ∧ v = .agg #[.int .i64 (chooseF g l b).1.1.m, .int .i64 (chooseF g l b).1.1.r, .int .i64 (chooseF g l b).1.2.d, .int .i64 (chooseF g l b).1.2.v, .int .i64 (chooseF g l b).1.2.s, .int .i64 (chooseF g l b).2] := by
  refine App.of_sem mixed Try.func20 t20 k20 r20 (Nat.le_of_ble_eq_true rfl) ?_
  rw [← ap_nil (σ := σ)]
  unfold s20 chooseF
  simp only [↓eD0, ↓eD1, eC0, eC1, eC2, eC3, eC4, eC5, eC6, wantedE, ↓reduceIte, Nat.reduceEqDiff, Option.map_some, Option.map_none, reread, List.nil_append, List.cons_append, List.map_cons, List.map_nil, List.length_nil, List.length_cons, Value.cells, List.getElem?_cons_zero, List.getElem?_cons_succ, outE, lks, lkR, rdV, neg1, evs, opt, Nat.reduceAdd, Nat.reduceMul, and_self, reduceCtorEq, List.size_toArray, List.all_cons, List.all_nil, Value.oneCell', List.set_cons_zero, List.set_cons_succ, sets, fillL, Nat.reduceLeDiff, List.drop_succ_cons, List.drop_zero, List.take_succ_cons, List.take_zero, List.toList_toArray, argsE, Array.append_empty, Array.empty_append, List.getElem?_toArray, Int.reduceLT, Int.reduceLE, Int.reduceToNat, Int.reduceEq, Nat.reduceLT, ldV, lnV, bdV, rep6]
  refine appK_of check15_app ?_
  rintro _ _ ⟨e2, rfl⟩
  rw [e2]
  clear e2
  by_cases h : OkF g l
  case neg =>
    have d1 : decide (chk g l = 0) = false := by unfold chk; rw [if_neg h]; rfl
    have hc : chk g l = 7 := if_neg h
    simp only [↓eD0, ↓eD1, eC0, eC1, eC2, eC3, eC4, eC5, eC6, wantedE, ↓reduceIte, Nat.reduceEqDiff, Option.map_some, Option.map_none, reread, List.nil_append, List.cons_append, List.map_cons, List.map_nil, List.length_nil, List.length_cons, Value.cells, List.getElem?_cons_zero, List.getElem?_cons_succ, outE, lks, lkR, rdV, neg1, evs, opt, Nat.reduceAdd, Nat.reduceMul, and_self, reduceCtorEq, List.size_toArray, List.all_cons, List.all_nil, Value.oneCell', List.set_cons_zero, List.set_cons_succ, sets, fillL, Nat.reduceLeDiff, List.drop_succ_cons, List.drop_zero, List.take_succ_cons, List.take_zero, List.toList_toArray, argsE, Array.append_empty, Array.empty_append, List.getElem?_toArray, Int.reduceLT, Int.reduceLE, Int.reduceToNat, Int.reduceEq, Nat.reduceLT, d1, rep6]
    rw [if_neg h, hc, ap_nil]
    exact ⟨.ap, rfl⟩
  have d1 : decide (chk g l = 0) = true := by unfold chk; rw [if_pos h]; rfl
  simp only [↓eD0, ↓eD1, eC0, eC1, eC2, eC3, eC4, eC5, eC6, wantedE, ↓reduceIte, Nat.reduceEqDiff, Option.map_some, Option.map_none, reread, List.nil_append, List.cons_append, List.map_cons, List.map_nil, List.length_nil, List.length_cons, Value.cells, List.getElem?_cons_zero, List.getElem?_cons_succ, outE, lks, lkR, rdV, neg1, evs, opt, Nat.reduceAdd, Nat.reduceMul, and_self, reduceCtorEq, List.size_toArray, List.all_cons, List.all_nil, Value.oneCell', List.set_cons_zero, List.set_cons_succ, sets, fillL, Nat.reduceLeDiff, List.drop_succ_cons, List.drop_zero, List.take_succ_cons, List.take_zero, List.toList_toArray, argsE, Array.append_empty, Array.empty_append, List.getElem?_toArray, Int.reduceLT, Int.reduceLE, Int.reduceToNat, Int.reduceEq, Nat.reduceLT, d1, rep6]
  rw [if_pos h]
  generalize hT : ap σ [.cells 0 [.int .i64 g.p, .int .i64 g.h, .int .i64 g.r, .int .i64 g.s] (0, 0), .cells 0 [.int .i64 l.p, .int .i64 l.d] (0, 0), .cells 0 [.int .i64 b.d, .int .i64 b.v, .int .i64 b.s] (0, 0), .cells 0 [.int .i64 0, .int .i64 0, .int .i64 0, .int .i64 0, .int .i64 0, .int .i64 0] (0, 0), .cells 1 [.int .i64 0, .int .i64 0, .int .i64 0, .int .i64 0, .int .i64 0, .int .i64 4] (0, 0)] = T
  have hTs : T.size = σ.size + 5 := by rw [← hT, ap_size]; rfl
  have hoT : Old σ T := by rw [← hT]; exact .ap
  have q0 : T[σ.size]? = some (.cells 0 (ldV g) (0, 0)) := by rw [← hT]; exact ap_new0
  have q1 : T[σ.size + 1]? = some (.cells 0 (lnV l) (0, 0)) := by rw [← hT]; exact ap_new
  have q2 : T[σ.size + 2]? = some (.cells 0 (bdV b) (0, 0)) := by rw [← hT]; exact ap_new
  have q3 : T[σ.size + 3]? = some (.cells 0 [.int .i64 0, .int .i64 0, .int .i64 0, .int .i64 0, .int .i64 0, .int .i64 0] (0, 0)) := by rw [← hT]; exact ap_new
  have q4 : T[σ.size + 4]? = some (.cells 1 [.int .i64 0, .int .i64 0, .int .i64 0, .int .i64 0, .int .i64 0, .int .i64 4] (0, 0)) := by rw [← hT]; exact ap_new
  clear hT
  refine appK_of plans30_app ?_
  rintro lv θ ⟨ho, hgr⟩
  obtain ⟨base, cap, rfl⟩ := hgr.slice
  have h0 : EF σ T θ g l b (.slice base plansL.length cap) (chL g l b 0) :=
    ⟨hoT.trans ho, (ho.2 _ (by omega)).trans q0, (ho.2 _ (by omega)).trans q1, (ho.2 _ (by omega)).trans q2, (ho.2 _ (by omega)).trans q3, ⟨1, by unfold chL; exact (ho.2 _ (by omega)).trans q4⟩, hgr⟩
  clear hgr ho q0 q1 q2 q3 q4
  have hlen := plans_len
  simp only [↓eD0, ↓eD1, eC0, eC1, eC2, eC3, eC4, eC5, eC6, wantedE, ↓reduceIte, Nat.reduceEqDiff, Option.map_some, Option.map_none, reread, List.nil_append, List.cons_append, List.map_cons, List.map_nil, List.length_nil, List.length_cons, Value.cells, List.getElem?_cons_zero, List.getElem?_cons_succ, outE, lks, lkR, rdV, neg1, evs, opt, Nat.reduceAdd, Nat.reduceMul, and_self, reduceCtorEq, List.size_toArray, List.all_cons, List.all_nil, Value.oneCell', List.set_cons_zero, List.set_cons_succ, sets, fillL, Nat.reduceLeDiff, List.drop_succ_cons, List.drop_zero, List.take_succ_cons, List.take_zero, List.toList_toArray, argsE, Array.append_empty, Array.empty_append, List.getElem?_toArray, Int.reduceLT, Int.reduceLE, Int.reduceToNat, Int.reduceEq, Nat.reduceLT]
  refine loop_for (J := fun i e τ => i ≤ 18 ∧ e = [(3, .pointer (some ⟨σ.size, 0, none⟩)), (4, .pointer (some ⟨σ.size + 1, 0, none⟩)), (5, .pointer (some ⟨σ.size + 2, 0, none⟩)), (6, .pointer (some ⟨σ.size + 3, 0, none⟩)), (8, .pointer (some ⟨σ.size + 4, 0, none⟩)), (9, .slice base plansL.length cap), (10, .int .i64 i)] ∧ EF σ T τ g l b (.slice base plansL.length cap) (chL g l b i)) 18 ⟨by omega, rfl, h0⟩ ?_
  rintro i e τ hi ⟨_, rfl, hE⟩
  by_cases hlt : i < 18
  · have dl : decide ((i:Int) < (plansL.length : Int)) = true := by rw [decide_eq_true]; omega
    have hw : IntKind.wrap .i64 ((i:Int) + 1) = ((i + 1 : Nat) : Int) := by rw [wrap64' (by omega) (by omega)]; omega
    have hbb : (0:Int) ≤ (i:Int) ∧ (i:Int) < (plansL.length : Int) := by omega
    have hi' : i < plansL.length := by omega
    have hR : Row τ 2 (.slice base plansL.length cap) (plansL.map plV) := by
      have := Grown.Row (rows := plansL.map plV) (σ0 := T) (σ := τ) (s := 2) (v := .slice base plansL.length cap) (by simpa using hE.row) plV_rows
      exact this
    obtain ⟨pb, po, rfl, hp⟩ := hR.at (i := i) (x := plV plansL[i]) (by simp [hi'])
    have fg : rdN τ ⟨σ.size, 0, none⟩ 4 = some (ldV g) := rdN_all hE.b0 rfl
    have fl : rdN τ ⟨σ.size + 1, 0, none⟩ 2 = some (lnV l) := rdN_all hE.b1 rfl
    have hacc : chL g l b (i + 1) = chStep g l b (chL g l b i) plansL[i] := chL_succ hi'
    generalize chL g l b i = acc at hE hacc
    have hin : plansL[i] ∈ plansL := by simp
    generalize plansL[i] = p at hp hacc hin
    have hest : estF g l p = (costF g l p, 0) := by unfold estF; rw [if_pos h, if_pos hin]
    simp only [↓eD0, ↓eD1, eC0, eC1, eC2, eC3, eC4, eC5, eC6, wantedE, ↓reduceIte, Nat.reduceEqDiff, Option.map_some, Option.map_none, reread, List.nil_append, List.cons_append, List.map_cons, List.map_nil, List.length_nil, List.length_cons, Value.cells, List.getElem?_cons_zero, List.getElem?_cons_succ, outE, lks, lkR, rdV, neg1, evs, opt, Nat.reduceAdd, Nat.reduceMul, and_self, reduceCtorEq, List.size_toArray, List.all_cons, List.all_nil, Value.oneCell', List.set_cons_zero, List.set_cons_succ, sets, fillL, Nat.reduceLeDiff, List.drop_succ_cons, List.drop_zero, List.take_succ_cons, List.take_zero, List.toList_toArray, argsE, Array.append_empty, Array.empty_append, List.getElem?_toArray, Int.reduceLT, Int.reduceLE, Int.reduceToNat, Int.reduceEq, Nat.reduceLT, dl, hbb, Int.toNat_natCast, fg, fl, hp, ldV, lnV, plV, rep4]
    refine appK_of (est12_app (g := g) (l := l) (p := p)) ?_
    rintro _ φ1 ⟨ho1, rfl⟩
    rw [hest]
    have z1 : φ1[τ.size]? = some (.cells 0 [.int .i64 0, .int .i64 0, .int .i64 0, .int .i64 0] (0, 0)) := (ho1.2 _ (by simp)).trans (by simp)
    have w1 : ∀ a b c d, wrN φ1 ⟨τ.size, 0, none⟩ [.int .i64 a, .int .i64 b, .int .i64 c, .int .i64 d] = some (φ1.setIfInBounds τ.size (.cells 1 [.int .i64 a, .int .i64 b, .int .i64 c, .int .i64 d] (0, 0))) := fun a b c d => by
      rw [wrN_eq, if_neg (by simp), z1, wrc_cells]; rfl
    simp only [↓eD0, ↓eD1, eC0, eC1, eC2, eC3, eC4, eC5, eC6, wantedE, ↓reduceIte, Nat.reduceEqDiff, Option.map_some, Option.map_none, reread, List.nil_append, List.cons_append, List.map_cons, List.map_nil, List.length_nil, List.length_cons, Value.cells, List.getElem?_cons_zero, List.getElem?_cons_succ, outE, lks, lkR, rdV, neg1, evs, opt, Nat.reduceAdd, Nat.reduceMul, and_self, reduceCtorEq, List.size_toArray, List.all_cons, List.all_nil, Value.oneCell', List.set_cons_zero, List.set_cons_succ, sets, fillL, Nat.reduceLeDiff, List.drop_succ_cons, List.drop_zero, List.take_succ_cons, List.take_zero, List.toList_toArray, argsE, Array.append_empty, Array.empty_append, List.getElem?_toArray, Int.reduceLT, Int.reduceLE, Int.reduceToNat, Int.reduceEq, Nat.reduceLT, w1]
    have ho2 : Old τ (φ1.setIfInBounds τ.size (.cells 1 [.int .i64 (costF g l p).d, .int .i64 (costF g l p).v, .int .i64 (costF g l p).s, .int .i64 0] (0, 0))) := (old_push.trans ho1).set (Nat.le_refl _)
    have z2 := get_set (k := .cells 1 [.int .i64 (costF g l p).d, .int .i64 (costF g l p).v, .int .i64 (costF g l p).s, .int .i64 0] (0, 0)) z1
    generalize φ1.setIfInBounds τ.size (.cells 1 [.int .i64 (costF g l p).d, .int .i64 (costF g l p).v, .int .i64 (costF g l p).s, .int .i64 0] (0, 0)) = φ2 at ho2 z2
    have hE2 := hE.old' ho2
    have hp2 := rdN_Old ho2 hp
    have fc : rdN φ2 ⟨τ.size, 0, none⟩ 3 = some (bdV (costF g l p)) := rdN_sub (a := 0) (n := 4) (rdN_all z2 rfl) (by omega)
    have fb : rdN φ2 ⟨σ.size + 2, 0, none⟩ 3 = some (bdV b) := rdN_all hE2.b2 rfl
    obtain ⟨u4, g4⟩ := hE2.b4
    have f4 : rd1 φ2 ⟨σ.size + 4, 5, none⟩ = some (.int .i64 (erOf acc)) := by rw [rd1_eq, g4]; rfl
    have f4' : rdN φ2 ⟨σ.size + 4, 2, none⟩ 3 = some (bdV (bdOf acc)) := rdN_sub (a := 2) (o := 0) (n := 6) (rdN_all g4 rfl) (by omega)
    have w4 : ∀ a b c d e f, wrN φ2 ⟨σ.size + 4, 0, none⟩ [.int .i64 a, .int .i64 b, .int .i64 c, .int .i64 d, .int .i64 e, .int .i64 f] = some (φ2.setIfInBounds (σ.size + 4) (.cells (u4 + 1) [.int .i64 a, .int .i64 b, .int .i64 c, .int .i64 d, .int .i64 e, .int .i64 f] (0, 0))) := fun a b c d e f => by
      rw [wrN_eq, if_neg (by simp), g4, wrc_cells]; rfl
    have hU := hE2.upd (x := (p, costF g l p)) (v1 := u4 + 1) hTs
    simp only [↓eD0, ↓eD1, eC0, eC1, eC2, eC3, eC4, eC5, eC6, wantedE, ↓reduceIte, Nat.reduceEqDiff, Option.map_some, Option.map_none, reread, List.nil_append, List.cons_append, List.map_cons, List.map_nil, List.length_nil, List.length_cons, Value.cells, List.getElem?_cons_zero, List.getElem?_cons_succ, outE, lks, lkR, rdV, neg1, evs, opt, Nat.reduceAdd, Nat.reduceMul, and_self, reduceCtorEq, List.size_toArray, List.all_cons, List.all_nil, Value.oneCell', List.set_cons_zero, List.set_cons_succ, sets, fillL, Nat.reduceLeDiff, List.drop_succ_cons, List.drop_zero, List.take_succ_cons, List.take_zero, List.toList_toArray, argsE, Array.append_empty, Array.empty_append, List.getElem?_toArray, Int.reduceLT, Int.reduceLE, Int.reduceToNat, Int.reduceEq, Nat.reduceLT, fc, fb, bdV]
    refine appK_of (within18_app (a := costF g l p) (b := b)) ?_
    rintro _ _ ⟨e2, rfl⟩
    rw [e2]
    clear e2
    by_cases hwi : within (costF g l p) b = true
    case neg =>
      have hw' : within (costF g l p) b = false := by simpa using hwi
      have hst : chStep g l b acc p = acc := by unfold chStep; rw [if_neg (fun hh => hwi hh.1)]
      rw [hst] at hacc
      simp only [↓eD0, ↓eD1, eC0, eC1, eC2, eC3, eC4, eC5, eC6, wantedE, ↓reduceIte, Nat.reduceEqDiff, Option.map_some, Option.map_none, reread, List.nil_append, List.cons_append, List.map_cons, List.map_nil, List.length_nil, List.length_cons, Value.cells, List.getElem?_cons_zero, List.getElem?_cons_succ, outE, lks, lkR, rdV, neg1, evs, opt, Nat.reduceAdd, Nat.reduceMul, and_self, reduceCtorEq, List.size_toArray, List.all_cons, List.all_nil, Value.oneCell', List.set_cons_zero, List.set_cons_succ, sets, fillL, Nat.reduceLeDiff, List.drop_succ_cons, List.drop_zero, List.take_succ_cons, List.take_zero, List.toList_toArray, argsE, Array.append_empty, Array.empty_append, List.getElem?_toArray, Int.reduceLT, Int.reduceLE, Int.reduceToNat, Int.reduceEq, Nat.reduceLT, hw', undef_eq, hw]
      refine ⟨hlt, by omega, ?_⟩
      rw [hacc]
      exact hE2
    cases acc with
    | none =>
      have hst : chStep g l b none p = some (p, costF g l p) := by unfold chStep; rw [if_pos ⟨hwi, by simp⟩]
      rw [hst] at hacc
      simp only [bdOf, bdV, erOf] at f4 f4'
      simp only [↓eD0, ↓eD1, eC0, eC1, eC2, eC3, eC4, eC5, eC6, wantedE, ↓reduceIte, Nat.reduceEqDiff, Option.map_some, Option.map_none, reread, List.nil_append, List.cons_append, List.map_cons, List.map_nil, List.length_nil, List.length_cons, Value.cells, List.getElem?_cons_zero, List.getElem?_cons_succ, outE, lks, lkR, rdV, neg1, evs, opt, Nat.reduceAdd, Nat.reduceMul, and_self, reduceCtorEq, List.size_toArray, List.all_cons, List.all_nil, Value.oneCell', List.set_cons_zero, List.set_cons_succ, sets, fillL, Nat.reduceLeDiff, List.drop_succ_cons, List.drop_zero, List.take_succ_cons, List.take_zero, List.toList_toArray, argsE, Array.append_empty, Array.empty_append, List.getElem?_toArray, Int.reduceLT, Int.reduceLE, Int.reduceToNat, Int.reduceEq, Nat.reduceLT, hwi, f4, f4', fc, hp2, hbb, Int.toNat_natCast, w4, plV, bdV, undef_eq, rep6, hw]
      refine ⟨hlt, by omega, ?_⟩
      rw [hacc]
      exact hU
    | some x =>
      simp only [bdOf, bdV, erOf] at f4 f4'
      by_cases hb : better (costF g l p) x.2 = true
      · have hst : chStep g l b (some x) p = some (p, costF g l p) := by unfold chStep; rw [if_pos ⟨hwi, fun y hy => by cases hy; exact hb⟩]
        rw [hst] at hacc
        simp only [↓eD0, ↓eD1, eC0, eC1, eC2, eC3, eC4, eC5, eC6, wantedE, ↓reduceIte, Nat.reduceEqDiff, Option.map_some, Option.map_none, reread, List.nil_append, List.cons_append, List.map_cons, List.map_nil, List.length_nil, List.length_cons, Value.cells, List.getElem?_cons_zero, List.getElem?_cons_succ, outE, lks, lkR, rdV, neg1, evs, opt, Nat.reduceAdd, Nat.reduceMul, and_self, reduceCtorEq, List.size_toArray, List.all_cons, List.all_nil, Value.oneCell', List.set_cons_zero, List.set_cons_succ, sets, fillL, Nat.reduceLeDiff, List.drop_succ_cons, List.drop_zero, List.take_succ_cons, List.take_zero, List.toList_toArray, argsE, Array.append_empty, Array.empty_append, List.getElem?_toArray, Int.reduceLT, Int.reduceLE, Int.reduceToNat, Int.reduceEq, Nat.reduceLT, hwi, f4, f4', fc, bdV, undef_eq]
        refine appK_of (better_app (a := costF g l p) (b := x.2)) ?_
        rintro _ _ ⟨e2, rfl⟩
        rw [e2]
        clear e2
        simp only [↓eD0, ↓eD1, eC0, eC1, eC2, eC3, eC4, eC5, eC6, wantedE, ↓reduceIte, Nat.reduceEqDiff, Option.map_some, Option.map_none, reread, List.nil_append, List.cons_append, List.map_cons, List.map_nil, List.length_nil, List.length_cons, Value.cells, List.getElem?_cons_zero, List.getElem?_cons_succ, outE, lks, lkR, rdV, neg1, evs, opt, Nat.reduceAdd, Nat.reduceMul, and_self, reduceCtorEq, List.size_toArray, List.all_cons, List.all_nil, Value.oneCell', List.set_cons_zero, List.set_cons_succ, sets, fillL, Nat.reduceLeDiff, List.drop_succ_cons, List.drop_zero, List.take_succ_cons, List.take_zero, List.toList_toArray, argsE, Array.append_empty, Array.empty_append, List.getElem?_toArray, Int.reduceLT, Int.reduceLE, Int.reduceToNat, Int.reduceEq, Nat.reduceLT, hb, fc, hp2, hbb, Int.toNat_natCast, w4, plV, bdV, undef_eq, rep6, hw]
        refine ⟨hlt, by omega, ?_⟩
        rw [hacc]
        exact hU
      · have hst : chStep g l b (some x) p = some x := by unfold chStep; rw [if_neg (fun hh => hb (hh.2 x rfl))]
        rw [hst] at hacc
        have hb' : better (costF g l p) x.2 = false := by simpa using hb
        simp only [↓eD0, ↓eD1, eC0, eC1, eC2, eC3, eC4, eC5, eC6, wantedE, ↓reduceIte, Nat.reduceEqDiff, Option.map_some, Option.map_none, reread, List.nil_append, List.cons_append, List.map_cons, List.map_nil, List.length_nil, List.length_cons, Value.cells, List.getElem?_cons_zero, List.getElem?_cons_succ, outE, lks, lkR, rdV, neg1, evs, opt, Nat.reduceAdd, Nat.reduceMul, and_self, reduceCtorEq, List.size_toArray, List.all_cons, List.all_nil, Value.oneCell', List.set_cons_zero, List.set_cons_succ, sets, fillL, Nat.reduceLeDiff, List.drop_succ_cons, List.drop_zero, List.take_succ_cons, List.take_zero, List.toList_toArray, argsE, Array.append_empty, Array.empty_append, List.getElem?_toArray, Int.reduceLT, Int.reduceLE, Int.reduceToNat, Int.reduceEq, Nat.reduceLT, hwi, f4, f4', fc, bdV, undef_eq]
        refine appK_of (better_app (a := costF g l p) (b := x.2)) ?_
        rintro _ _ ⟨e2, rfl⟩
        rw [e2]
        clear e2
        simp only [↓eD0, ↓eD1, eC0, eC1, eC2, eC3, eC4, eC5, eC6, wantedE, ↓reduceIte, Nat.reduceEqDiff, Option.map_some, Option.map_none, reread, List.nil_append, List.cons_append, List.map_cons, List.map_nil, List.length_nil, List.length_cons, Value.cells, List.getElem?_cons_zero, List.getElem?_cons_succ, outE, lks, lkR, rdV, neg1, evs, opt, Nat.reduceAdd, Nat.reduceMul, and_self, reduceCtorEq, List.size_toArray, List.all_cons, List.all_nil, Value.oneCell', List.set_cons_zero, List.set_cons_succ, sets, fillL, Nat.reduceLeDiff, List.drop_succ_cons, List.drop_zero, List.take_succ_cons, List.take_zero, List.toList_toArray, argsE, Array.append_empty, Array.empty_append, List.getElem?_toArray, Int.reduceLT, Int.reduceLE, Int.reduceToNat, Int.reduceEq, Nat.reduceLT, hb', undef_eq, hw]
        refine ⟨hlt, by omega, ?_⟩
        rw [hacc]
        exact hE2
  · have : i = 18 := by omega
    subst this
    have dl : decide (((18:Nat):Int) < (plansL.length : Int)) = false := by rw [plans_len]; rfl
    generalize chL g l b 18 = acc at hE
    obtain ⟨u4, g4⟩ := hE.b4
    have f4 : rdN τ ⟨σ.size + 4, 0, none⟩ 6 = some (chV acc) := rdN_all g4 rfl
    have w3 : ∀ a b c d e f, wrN τ ⟨σ.size + 3, 0, none⟩ [.int .i64 a, .int .i64 b, .int .i64 c, .int .i64 d, .int .i64 e, .int .i64 f] = some (τ.setIfInBounds (σ.size + 3) (.cells 1 [.int .i64 a, .int .i64 b, .int .i64 c, .int .i64 d, .int .i64 e, .int .i64 f] (0, 0))) := fun a b c d e f => by
      rw [wrN_eq, if_neg (by simp), hE.b3, wrc_cells]; rfl
    have g3 : ∀ a b c d e f, rdN (τ.setIfInBounds (σ.size + 3) (.cells 1 [.int .i64 a, .int .i64 b, .int .i64 c, .int .i64 d, .int .i64 e, .int .i64 f] (0, 0))) ⟨σ.size + 3, 0, none⟩ 6 = some [.int .i64 a, .int .i64 b, .int .i64 c, .int .i64 d, .int .i64 e, .int .i64 f] := fun a b c d e f =>
      rdN_all (get_set hE.b3) rfl
    simp only [↓eD0, ↓eD1, eC0, eC1, eC2, eC3, eC4, eC5, eC6, wantedE, ↓reduceIte, Nat.reduceEqDiff, Option.map_some, Option.map_none, reread, List.nil_append, List.cons_append, List.map_cons, List.map_nil, List.length_nil, List.length_cons, Value.cells, List.getElem?_cons_zero, List.getElem?_cons_succ, outE, lks, lkR, rdV, neg1, evs, opt, Nat.reduceAdd, Nat.reduceMul, and_self, reduceCtorEq, List.size_toArray, List.all_cons, List.all_nil, Value.oneCell', List.set_cons_zero, List.set_cons_succ, sets, fillL, Nat.reduceLeDiff, List.drop_succ_cons, List.drop_zero, List.take_succ_cons, List.take_zero, List.toList_toArray, argsE, Array.append_empty, Array.empty_append, List.getElem?_toArray, Int.reduceLT, Int.reduceLE, Int.reduceToNat, Int.reduceEq, Nat.reduceLT, dl, f4, w3, g3, chV, rep6]
    rw [ap_nil]
    exact hE.old.set (by omega)
end Go.Proofs.Ytianomelnpiffaa
