/- Walks of the functions that the claim reaches. Conditions: none. -/
import Derived.Test.YtianomelnpiffaaPb
set_option linter.all false
set_option linter.unusedSimpArgs false
set_option linter.unusedVariables false
set_option maxRecDepth 10000
set_option maxHeartbeats 1000000
namespace Go.Proofs.Ytianomelnpiffaa
open Go Go.Cn Go.RowKit
attribute [local irreducible] evL sem onG onI onV

def estF (g : Ld) (l : Ln) (p : Pl) : Bd × Int := if OkF g l then (if p ∈ plansL then (costF g l p, 0) else (⟨0, 0, 0⟩, 1)) else (⟨0, 0, 0⟩, 7)

theorem yield_step {l n ver ver1 : Nat} {R : Rnd} {W : List Value → H → (Env → H → Prop) → Prop} {B : Env → H → (Exit → Env → H → Prop) → Prop} {pend pend1 : Option Code} {τ : H} {vs : List Value} {Ky : Value → H → Prop} (hY : Cn.Yields Try.prog l n R W B) (hτ : τ[l]? = some (.loop ver .ready pend R)) (hn : vs.length = n)
    (E : Env) (τ1 : H) (h1 : ∀ A : Env → H → Prop, A E τ1 → W vs τ A) (hl : τ1[l]? = some (.loop ver1 .ready pend1 R)) (h2 : B E (τ1.setIfInBounds l (.loop (ver1 + 1) .busy pend1 R)) (roundK l R Ky)) : App Try.prog (.yield l) #[] vs.toArray τ Ky :=
  hY ver pend τ vs Ky hτ hn (h1 _ ⟨ver1, pend1, hl, h2⟩)
theorem pl_eq {a b a' b' : Int} : aggEq [.int .i64, .int .i64] [.int .i64 a, .int .i64 b] [.int .i64 a', .int .i64 b'] = some (decide (a = a' ∧ b = b')) := by
  simp only [aggEq, Leaf.fits, leafEq, decide_true, and_self, ↓reduceIte]
  by_cases h1 : a = a' <;> by_cases h2 : b = b' <;> simp [h1, h2]
theorem rep6 : List.replicate 6 (Value.int .i64 0) = [.int .i64 0, .int .i64 0, .int .i64 0, .int .i64 0, .int .i64 0, .int .i64 0] := rfl

/-- The boxes of Estimate. -/
structure EB (σ τ : H) (g : Ld) (l : Ln) (p : Pl) : Prop where
  old : Old σ τ
  b0 : τ[σ.size]? = some (.cells 0 (ldV g) (0, 0))
  b1 : τ[σ.size + 1]? = some (.cells 0 (lnV l) (0, 0))
  b2 : τ[σ.size + 2]? = some (.cells 0 (plV p) (0, 0))
theorem EB.old' {σ τ τ' : H} {g : Ld} {l : Ln} {p : Pl} (h : EB σ τ g l p) (ho : Old τ τ') : EB σ τ' g l p :=
  ⟨h.old.trans ho, (ho.2 _ (Array.getElem?_eq_some_iff.1 h.b0).1).trans h.b0, (ho.2 _ (Array.getElem?_eq_some_iff.1 h.b1).1).trans h.b1, (ho.2 _ (Array.getElem?_eq_some_iff.1 h.b2).1).trans h.b2⟩
theorem EB.set {σ τ : H} {g : Ld} {l : Ln} {p : Pl} {b : Nat} {k : Blk} (h : EB σ τ g l p) (hb : σ.size + 3 ≤ b) : EB σ (τ.setIfInBounds b k) g l p :=
  ⟨h.old.set (by omega), (get_set_ne (by omega)).trans h.b0, (get_set_ne (by omega)).trans h.b1, (get_set_ne (by omega)).trans h.b2⟩

theorem est10_app {g : Ld} {l : Ln} {p : Pl} {σ : H} : App Try.prog (.func 10) #[] #[.agg (ldV g).toArray, .agg (lnV l).toArray, .agg (plV p).toArray] σ fun v σ' => Old σ σ' ∧ v = .tuple #[.agg (bdV (estF g l p).1).toArray, .int .i64 (estF g l p).2] := by
  refine App.of_sem mixed Try.func10 t10 k10 r10 (Nat.le_of_ble_eq_true rfl) ?_
  rw [← ap_nil (σ := σ)]
  unfold s10 estF
  simp only [↓eD0, ↓eD1, eC0, eC1, eC2, eC3, eC4, eC5, eC6, wantedE, ↓reduceIte, Nat.reduceEqDiff, Option.map_some, Option.map_none, reread, List.nil_append, List.cons_append, List.map_cons, List.map_nil, List.length_nil, List.length_cons, Value.cells, List.getElem?_cons_zero, List.getElem?_cons_succ, outE, lks, lkR, rdV, neg1, evs, opt, Nat.reduceAdd, Nat.reduceMul, and_self, reduceCtorEq, List.size_toArray, List.all_cons, List.all_nil, Value.oneCell', List.set_cons_zero, List.set_cons_succ, sets, fillL, Nat.reduceLeDiff, List.drop_succ_cons, List.drop_zero, List.take_succ_cons, List.take_zero, List.toList_toArray, argsE, Array.append_empty, Array.empty_append, List.getElem?_toArray, Int.reduceLT, Int.reduceLE, Int.reduceToNat, Int.reduceEq, Nat.reduceLT, ldV, lnV, plV]
  refine appK_of check14_app ?_
  rintro _ _ ⟨e2, rfl⟩
  rw [e2]
  clear e2
  by_cases h : OkF g l
  case neg =>
    have d1 : decide (chk g l = 0) = false := by unfold chk; rw [if_neg h]; rfl
    have hc : chk g l = 7 := if_neg h
    simp only [↓eD0, ↓eD1, eC0, eC1, eC2, eC3, eC4, eC5, eC6, wantedE, ↓reduceIte, Nat.reduceEqDiff, Option.map_some, Option.map_none, reread, List.nil_append, List.cons_append, List.map_cons, List.map_nil, List.length_nil, List.length_cons, Value.cells, List.getElem?_cons_zero, List.getElem?_cons_succ, outE, lks, lkR, rdV, neg1, evs, opt, Nat.reduceAdd, Nat.reduceMul, and_self, reduceCtorEq, List.size_toArray, List.all_cons, List.all_nil, Value.oneCell', List.set_cons_zero, List.set_cons_succ, sets, fillL, Nat.reduceLeDiff, List.drop_succ_cons, List.drop_zero, List.take_succ_cons, List.take_zero, List.toList_toArray, argsE, Array.append_empty, Array.empty_append, List.getElem?_toArray, Int.reduceLT, Int.reduceLE, Int.reduceToNat, Int.reduceEq, Nat.reduceLT, d1]
    rw [if_neg h, hc, ap_nil]
    exact ⟨.ap, rfl⟩
  have d1 : decide (chk g l = 0) = true := by unfold chk; rw [if_pos h]; rfl
  simp only [↓eD0, ↓eD1, eC0, eC1, eC2, eC3, eC4, eC5, eC6, wantedE, ↓reduceIte, Nat.reduceEqDiff, Option.map_some, Option.map_none, reread, List.nil_append, List.cons_append, List.map_cons, List.map_nil, List.length_nil, List.length_cons, Value.cells, List.getElem?_cons_zero, List.getElem?_cons_succ, outE, lks, lkR, rdV, neg1, evs, opt, Nat.reduceAdd, Nat.reduceMul, and_self, reduceCtorEq, List.size_toArray, List.all_cons, List.all_nil, Value.oneCell', List.set_cons_zero, List.set_cons_succ, sets, fillL, Nat.reduceLeDiff, List.drop_succ_cons, List.drop_zero, List.take_succ_cons, List.take_zero, List.toList_toArray, argsE, Array.append_empty, Array.empty_append, List.getElem?_toArray, Int.reduceLT, Int.reduceLE, Int.reduceToNat, Int.reduceEq, Nat.reduceLT, d1]
  rw [if_pos h]
  refine appK_of plans24_app ?_
  rintro _ _ ⟨e2, rfl⟩
  rw [e2]
  clear e2
  simp only [↓eD0, ↓eD1, eC0, eC1, eC2, eC3, eC4, eC5, eC6, wantedE, ↓reduceIte, Nat.reduceEqDiff, Option.map_some, Option.map_none, reread, List.nil_append, List.cons_append, List.map_cons, List.map_nil, List.length_nil, List.length_cons, Value.cells, List.getElem?_cons_zero, List.getElem?_cons_succ, outE, lks, lkR, rdV, neg1, evs, opt, Nat.reduceAdd, Nat.reduceMul, and_self, reduceCtorEq, List.size_toArray, List.all_cons, List.all_nil, Value.oneCell', List.set_cons_zero, List.set_cons_succ, sets, fillL, Nat.reduceLeDiff, List.drop_succ_cons, List.drop_zero, List.take_succ_cons, List.take_zero, List.toList_toArray, argsE, Array.append_empty, Array.empty_append, List.getElem?_toArray, Int.reduceLT, Int.reduceLE, Int.reduceToNat, Int.reduceEq, Nat.reduceLT]
  generalize hT : ap σ [.cells 0 [.int .i64 g.p, .int .i64 g.h, .int .i64 g.r, .int .i64 g.s] (0, 0), .cells 0 [.int .i64 l.p, .int .i64 l.d] (0, 0), .cells 0 [.int .i64 p.m, .int .i64 p.r] (0, 0), .cells 0 [.int .i64 0, .int .i64 0, .int .i64 0] (0, 0), .cells 0 [.int .i64 0] (0, 0)] = T
  have hTs : T.size = σ.size + 5 := by rw [← hT, ap_size]; rfl
  have hE : EB σ T g l p := by rw [← hT]; exact ⟨.ap, ap_new0, ap_new, ap_new⟩
  have q3 : T[σ.size + 3]? = some (.cells 0 [.int .i64 0, .int .i64 0, .int .i64 0] (0, 0)) := by rw [← hT]; exact ap_new
  have q4 : T[σ.size + 4]? = some (.cells 0 [.int .i64 0] (0, 0)) := by rw [← hT]; exact ap_new
  clear hT
  refine rng_of (by kernel_rfl) fun R hY => ?_
  have hlen := plans_len
  have hpush : ∀ k, Old T (T.push k) := fun k => by have := Old.ap (σ := T) (l := [k]); simpa [ap] using this
  refine (plans33_app (I := fun i τ => EB σ τ g l p ∧ T.size + 1 ≤ τ.size ∧ τ[σ.size + 3]? = some (.cells 0 [.int .i64 0, .int .i64 0, .int .i64 0] (0, 0)) ∧ τ[σ.size + 4]? = some (.cells 0 [.int .i64 0] (0, 0)) ∧ (∃ ver, τ[T.size]? = some (.loop ver .ready none R)) ∧ p ∉ plansL.take i)
    (S := fun τ => EB σ τ g l p ∧ τ[σ.size + 3]? = some (.cells 1 (bdV (costF g l p)) (0, 0)) ∧ τ[σ.size + 4]? = some (.cells 1 [.int .i64 0] (0, 0)) ∧ (∃ ver, τ[T.size]? = some (.loop ver .done (some .ret) R)) ∧ p ∈ plansL)
    ⟨hE.old' (hpush _), by simp, ((hpush _).2 _ (by omega)).trans q3, ((hpush _).2 _ (by omega)).trans q4, ⟨0, by simp⟩, by simp⟩ ?_).mono ?_
  · rintro i hi τ ⟨hE, hsz, p3, p4, ⟨ver, hl⟩, hnot⟩
    have zl := (Array.getElem?_eq_some_iff.1 hl).1
    refine yield_step hY hl rfl [(3, .pointer (some ⟨σ.size, 0, none⟩)), (4, .pointer (some ⟨σ.size + 1, 0, none⟩)), (5, .pointer (some ⟨σ.size + 2, 0, none⟩)), (6, .pointer (some ⟨σ.size + 3, 0, none⟩)), (7, .pointer (some ⟨σ.size + 4, 0, none⟩)), (9, .pointer (some ⟨τ.size, 0, none⟩))]
      (ap τ [.cells 1 [.int .i64 plansL[i].m, .int .i64 plansL[i].r] (0, 0)]) (fun A hA => ?_) ((ap_old zl).trans hl) ?_
    · rw [← ap_nil (σ := τ)]
      simp only [↓eD0, ↓eD1, eC0, eC1, eC2, eC3, eC4, eC5, eC6, wantedE, ↓reduceIte, Nat.reduceEqDiff, Option.map_some, Option.map_none, reread, List.nil_append, List.cons_append, List.map_cons, List.map_nil, List.length_nil, List.length_cons, Value.cells, List.getElem?_cons_zero, List.getElem?_cons_succ, outE, lks, lkR, rdV, neg1, evs, opt, Nat.reduceAdd, Nat.reduceMul, and_self, reduceCtorEq, List.size_toArray, List.all_cons, List.all_nil, Value.oneCell', List.set_cons_zero, List.set_cons_succ, sets, fillL, Nat.reduceLeDiff, List.drop_succ_cons, List.drop_zero, List.take_succ_cons, List.take_zero, List.toList_toArray, argsE, Array.append_empty, Array.empty_append, List.getElem?_toArray, Int.reduceLT, Int.reduceLE, Int.reduceToNat, Int.reduceEq, Nat.reduceLT]
      exact hA
    · have hz : T.size ≠ τ.size := by omega
      have hE1 := (hE.old' (Old.ap (l := [.cells 1 [.int .i64 plansL[i].m, .int .i64 plansL[i].r] (0, 0)]))).set (b := T.size) (k := .loop (ver + 1) .busy none R) (by omega)
      have r3 := (get_set_ne (k := .loop (ver + 1) .busy none R) (by omega : T.size ≠ σ.size + 3)).trans ((ap_old (l := [.cells 1 [.int .i64 plansL[i].m, .int .i64 plansL[i].r] (0, 0)]) (Array.getElem?_eq_some_iff.1 p3).1).trans p3)
      have r4 := (get_set_ne (k := .loop (ver + 1) .busy none R) (by omega : T.size ≠ σ.size + 4)).trans ((ap_old (l := [.cells 1 [.int .i64 plansL[i].m, .int .i64 plansL[i].r] (0, 0)]) (Array.getElem?_eq_some_iff.1 p4).1).trans p4)
      have rl := get_set (k := .loop (ver + 1) .busy none R) ((ap_old (l := [.cells 1 [.int .i64 plansL[i].m, .int .i64 plansL[i].r] (0, 0)]) zl).trans hl)
      have rx : ((ap τ [.cells 1 [.int .i64 plansL[i].m, .int .i64 plansL[i].r] (0, 0)]).setIfInBounds T.size (.loop (ver + 1) .busy none R))[τ.size]? = some (.cells 1 [.int .i64 plansL[i].m, .int .i64 plansL[i].r] (0, 0)) := (get_set_ne hz).trans ap_new0
      have hsz1 : τ.size + 1 ≤ ((ap τ [.cells 1 [.int .i64 plansL[i].m, .int .i64 plansL[i].r] (0, 0)]).setIfInBounds T.size (.loop (ver + 1) .busy none R)).size := by simp [ap_size]
      generalize (ap τ [.cells 1 [.int .i64 plansL[i].m, .int .i64 plansL[i].r] (0, 0)]).setIfInBounds T.size (.loop (ver + 1) .busy none R) = θ at hE1 r3 r4 rl rx hsz1
      have f0 : rdN θ ⟨σ.size, 0, none⟩ 4 = some (ldV g) := rdN_all hE1.b0 rfl
      have f1 : rdN θ ⟨σ.size + 1, 0, none⟩ 2 = some (lnV l) := rdN_all hE1.b1 rfl
      have f2 : rdN θ ⟨σ.size + 2, 0, none⟩ 2 = some (plV p) := rdN_all hE1.b2 rfl
      have f20 : rd1 θ ⟨σ.size + 2, 0, none⟩ = some (.int .i64 p.m) := by rw [rd1_eq, hE1.b2]; rfl
      have f21 : rd1 θ ⟨σ.size + 2, 1, none⟩ = some (.int .i64 p.r) := by rw [rd1_eq, hE1.b2]; rfl
      have fx : rdN θ ⟨τ.size, 0, none⟩ 2 = some [.int .i64 plansL[i].m, .int .i64 plansL[i].r] := rdN_all rx rfl
      have tk : plansL.take (i + 1) = plansL.take i ++ [plansL[i]] := List.take_succ_eq_append_getElem hi
      by_cases heq : plansL[i].m = p.m ∧ plansL[i].r = p.r
      case neg =>
        have de : decide (plansL[i].m = p.m ∧ plansL[i].r = p.r) = false := decide_eq_false heq
        simp only [↓eD0, ↓eD1, eC0, eC1, eC2, eC3, eC4, eC5, eC6, wantedE, ↓reduceIte, Nat.reduceEqDiff, Option.map_some, Option.map_none, reread, List.nil_append, List.cons_append, List.map_cons, List.map_nil, List.length_nil, List.length_cons, Value.cells, List.getElem?_cons_zero, List.getElem?_cons_succ, outE, lks, lkR, rdV, neg1, evs, opt, Nat.reduceAdd, Nat.reduceMul, and_self, reduceCtorEq, List.size_toArray, List.all_cons, List.all_nil, Value.oneCell', List.set_cons_zero, List.set_cons_succ, sets, fillL, Nat.reduceLeDiff, List.drop_succ_cons, List.drop_zero, List.take_succ_cons, List.take_zero, List.toList_toArray, argsE, Array.append_empty, Array.empty_append, List.getElem?_toArray, Int.reduceLT, Int.reduceLE, Int.reduceToNat, Int.reduceEq, Nat.reduceLT, fx, f2, plV, pl_eq, de]
        refine ⟨ver + 1, .busy, none, rl, .inl ⟨hE1.set (by omega), by simp; omega, (get_set_ne (by omega)).trans r3, (get_set_ne (by omega)).trans r4, ⟨_, get_set rl⟩, ?_⟩⟩
        rw [tk, List.mem_append, List.mem_singleton]
        rintro (hm | rfl)
        · exact hnot hm
        · exact heq ⟨rfl, rfl⟩
      have de : decide (plansL[i].m = p.m ∧ plansL[i].r = p.r) = true := decide_eq_true heq
      have hin : p ∈ plansL := by
        have : p = plansL[i] := by
          obtain ⟨m, r⟩ := p
          simp only at heq
          obtain ⟨h1, h2⟩ := heq
          subst h1 h2
          rfl
        rw [this]; simp
      simp only [↓eD0, ↓eD1, eC0, eC1, eC2, eC3, eC4, eC5, eC6, wantedE, ↓reduceIte, Nat.reduceEqDiff, Option.map_some, Option.map_none, reread, List.nil_append, List.cons_append, List.map_cons, List.map_nil, List.length_nil, List.length_cons, Value.cells, List.getElem?_cons_zero, List.getElem?_cons_succ, outE, lks, lkR, rdV, neg1, evs, opt, Nat.reduceAdd, Nat.reduceMul, and_self, reduceCtorEq, List.size_toArray, List.all_cons, List.all_nil, Value.oneCell', List.set_cons_zero, List.set_cons_succ, sets, fillL, Nat.reduceLeDiff, List.drop_succ_cons, List.drop_zero, List.take_succ_cons, List.take_zero, List.toList_toArray, argsE, Array.append_empty, Array.empty_append, List.getElem?_toArray, Int.reduceLT, Int.reduceLE, Int.reduceToNat, Int.reduceEq, Nat.reduceLT, fx, f0, f1, f2, f20, f21, ldV, lnV, plV, pl_eq, de, rep6]
      refine appK_of (modes_app (g := g) (l := l) h) ?_
      rintro _ θ1 ⟨ho1, ⟨mb, rfl⟩, hM⟩
      obtain ⟨f, cap, hlk, hap⟩ := hM θ1 (fun _ _ _ => rfl) p hin
      have f20 : rd1 θ1 ⟨σ.size + 2, 0, none⟩ = some (.int .i64 p.m) := rd1_Old ho1 f20
      have f21 : rd1 θ1 ⟨σ.size + 2, 1, none⟩ = some (.int .i64 p.r) := rd1_Old ho1 f21
      simp only [↓eD0, ↓eD1, eC0, eC1, eC2, eC3, eC4, eC5, eC6, wantedE, ↓reduceIte, Nat.reduceEqDiff, Option.map_some, Option.map_none, reread, List.nil_append, List.cons_append, List.map_cons, List.map_nil, List.length_nil, List.length_cons, Value.cells, List.getElem?_cons_zero, List.getElem?_cons_succ, outE, lks, lkR, rdV, neg1, evs, opt, Nat.reduceAdd, Nat.reduceMul, and_self, reduceCtorEq, List.size_toArray, List.all_cons, List.all_nil, Value.oneCell', List.set_cons_zero, List.set_cons_succ, sets, fillL, Nat.reduceLeDiff, List.drop_succ_cons, List.drop_zero, List.take_succ_cons, List.take_zero, List.toList_toArray, argsE, Array.append_empty, Array.empty_append, List.getElem?_toArray, Int.reduceLT, Int.reduceLE, Int.reduceToNat, Int.reduceEq, Nat.reduceLT, f20, f21, hlk]
      refine appK_of hap ?_
      rintro _ θ2 ⟨ho2, rfl⟩
      have ho := ho1.trans ho2
      have hE2 := hE1.old' ho
      have s3 := (ho.2 _ (Array.getElem?_eq_some_iff.1 r3).1).trans r3
      have s4 := (ho.2 _ (Array.getElem?_eq_some_iff.1 r4).1).trans r4
      have sl := (ho.2 _ (Array.getElem?_eq_some_iff.1 rl).1).trans rl
      have hsz2 := ho.1
      have w3 : ∀ a b c, wrN θ2 ⟨σ.size + 3, 0, none⟩ [.int .i64 a, .int .i64 b, .int .i64 c] = some (θ2.setIfInBounds (σ.size + 3) (.cells 1 [.int .i64 a, .int .i64 b, .int .i64 c] (0, 0))) := fun a b c => by
        rw [wrN_eq, if_neg (by simp), s3, wrc_cells]; rfl
      have w4 : ∀ k a, wrN (θ2.setIfInBounds (σ.size + 3) k) ⟨σ.size + 4, 0, none⟩ [.int .i64 a] = some ((θ2.setIfInBounds (σ.size + 3) k).setIfInBounds (σ.size + 4) (.cells 1 [.int .i64 a] (0, 0))) := fun k a => by
        rw [wrN_eq, if_neg (by simp), get_set_ne (by show σ.size + 3 ≠ σ.size + 4; omega), s4, wrc_cells]; rfl
      simp only [↓eD0, ↓eD1, eC0, eC1, eC2, eC3, eC4, eC5, eC6, wantedE, ↓reduceIte, Nat.reduceEqDiff, Option.map_some, Option.map_none, reread, List.nil_append, List.cons_append, List.map_cons, List.map_nil, List.length_nil, List.length_cons, Value.cells, List.getElem?_cons_zero, List.getElem?_cons_succ, outE, lks, lkR, rdV, neg1, evs, opt, Nat.reduceAdd, Nat.reduceMul, and_self, reduceCtorEq, List.size_toArray, List.all_cons, List.all_nil, Value.oneCell', List.set_cons_zero, List.set_cons_succ, sets, fillL, Nat.reduceLeDiff, List.drop_succ_cons, List.drop_zero, List.take_succ_cons, List.take_zero, List.toList_toArray, argsE, Array.append_empty, Array.empty_append, List.getElem?_toArray, Int.reduceLT, Int.reduceLE, Int.reduceToNat, Int.reduceEq, Nat.reduceLT, w3, w4]
      refine ⟨ver + 1, .busy, none, ?_, .inr ⟨((hE2.set (by omega)).set (by omega)).set (by omega), ?_, ?_, ⟨_, get_set (k0 := .loop (ver + 1) .busy none R) ?_⟩, hin⟩⟩
      · rw [get_set_ne (by omega), get_set_ne (by omega)]; exact sl
      · rw [get_set_ne (by omega), get_set_ne (by omega)]; exact get_set s3
      · rw [get_set_ne (by omega)]; exact get_set ((get_set_ne (by omega)).trans s4)
      · rw [get_set_ne (by omega), get_set_ne (by omega)]; exact sl
  · rintro v τ (⟨hE, hsz, p3, p4, ⟨ver, hl⟩, hnot⟩ | ⟨hE, p3, p4, ⟨ver, hl⟩, hin⟩)
    · refine ⟨ver, .ready, none, hl, by simp, ?_⟩
      have hnin : p ∉ plansL := by rw [List.take_of_length_le (by omega)] at hnot; exact hnot
      rw [if_neg hnin]
      have hE1 := hE.set (b := T.size) (k := .loop (ver + 1) .exhausted none R) (by omega)
      have r3 := (get_set_ne (k := .loop (ver + 1) .exhausted none R) (by omega : T.size ≠ σ.size + 3)).trans p3
      have r4 := (get_set_ne (k := .loop (ver + 1) .exhausted none R) (by omega : T.size ≠ σ.size + 4)).trans p4
      generalize τ.setIfInBounds T.size (.loop (ver + 1) .exhausted none R) = θ at hE1 r3 r4
      have w3 : ∀ a b c, wrN θ ⟨σ.size + 3, 0, none⟩ [.int .i64 a, .int .i64 b, .int .i64 c] = some (θ.setIfInBounds (σ.size + 3) (.cells 1 [.int .i64 a, .int .i64 b, .int .i64 c] (0, 0))) := fun a b c => by
        rw [wrN_eq, if_neg (by simp), r3, wrc_cells]; rfl
      have w4 : ∀ k a, wrN (θ.setIfInBounds (σ.size + 3) k) ⟨σ.size + 4, 0, none⟩ [.int .i64 a] = some ((θ.setIfInBounds (σ.size + 3) k).setIfInBounds (σ.size + 4) (.cells 1 [.int .i64 a] (0, 0))) := fun k a => by
        rw [wrN_eq, if_neg (by simp), get_set_ne (by show σ.size + 3 ≠ σ.size + 4; omega), r4, wrc_cells]; rfl
      have g4 : ∀ k k', rd1 ((θ.setIfInBounds (σ.size + 3) k).setIfInBounds (σ.size + 4) (.cells 1 [k'] (0, 0))) ⟨σ.size + 4, 0, none⟩ = some k' := fun k k' => by
        rw [rd1_eq, get_set ((get_set_ne (by omega)).trans r4)]; rfl
      have g3 : ∀ k a b c, rdN ((θ.setIfInBounds (σ.size + 3) (.cells 1 [.int .i64 a, .int .i64 b, .int .i64 c] (0, 0))).setIfInBounds (σ.size + 4) k) ⟨σ.size + 3, 0, none⟩ 3 = some [.int .i64 a, .int .i64 b, .int .i64 c] := fun k a b c =>
        rdN_all ((get_set_ne (by omega)).trans (get_set r3)) rfl
      simp only [↓eD0, ↓eD1, eC0, eC1, eC2, eC3, eC4, eC5, eC6, wantedE, ↓reduceIte, Nat.reduceEqDiff, Option.map_some, Option.map_none, reread, List.nil_append, List.cons_append, List.map_cons, List.map_nil, List.length_nil, List.length_cons, Value.cells, List.getElem?_cons_zero, List.getElem?_cons_succ, outE, lks, lkR, rdV, neg1, evs, opt, Nat.reduceAdd, Nat.reduceMul, and_self, reduceCtorEq, List.size_toArray, List.all_cons, List.all_nil, Value.oneCell', List.set_cons_zero, List.set_cons_succ, sets, fillL, Nat.reduceLeDiff, List.drop_succ_cons, List.drop_zero, List.take_succ_cons, List.take_zero, List.toList_toArray, argsE, Array.append_empty, Array.empty_append, List.getElem?_toArray, Int.reduceLT, Int.reduceLE, Int.reduceToNat, Int.reduceEq, Nat.reduceLT, w3, w4, g3, g4]
      rw [ap_nil]
      exact ⟨(hE1.old.set (by omega)).set (by omega), rfl⟩
    · rw [if_pos hin]
      refine ⟨ver, .done, some .ret, hl, by simp, ?_⟩
      have hE1 := hE.set (b := T.size) (k := .loop (ver + 1) .exhausted (some .ret) R) (by omega)
      have r3 := (get_set_ne (k := .loop (ver + 1) .exhausted (some .ret) R) (by omega : T.size ≠ σ.size + 3)).trans p3
      have r4 := (get_set_ne (k := .loop (ver + 1) .exhausted (some .ret) R) (by omega : T.size ≠ σ.size + 4)).trans p4
      generalize τ.setIfInBounds T.size (.loop (ver + 1) .exhausted (some .ret) R) = θ at hE1 r3 r4
      have g4 : rd1 θ ⟨σ.size + 4, 0, none⟩ = some (.int .i64 0) := by rw [rd1_eq, r4]; rfl
      have g3 : rdN θ ⟨σ.size + 3, 0, none⟩ 3 = some (bdV (costF g l p)) := rdN_all r3 rfl
      simp only [↓eD0, ↓eD1, eC0, eC1, eC2, eC3, eC4, eC5, eC6, wantedE, ↓reduceIte, Nat.reduceEqDiff, Option.map_some, Option.map_none, reread, List.nil_append, List.cons_append, List.map_cons, List.map_nil, List.length_nil, List.length_cons, Value.cells, List.getElem?_cons_zero, List.getElem?_cons_succ, outE, lks, lkR, rdV, neg1, evs, opt, Nat.reduceAdd, Nat.reduceMul, and_self, reduceCtorEq, List.size_toArray, List.all_cons, List.all_nil, Value.oneCell', List.set_cons_zero, List.set_cons_succ, sets, fillL, Nat.reduceLeDiff, List.drop_succ_cons, List.drop_zero, List.take_succ_cons, List.take_zero, List.toList_toArray, argsE, Array.append_empty, Array.empty_append, List.getElem?_toArray, Int.reduceLT, Int.reduceLE, Int.reduceToNat, Int.reduceEq, Nat.reduceLT, g3, g4]
      rw [ap_nil]
      exact hE1.old
end Go.Proofs.Ytianomelnpiffaa

set_option linter.unusedSimpArgs false
set_option linter.unusedVariables false
set_option maxRecDepth 10000
set_option maxHeartbeats 1000000
namespace Go.Proofs.Ytianomelnpiffaa
open Go Go.Cn Go.RowKit
attribute [local irreducible] evL sem onG onI onV

theorem rep4 : List.replicate 4 (Value.int .i64 0) = [.int .i64 0, .int .i64 0, .int .i64 0, .int .i64 0] := rfl
theorem est_pre {g : Ld} {l : Ln} {p : Pl} (h : OkF g l) (hm : p.m = 1) (hr : 1 ≤ p.r ∧ p.r ≤ 16) : estF g l p = (⟨timeF l (dirtyF g l p.r.toNat) + g.s, sumI (dirtyL g l p.r.toNat), 0⟩, 0) := by
  unfold estF
  rw [if_pos h, if_pos (pre_plans (.inl ⟨hm, hr.1, hr.2⟩)), costF, if_pos hm]
theorem est_none {g : Ld} {l : Ln} {p : Pl} (h : OkF g l) (h1 : ¬ (p.m = 1 ∧ 1 ≤ p.r ∧ p.r ≤ 16)) (h2 : ¬ (p.m = 2 ∧ p.r = 0)) (h3 : ¬ (p.m = 3 ∧ p.r = 0)) : estF g l p = (⟨0, 0, 0⟩, 1) := by
  unfold estF
  rw [if_pos h, if_neg]
  intro hp
  rcases plans_pre hp with hp | hp | hp
  · exact h1 hp
  · exact h2 (by rw [hp]; exact ⟨rfl, rfl⟩)
  · exact h3 (by rw [hp]; exact ⟨rfl, rfl⟩)

theorem dirty11_at {g : Ld} {l : Ln} {n : Nat} {k : Int} {σ : H} (h : OkF g l) (hk : k = (n : Int)) (h1 : 1 ≤ n) (h2 : n ≤ 16) : App Try.prog (.func 11) #[] #[.agg (ldV g).toArray, .agg (lnV l).toArray, .int .i64 k] σ fun v σ' => Old σ σ' ∧ ∃ b off c, v = .agg #[.slice (some ⟨b, off, none⟩) (n + 1) c, .int .i64 0] ∧
    Row σ' 1 (.slice (some ⟨b, off, none⟩) (n + 1) c) ((dirtyL g l n).map intV) ∧ rd1 σ' ⟨b, off + n, none⟩ = some (.int .i64 (dirtyF g l n)) := by
  refine dirty11_app.mono ?_
  rintro v τ ⟨ho, x, rfl, hx⟩
  have hdr : dirtyR g l k = (dirtyL g l n, 0) := by unfold dirtyR; rw [if_pos h, if_pos (by omega), hk, Int.toNat_natCast]
  rw [hdr] at hx ⊢
  obtain ⟨vb, vc, rfl⟩ := hx.slice
  simp only [List.length_map] at hx ⊢
  rw [dirtyL_len] at hx ⊢
  obtain ⟨b2, off, hbe, h2⟩ := hx.at (i := n) (x := intV (dirtyF g l n)) (by simp [dirtyL_get])
  subst hbe
  exact ⟨ho, b2, off, vc, rfl, hx, by simpa using rd1_row h2 (j := 0) rfl⟩

theorem est12_app {g : Ld} {l : Ln} {p : Pl} {σ : H} : App Try.prog (.func 12) #[] #[.agg (ldV g).toArray, .agg (lnV l).toArray, .agg (plV p).toArray] σ fun v σ' => Old σ σ' ∧ v = .agg #[.int .i64 (estF g l p).1.d, .int .i64 (estF g l p).1.v, .int .i64 (estF g l p).1.s, .int .i64 (estF g l p).2] := by
  refine App.of_sem mixed Try.func12 t12 k12 r12 (Nat.le_of_ble_eq_true rfl) ?_
  unfold s12
  by_cases h : OkF g l
  case neg =>
    have d1 : decide (chk g l = 0) = false := by unfold chk; rw [if_neg h]; rfl
    have hc : chk g l = 7 := if_neg h
    have he : estF g l p = (⟨0, 0, 0⟩, 7) := if_neg h
    rw [← ap_nil (σ := σ), he]
    simp only [↓eD0, ↓eD1, eC0, eC1, eC2, eC3, eC4, eC5, eC6, wantedE, ↓reduceIte, Nat.reduceEqDiff, Option.map_some, Option.map_none, reread, List.nil_append, List.cons_append, List.map_cons, List.map_nil, List.length_nil, List.length_cons, Value.cells, List.getElem?_cons_zero, List.getElem?_cons_succ, outE, lks, lkR, rdV, neg1, evs, opt, Nat.reduceAdd, Nat.reduceMul, and_self, reduceCtorEq, List.size_toArray, List.all_cons, List.all_nil, Value.oneCell', List.set_cons_zero, List.set_cons_succ, sets, fillL, Nat.reduceLeDiff, List.drop_succ_cons, List.drop_zero, List.take_succ_cons, List.take_zero, List.toList_toArray, argsE, Array.append_empty, Array.empty_append, List.getElem?_toArray, Int.reduceLT, Int.reduceLE, Int.reduceToNat, Int.reduceEq, Nat.reduceLT, ldV, lnV, plV, rep4]
    refine appK_of check15_app ?_
    rintro _ _ ⟨e2, rfl⟩
    rw [e2]
    clear e2
    simp only [↓eD0, ↓eD1, eC0, eC1, eC2, eC3, eC4, eC5, eC6, wantedE, ↓reduceIte, Nat.reduceEqDiff, Option.map_some, Option.map_none, reread, List.nil_append, List.cons_append, List.map_cons, List.map_nil, List.length_nil, List.length_cons, Value.cells, List.getElem?_cons_zero, List.getElem?_cons_succ, outE, lks, lkR, rdV, neg1, evs, opt, Nat.reduceAdd, Nat.reduceMul, and_self, reduceCtorEq, List.size_toArray, List.all_cons, List.all_nil, Value.oneCell', List.set_cons_zero, List.set_cons_succ, sets, fillL, Nat.reduceLeDiff, List.drop_succ_cons, List.drop_zero, List.take_succ_cons, List.take_zero, List.toList_toArray, argsE, Array.append_empty, Array.empty_append, List.getElem?_toArray, Int.reduceLT, Int.reduceLE, Int.reduceToNat, Int.reduceEq, Nat.reduceLT, d1, hc, rep4]
    rw [ap_nil]
    exact .ap
  have d1 : decide (chk g l = 0) = true := by unfold chk; rw [if_pos h]; rfl
  obtain ⟨a1, a2, a3, a4⟩ := h.pos
  have hs := h.1.2.2.2
  have w1 : IntKind.wrap .i64 (2 * l.d) = 2 * l.d := wrap64' (by omega) (by omega)
  have w2 : IntKind.wrap .i64 (2 * l.d + 1) = waitF l := wrap64' (by omega) (by omega)
  have w3 : IntKind.wrap .i64 (l.d + g.s) = l.d + g.s := wrap64' (by omega) (by omega)
  rw [← ap_nil (σ := σ)]
  simp only [↓eD0, ↓eD1, eC0, eC1, eC2, eC3, eC4, eC5, eC6, wantedE, ↓reduceIte, Nat.reduceEqDiff, Option.map_some, Option.map_none, reread, List.nil_append, List.cons_append, List.map_cons, List.map_nil, List.length_nil, List.length_cons, Value.cells, List.getElem?_cons_zero, List.getElem?_cons_succ, outE, lks, lkR, rdV, neg1, evs, opt, Nat.reduceAdd, Nat.reduceMul, and_self, reduceCtorEq, List.size_toArray, List.all_cons, List.all_nil, Value.oneCell', List.set_cons_zero, List.set_cons_succ, sets, fillL, Nat.reduceLeDiff, List.drop_succ_cons, List.drop_zero, List.take_succ_cons, List.take_zero, List.toList_toArray, argsE, Array.append_empty, Array.empty_append, List.getElem?_toArray, Int.reduceLT, Int.reduceLE, Int.reduceToNat, Int.reduceEq, Nat.reduceLT, ldV, lnV, plV, rep4]
  refine appK_of check15_app ?_
  rintro _ _ ⟨e2, rfl⟩
  rw [e2]
  clear e2
  simp only [↓eD0, ↓eD1, eC0, eC1, eC2, eC3, eC4, eC5, eC6, wantedE, ↓reduceIte, Nat.reduceEqDiff, Option.map_some, Option.map_none, reread, List.nil_append, List.cons_append, List.map_cons, List.map_nil, List.length_nil, List.length_cons, Value.cells, List.getElem?_cons_zero, List.getElem?_cons_succ, outE, lks, lkR, rdV, neg1, evs, opt, Nat.reduceAdd, Nat.reduceMul, and_self, reduceCtorEq, List.size_toArray, List.all_cons, List.all_nil, Value.oneCell', List.set_cons_zero, List.set_cons_succ, sets, fillL, Nat.reduceLeDiff, List.drop_succ_cons, List.drop_zero, List.take_succ_cons, List.take_zero, List.toList_toArray, argsE, Array.append_empty, Array.empty_append, List.getElem?_toArray, Int.reduceLT, Int.reduceLE, Int.reduceToNat, Int.reduceEq, Nat.reduceLT, d1, w1, w2]
  generalize hT : ap σ [.cells 0 [.int .i64 g.p, .int .i64 g.h, .int .i64 g.r, .int .i64 g.s] (0, 0), .cells 0 [.int .i64 l.p, .int .i64 l.d] (0, 0), .cells 0 [.int .i64 p.m, .int .i64 p.r] (0, 0), .cells 0 [.int .i64 0, .int .i64 0, .int .i64 0, .int .i64 0] (0, 0)] = T
  have hE : EB σ T g l p := by rw [← hT]; exact ⟨.ap, ap_new0, ap_new, ap_new⟩
  have q3 : T[σ.size + 3]? = some (.cells 0 [.int .i64 0, .int .i64 0, .int .i64 0, .int .i64 0] (0, 0)) := by rw [← hT]; exact ap_new
  clear hT
  have F0 : ∀ τ, Old T τ → rdN τ ⟨σ.size, 0, none⟩ 4 = some (ldV g) := fun τ ho => rdN_all (hE.old' ho).b0 rfl
  have F1 : ∀ τ, Old T τ → rdN τ ⟨σ.size + 1, 0, none⟩ 2 = some (lnV l) := fun τ ho => rdN_all (hE.old' ho).b1 rfl
  have F00 : ∀ τ, Old T τ → rd1 τ ⟨σ.size, 0, none⟩ = some (.int .i64 g.p) := fun τ ho => by rw [rd1_eq, (hE.old' ho).b0]; rfl
  have F01 : ∀ τ, Old T τ → rd1 τ ⟨σ.size, 1, none⟩ = some (.int .i64 g.h) := fun τ ho => by rw [rd1_eq, (hE.old' ho).b0]; rfl
  have F03 : ∀ τ, Old T τ → rd1 τ ⟨σ.size, 3, none⟩ = some (.int .i64 g.s) := fun τ ho => by rw [rd1_eq, (hE.old' ho).b0]; rfl
  have F11 : ∀ τ, Old T τ → rd1 τ ⟨σ.size + 1, 1, none⟩ = some (.int .i64 l.d) := fun τ ho => by rw [rd1_eq, (hE.old' ho).b1]; rfl
  have F20 : ∀ τ, Old T τ → rd1 τ ⟨σ.size + 2, 0, none⟩ = some (.int .i64 p.m) := fun τ ho => by rw [rd1_eq, (hE.old' ho).b2]; rfl
  have F21 : ∀ τ, Old T τ → rd1 τ ⟨σ.size + 2, 1, none⟩ = some (.int .i64 p.r) := fun τ ho => by rw [rd1_eq, (hE.old' ho).b2]; rfl
  have W3 : ∀ τ, Old T τ → ∀ a b c d, wrN τ ⟨σ.size + 3, 0, none⟩ [.int .i64 a, .int .i64 b, .int .i64 c, .int .i64 d] = some (τ.setIfInBounds (σ.size + 3) (.cells 1 [.int .i64 a, .int .i64 b, .int .i64 c, .int .i64 d] (0, 0))) := fun τ ho a b c d => by
    rw [wrN_eq, if_neg (by simp), (ho.2 _ (Array.getElem?_eq_some_iff.1 q3).1).trans q3, wrc_cells]; rfl
  have R3 : ∀ τ, Old T τ → ∀ a b c d, rdN (τ.setIfInBounds (σ.size + 3) (.cells 1 [.int .i64 a, .int .i64 b, .int .i64 c, .int .i64 d] (0, 0))) ⟨σ.size + 3, 0, none⟩ 4 = some [.int .i64 a, .int .i64 b, .int .i64 c, .int .i64 d] := fun τ ho a b c d =>
    rdN_all (get_set ((ho.2 _ (Array.getElem?_eq_some_iff.1 q3).1).trans q3)) rfl
  have fin : ∀ τ, Old T τ → ∀ k, Old σ (τ.setIfInBounds (σ.size + 3) k) := fun τ ho k => (hE.old.trans ho).set (by omega)
  have t0 := Old.refl (σ := T)
  have f0 := F0 T t0
  have f1 := F1 T t0
  have f00 := F00 T t0
  have f01 := F01 T t0
  have f03 := F03 T t0
  have f11 := F11 T t0
  have f20 := F20 T t0
  have f21 := F21 T t0
  have W0 := W3 T t0
  have R0 := R3 T t0
  have one : ∀ (σ1 : H) (K : Prop), True := fun _ _ => trivial
  clear one
  by_cases h1 : p.m = 1
  · have dm : decide (p.m = 1) = true := by simpa using h1
    have dm2 : decide (p.m = 2) = false := by rw [decide_eq_false]; omega
    have dm3 : decide (p.m = 3) = false := by rw [decide_eq_false]; omega
    simp only [↓eD0, ↓eD1, eC0, eC1, eC2, eC3, eC4, eC5, eC6, wantedE, ↓reduceIte, Nat.reduceEqDiff, Option.map_some, Option.map_none, reread, List.nil_append, List.cons_append, List.map_cons, List.map_nil, List.length_nil, List.length_cons, Value.cells, List.getElem?_cons_zero, List.getElem?_cons_succ, outE, lks, lkR, rdV, neg1, evs, opt, Nat.reduceAdd, Nat.reduceMul, and_self, reduceCtorEq, List.size_toArray, List.all_cons, List.all_nil, Value.oneCell', List.set_cons_zero, List.set_cons_succ, sets, fillL, Nat.reduceLeDiff, List.drop_succ_cons, List.drop_zero, List.take_succ_cons, List.take_zero, List.toList_toArray, argsE, Array.append_empty, Array.empty_append, List.getElem?_toArray, Int.reduceLT, Int.reduceLE, Int.reduceToNat, Int.reduceEq, Nat.reduceLT, f20, f21, dm]
    refine appK_of iw26_app ?_
    rintro _ _ ⟨e2, rfl⟩
    rw [e2]
    clear e2
    by_cases hr : 1 ≤ p.r ∧ p.r ≤ 16
    case neg =>
      have dr : decide (1 ≤ p.r ∧ p.r ≤ 16) = false := decide_eq_false hr
      have he := est_none h (p := p) (fun hh => hr hh.2) (fun hh => by omega) (fun hh => by omega)
      simp only [↓eD0, ↓eD1, eC0, eC1, eC2, eC3, eC4, eC5, eC6, wantedE, ↓reduceIte, Nat.reduceEqDiff, Option.map_some, Option.map_none, reread, List.nil_append, List.cons_append, List.map_cons, List.map_nil, List.length_nil, List.length_cons, Value.cells, List.getElem?_cons_zero, List.getElem?_cons_succ, outE, lks, lkR, rdV, neg1, evs, opt, Nat.reduceAdd, Nat.reduceMul, and_self, reduceCtorEq, List.size_toArray, List.all_cons, List.all_nil, Value.oneCell', List.set_cons_zero, List.set_cons_succ, sets, fillL, Nat.reduceLeDiff, List.drop_succ_cons, List.drop_zero, List.take_succ_cons, List.take_zero, List.toList_toArray, argsE, Array.append_empty, Array.empty_append, List.getElem?_toArray, Int.reduceLT, Int.reduceLE, Int.reduceToNat, Int.reduceEq, Nat.reduceLT, dm, dr, f20, f21, dm2, dm3, undef_eq, rep4, W0, R0, he]
      rw [ap_nil]
      exact fin T t0 _
    have dr : decide (1 ≤ p.r ∧ p.r ≤ 16) = true := decide_eq_true hr
    have he := est_pre h h1 hr
    obtain ⟨n, hn⟩ : ∃ n : Nat, p.r = (n : Int) := ⟨p.r.toNat, by omega⟩
    rw [he]
    simp only [↓eD0, ↓eD1, eC0, eC1, eC2, eC3, eC4, eC5, eC6, wantedE, ↓reduceIte, Nat.reduceEqDiff, Option.map_some, Option.map_none, reread, List.nil_append, List.cons_append, List.map_cons, List.map_nil, List.length_nil, List.length_cons, Value.cells, List.getElem?_cons_zero, List.getElem?_cons_succ, outE, lks, lkR, rdV, neg1, evs, opt, Nat.reduceAdd, Nat.reduceMul, and_self, reduceCtorEq, List.size_toArray, List.all_cons, List.all_nil, Value.oneCell', List.set_cons_zero, List.set_cons_succ, sets, fillL, Nat.reduceLeDiff, List.drop_succ_cons, List.drop_zero, List.take_succ_cons, List.take_zero, List.toList_toArray, argsE, Array.append_empty, Array.empty_append, List.getElem?_toArray, Int.reduceLT, Int.reduceLE, Int.reduceToNat, Int.reduceEq, Nat.reduceLT, dm, dr, f0, f1, f21, ldV, lnV]
    have hd := dirty_le h n
    have ht := time_le h.pos hd.1 (by omega)
    refine appK_of (dirty11_at (g := g) (l := l) (n := n) h hn (by omega) (by omega)) ?_
    rintro _ τ ⟨ho, b2, off, vc, rfl, hx, g3⟩
    have hbb : (0:Int) ≤ (n:Int) ∧ (n:Int) < ((n + 1 : Nat) : Int) := by omega
    have wt : IntKind.wrap .i64 (timeF l (dirtyF g l n) + g.s) = timeF l (dirtyF g l n) + g.s := wrap64' (by omega) (by omega)
    have f1 := F1 τ ho
    have f03 := F03 τ ho
    have f21 := F21 τ ho
    have W1 := W3 τ ho
    have R1 := R3 τ ho
    rw [hn] at f21
    simp only [↓eD0, ↓eD1, eC0, eC1, eC2, eC3, eC4, eC5, eC6, wantedE, ↓reduceIte, Nat.reduceEqDiff, Option.map_some, Option.map_none, reread, List.nil_append, List.cons_append, List.map_cons, List.map_nil, List.length_nil, List.length_cons, Value.cells, List.getElem?_cons_zero, List.getElem?_cons_succ, outE, lks, lkR, rdV, neg1, evs, opt, Nat.reduceAdd, Nat.reduceMul, and_self, reduceCtorEq, List.size_toArray, List.all_cons, List.all_nil, Value.oneCell', List.set_cons_zero, List.set_cons_succ, sets, fillL, Nat.reduceLeDiff, List.drop_succ_cons, List.drop_zero, List.take_succ_cons, List.take_zero, List.toList_toArray, argsE, Array.append_empty, Array.empty_append, List.getElem?_toArray, Int.reduceLT, Int.reduceLE, Int.reduceToNat, Int.reduceEq, Nat.reduceLT, f1, f03, f21, lnV, hbb, Int.toNat_natCast, g3]
    refine appK_of (time21_app h.pos hd.1 (by omega)) ?_
    rintro _ _ ⟨e2, rfl⟩
    rw [e2]
    clear e2
    simp only [↓eD0, ↓eD1, eC0, eC1, eC2, eC3, eC4, eC5, eC6, wantedE, ↓reduceIte, Nat.reduceEqDiff, Option.map_some, Option.map_none, reread, List.nil_append, List.cons_append, List.map_cons, List.map_nil, List.length_nil, List.length_cons, Value.cells, List.getElem?_cons_zero, List.getElem?_cons_succ, outE, lks, lkR, rdV, neg1, evs, opt, Nat.reduceAdd, Nat.reduceMul, and_self, reduceCtorEq, List.size_toArray, List.all_cons, List.all_nil, Value.oneCell', List.set_cons_zero, List.set_cons_succ, sets, fillL, Nat.reduceLeDiff, List.drop_succ_cons, List.drop_zero, List.take_succ_cons, List.take_zero, List.toList_toArray, argsE, Array.append_empty, Array.empty_append, List.getElem?_toArray, Int.reduceLT, Int.reduceLE, Int.reduceToNat, Int.reduceEq, Nat.reduceLT, f03, wt]
    refine appK_of (sum28_app (L := dirtyL g l n) (by simpa [dirtyL_len] using hx) (dirtyL_small h) (by rw [dirtyL_len]; omega)) ?_
    rintro _ _ ⟨e2, rfl⟩
    rw [e2]
    clear e2
    simp only [↓eD0, ↓eD1, eC0, eC1, eC2, eC3, eC4, eC5, eC6, wantedE, ↓reduceIte, Nat.reduceEqDiff, Option.map_some, Option.map_none, reread, List.nil_append, List.cons_append, List.map_cons, List.map_nil, List.length_nil, List.length_cons, Value.cells, List.getElem?_cons_zero, List.getElem?_cons_succ, outE, lks, lkR, rdV, neg1, evs, opt, Nat.reduceAdd, Nat.reduceMul, and_self, reduceCtorEq, List.size_toArray, List.all_cons, List.all_nil, Value.oneCell', List.set_cons_zero, List.set_cons_succ, sets, fillL, Nat.reduceLeDiff, List.drop_succ_cons, List.drop_zero, List.take_succ_cons, List.take_zero, List.toList_toArray, argsE, Array.append_empty, Array.empty_append, List.getElem?_toArray, Int.reduceLT, Int.reduceLE, Int.reduceToNat, Int.reduceEq, Nat.reduceLT, f03, rep4, W1, R1, hn, Int.toNat_natCast]
    rw [ap_nil]
    exact fin τ ho _
  · have dm : decide (p.m = 1) = false := by simpa using h1
    by_cases h2 : p.m = 2
    · have dm2 : decide (p.m = 2) = true := by simpa using h2
      have dm3 : decide (p.m = 3) = false := by rw [decide_eq_false]; omega
      by_cases hr : p.r = 0
      · have dr : decide (p.r = 0) = true := by simpa using hr
        have hp : p = ⟨2, 0⟩ := by obtain ⟨m, r⟩ := p; simp only at h2 hr; subst h2 hr; rfl
        have hw := wait_le h.pos (n := g.h) h.1.2.1.1 (by have := h.1.2.1.2; have := h.1.1; omega)
        have wm : IntKind.wrap .i64 (g.h * waitF l) = g.h * waitF l := wrap64' (by omega) (by omega)
        have he : estF g l p = (⟨l.d + g.s, g.p, g.h * waitF l⟩, 0) := by unfold estF; rw [if_pos h, if_pos (pre_plans (.inr (.inl hp))), costF, if_neg h1, if_pos h2]
        simp only [↓eD0, ↓eD1, eC0, eC1, eC2, eC3, eC4, eC5, eC6, wantedE, ↓reduceIte, Nat.reduceEqDiff, Option.map_some, Option.map_none, reread, List.nil_append, List.cons_append, List.map_cons, List.map_nil, List.length_nil, List.length_cons, Value.cells, List.getElem?_cons_zero, List.getElem?_cons_succ, outE, lks, lkR, rdV, neg1, evs, opt, Nat.reduceAdd, Nat.reduceMul, and_self, reduceCtorEq, List.size_toArray, List.all_cons, List.all_nil, Value.oneCell', List.set_cons_zero, List.set_cons_succ, sets, fillL, Nat.reduceLeDiff, List.drop_succ_cons, List.drop_zero, List.take_succ_cons, List.take_zero, List.toList_toArray, argsE, Array.append_empty, Array.empty_append, List.getElem?_toArray, Int.reduceLT, Int.reduceLE, Int.reduceToNat, Int.reduceEq, Nat.reduceLT, f20, f21, dm, dm2, dr, f11, f03, f00, f01, w3, wm, rep4, W0, R0, he, undef_eq]
        rw [ap_nil]
        exact fin T t0 _
      · have dr : decide (p.r = 0) = false := by simpa using hr
        have he := est_none h (p := p) (fun hh => h1 hh.1) (fun hh => hr hh.2) (fun hh => hr hh.2)
        simp only [↓eD0, ↓eD1, eC0, eC1, eC2, eC3, eC4, eC5, eC6, wantedE, ↓reduceIte, Nat.reduceEqDiff, Option.map_some, Option.map_none, reread, List.nil_append, List.cons_append, List.map_cons, List.map_nil, List.length_nil, List.length_cons, Value.cells, List.getElem?_cons_zero, List.getElem?_cons_succ, outE, lks, lkR, rdV, neg1, evs, opt, Nat.reduceAdd, Nat.reduceMul, and_self, reduceCtorEq, List.size_toArray, List.all_cons, List.all_nil, Value.oneCell', List.set_cons_zero, List.set_cons_succ, sets, fillL, Nat.reduceLeDiff, List.drop_succ_cons, List.drop_zero, List.take_succ_cons, List.take_zero, List.toList_toArray, argsE, Array.append_empty, Array.empty_append, List.getElem?_toArray, Int.reduceLT, Int.reduceLE, Int.reduceToNat, Int.reduceEq, Nat.reduceLT, f20, f21, dm, dm2, dm3, dr, rep4, W0, R0, he, undef_eq]
        rw [ap_nil]
        exact fin T t0 _
    · have dm2 : decide (p.m = 2) = false := by simpa using h2
      by_cases h3 : p.m = 3
      case neg =>
        have dm3 : decide (p.m = 3) = false := by simpa using h3
        have he := est_none h (p := p) (fun hh => h1 hh.1) (fun hh => h2 hh.1) (fun hh => h3 hh.1)
        simp only [↓eD0, ↓eD1, eC0, eC1, eC2, eC3, eC4, eC5, eC6, wantedE, ↓reduceIte, Nat.reduceEqDiff, Option.map_some, Option.map_none, reread, List.nil_append, List.cons_append, List.map_cons, List.map_nil, List.length_nil, List.length_cons, Value.cells, List.getElem?_cons_zero, List.getElem?_cons_succ, outE, lks, lkR, rdV, neg1, evs, opt, Nat.reduceAdd, Nat.reduceMul, and_self, reduceCtorEq, List.size_toArray, List.all_cons, List.all_nil, Value.oneCell', List.set_cons_zero, List.set_cons_succ, sets, fillL, Nat.reduceLeDiff, List.drop_succ_cons, List.drop_zero, List.take_succ_cons, List.take_zero, List.toList_toArray, argsE, Array.append_empty, Array.empty_append, List.getElem?_toArray, Int.reduceLT, Int.reduceLE, Int.reduceToNat, Int.reduceEq, Nat.reduceLT, f20, f21, dm, dm2, dm3, rep4, W0, R0, he, undef_eq]
        rw [ap_nil]
        exact fin T t0 _
      have dm3 : decide (p.m = 3) = true := by simpa using h3
      by_cases hr : p.r = 0
      case neg =>
        have dr : decide (p.r = 0) = false := by simpa using hr
        have he := est_none h (p := p) (fun hh => h1 hh.1) (fun hh => hr hh.2) (fun hh => hr hh.2)
        simp only [↓eD0, ↓eD1, eC0, eC1, eC2, eC3, eC4, eC5, eC6, wantedE, ↓reduceIte, Nat.reduceEqDiff, Option.map_some, Option.map_none, reread, List.nil_append, List.cons_append, List.map_cons, List.map_nil, List.length_nil, List.length_cons, Value.cells, List.getElem?_cons_zero, List.getElem?_cons_succ, outE, lks, lkR, rdV, neg1, evs, opt, Nat.reduceAdd, Nat.reduceMul, and_self, reduceCtorEq, List.size_toArray, List.all_cons, List.all_nil, Value.oneCell', List.set_cons_zero, List.set_cons_succ, sets, fillL, Nat.reduceLeDiff, List.drop_succ_cons, List.drop_zero, List.take_succ_cons, List.take_zero, List.toList_toArray, argsE, Array.append_empty, Array.empty_append, List.getElem?_toArray, Int.reduceLT, Int.reduceLE, Int.reduceToNat, Int.reduceEq, Nat.reduceLT, f20, f21, dm, dm2, dm3, dr, rep4, W0, R0, he, undef_eq]
        rw [ap_nil]
        exact fin T t0 _
      have dr : decide (p.r = 0) = true := by simpa using hr
      have hp : p = ⟨3, 0⟩ := by obtain ⟨m, r⟩ := p; simp only at h3 hr; subst h3 hr; rfl
      have he : estF g l p = (⟨l.d + g.s, sumI (dirtyL g l 1), dirtyF g l 1 * waitF l⟩, 0) := by unfold estF; rw [if_pos h, if_pos (pre_plans (.inr (.inr hp))), costF, if_neg h1, if_neg h2]
      rw [he]
      simp only [↓eD0, ↓eD1, eC0, eC1, eC2, eC3, eC4, eC5, eC6, wantedE, ↓reduceIte, Nat.reduceEqDiff, Option.map_some, Option.map_none, reread, List.nil_append, List.cons_append, List.map_cons, List.map_nil, List.length_nil, List.length_cons, Value.cells, List.getElem?_cons_zero, List.getElem?_cons_succ, outE, lks, lkR, rdV, neg1, evs, opt, Nat.reduceAdd, Nat.reduceMul, and_self, reduceCtorEq, List.size_toArray, List.all_cons, List.all_nil, Value.oneCell', List.set_cons_zero, List.set_cons_succ, sets, fillL, Nat.reduceLeDiff, List.drop_succ_cons, List.drop_zero, List.take_succ_cons, List.take_zero, List.toList_toArray, argsE, Array.append_empty, Array.empty_append, List.getElem?_toArray, Int.reduceLT, Int.reduceLE, Int.reduceToNat, Int.reduceEq, Nat.reduceLT, f20, f21, dm, dm2, dm3, dr, f0, f1, ldV, lnV, undef_eq]
      have hd := dirty_le h 1
      have hw := wait_le h.pos (n := dirtyF g l 1) hd.1 hd.2
      have hsm := dirtyL_small h (k := 1)
      have hsl : (dirtyL g l 1).length = 2 := dirtyL_len
      have hA := dirty11_at (g := g) (l := l) (n := 1) (k := 1) (σ := T) h rfl (by omega) (by omega)
      generalize dirtyL g l 1 = D at hA hsm hsl ⊢
      generalize dirtyF g l 1 = d1 at hA hd hw ⊢
      refine appK_of hA ?_
      rintro _ τ ⟨ho, b2, off, vc, rfl, hx, g3⟩
      have wm : IntKind.wrap .i64 (d1 * waitF l) = d1 * waitF l := wrap64' (by omega) (by omega)
      have hbb : (0:Int) ≤ (1:Int) ∧ (1:Int) < ((1 + 1 : Nat) : Int) := by omega
      have t1 : (1:Int).toNat = 1 := rfl
      have f03 := F03 τ ho
      have f11 := F11 τ ho
      have W1 := W3 τ ho
      have R1 := R3 τ ho
      simp only [↓eD0, ↓eD1, eC0, eC1, eC2, eC3, eC4, eC5, eC6, wantedE, ↓reduceIte, Nat.reduceEqDiff, Option.map_some, Option.map_none, reread, List.nil_append, List.cons_append, List.map_cons, List.map_nil, List.length_nil, List.length_cons, Value.cells, List.getElem?_cons_zero, List.getElem?_cons_succ, outE, lks, lkR, rdV, neg1, evs, opt, Nat.reduceAdd, Nat.reduceMul, and_self, reduceCtorEq, List.size_toArray, List.all_cons, List.all_nil, Value.oneCell', List.set_cons_zero, List.set_cons_succ, sets, fillL, Nat.reduceLeDiff, List.drop_succ_cons, List.drop_zero, List.take_succ_cons, List.take_zero, List.toList_toArray, argsE, Array.append_empty, Array.empty_append, List.getElem?_toArray, Int.reduceLT, Int.reduceLE, Int.reduceToNat, Int.reduceEq, Nat.reduceLT, f03, f11, w3, hbb, t1, Nat.one_mul, g3, wm]
      refine appK_of (sum28_app (L := D) (by simpa [hsl] using hx) hsm (by omega)) ?_
      rintro _ _ ⟨e2, rfl⟩
      rw [e2]
      clear e2
      simp only [↓eD0, ↓eD1, eC0, eC1, eC2, eC3, eC4, eC5, eC6, wantedE, ↓reduceIte, Nat.reduceEqDiff, Option.map_some, Option.map_none, reread, List.nil_append, List.cons_append, List.map_cons, List.map_nil, List.length_nil, List.length_cons, Value.cells, List.getElem?_cons_zero, List.getElem?_cons_succ, outE, lks, lkR, rdV, neg1, evs, opt, Nat.reduceAdd, Nat.reduceMul, and_self, reduceCtorEq, List.size_toArray, List.all_cons, List.all_nil, Value.oneCell', List.set_cons_zero, List.set_cons_succ, sets, fillL, Nat.reduceLeDiff, List.drop_succ_cons, List.drop_zero, List.take_succ_cons, List.take_zero, List.toList_toArray, argsE, Array.append_empty, Array.empty_append, List.getElem?_toArray, Int.reduceLT, Int.reduceLE, Int.reduceToNat, Int.reduceEq, Nat.reduceLT, f03, f11, g3, rep4, W1, R1]
      rw [ap_nil]
      exact fin τ ho _

theorem plV_rows {L : List Pl} : ∀ r ∈ L.map plV, r.length = 2 := by intro r hr; obtain ⟨c, _, rfl⟩ := List.mem_map.1 hr; rfl
def plansP (i : Nat) : List Pl := (List.range i).map fun i : Nat => (⟨1, (i : Int) + 1⟩ : Pl)
theorem plans30_app {σ : H} : App Try.prog (.func 30) #[] #[] σ fun v σ' => Old σ σ' ∧ Grown σ σ' 2 v (plansL.map plV).flatten plansL.length := by
  refine App.of_sem mixed Try.func30 t30 k30 r30 (Nat.le_of_ble_eq_true rfl) ?_
  unfold s30
  simp only [↓eD0, ↓eD1, eC0, eC1, eC2, eC3, eC4, eC5, eC6, wantedE, ↓reduceIte, Nat.reduceEqDiff, Option.map_some, Option.map_none, reread, List.nil_append, List.cons_append, List.map_cons, List.map_nil, List.length_nil, List.length_cons, Value.cells, List.getElem?_cons_zero, List.getElem?_cons_succ, outE, lks, lkR, rdV, neg1, evs, opt, Nat.reduceAdd, Nat.reduceMul, and_self, reduceCtorEq, List.size_toArray, List.all_cons, List.all_nil, Value.oneCell', List.set_cons_zero, List.set_cons_succ, sets, fillL, Nat.reduceLeDiff, List.drop_succ_cons, List.drop_zero, List.take_succ_cons, List.take_zero, List.toList_toArray, argsE, Array.append_empty, Array.empty_append, List.getElem?_toArray, Int.reduceLT, Int.reduceLE, Int.reduceToNat, Int.reduceEq, Nat.reduceLT]
  refine loop_for (J := fun i e τ => i ≤ 16 ∧ ∃ v, e = [(1, v), (2, .int .i64 ((i : Int) + 1))] ∧ Old σ τ ∧ Grown σ τ 2 v ((plansP i).map plV).flatten (plansP i).length) 16 ⟨by omega, _, rfl, .refl, Grown.nil⟩ ?_
  rintro i e τ hi ⟨_, v, rfl, ho, hg⟩
  rw [← ap_nil (σ := τ)]
  have hl : (plansP i).length = i := by simp [plansP]
  by_cases hlt : i < 16
  · have dl : decide ((i:Int) + 1 ≤ 16) = true := by rw [decide_eq_true]; omega
    have hw : IntKind.wrap .i64 ((i:Int) + 1 + 1) = (i:Int) + 1 + 1 := wrap64' (by omega) (by omega)
    have hc : (((i + 1 : Nat) : Int) + 1) = (i:Int) + 1 + 1 := by omega
    have hp : plansP (i + 1) = plansP i ++ [⟨1, (i : Int) + 1⟩] := by unfold plansP; rw [List.range_succ, List.map_append]; rfl
    obtain ⟨v', τ', ha1, hA⟩ := append_grown (σ := ap τ [.cells 0 (plV ⟨1, (i : Int) + 1⟩) (0, 0)]) (xa := .slice (some ⟨τ.size, 0, none⟩) 1 1) (bytes := 16) (m := 1) (new := plV ⟨1, (i : Int) + 1⟩) (hg.old .ap) (by omega) (by have := ho.1; rw [ap_size]; omega) (by
      show (rdN (ap τ _) ⟨τ.size, 0, none⟩ 2).map (1, ·) = _
      rw [rdN_ap0]; rfl) rfl rfl (by omega) (by omega)
    simp only [↓eD0, ↓eD1, eC0, eC1, eC2, eC3, eC4, eC5, eC6, wantedE, ↓reduceIte, Nat.reduceEqDiff, Option.map_some, Option.map_none, reread, List.nil_append, List.cons_append, List.map_cons, List.map_nil, List.length_nil, List.length_cons, Value.cells, List.getElem?_cons_zero, List.getElem?_cons_succ, outE, lks, lkR, rdV, neg1, evs, opt, Nat.reduceAdd, Nat.reduceMul, and_self, reduceCtorEq, List.size_toArray, List.all_cons, List.all_nil, Value.oneCell', List.set_cons_zero, List.set_cons_succ, sets, fillL, Nat.reduceLeDiff, List.drop_succ_cons, List.drop_zero, List.take_succ_cons, List.take_zero, List.toList_toArray, argsE, Array.append_empty, Array.empty_append, List.getElem?_toArray, Int.reduceLT, Int.reduceLE, Int.reduceToNat, Int.reduceEq, Nat.reduceLT, dl]
    refine onV_of ha1 ?_
    simp only [↓eD0, ↓eD1, eC0, eC1, eC2, eC3, eC4, eC5, eC6, wantedE, ↓reduceIte, Nat.reduceEqDiff, Option.map_some, Option.map_none, reread, List.nil_append, List.cons_append, List.map_cons, List.map_nil, List.length_nil, List.length_cons, Value.cells, List.getElem?_cons_zero, List.getElem?_cons_succ, outE, lks, lkR, rdV, neg1, evs, opt, Nat.reduceAdd, Nat.reduceMul, and_self, reduceCtorEq, List.size_toArray, List.all_cons, List.all_nil, Value.oneCell', List.set_cons_zero, List.set_cons_succ, sets, fillL, Nat.reduceLeDiff, List.drop_succ_cons, List.drop_zero, List.take_succ_cons, List.take_zero, List.toList_toArray, argsE, Array.append_empty, Array.empty_append, List.getElem?_toArray, Int.reduceLT, Int.reduceLE, Int.reduceToNat, Int.reduceEq, Nat.reduceLT, hw]
    refine ⟨hlt, by omega, v', ?_, hA.Old (hg.old .ap) (ho.trans .ap), ?_⟩
    · rw [hc]
    · rw [hp]
      simpa using hA.grown
  · have : i = 16 := by omega
    subst this
    have dl : decide (((16:Nat):Int) + 1 ≤ 16) = false := by decide
    have hp : plansL = plansP 16 ++ [⟨2, 0⟩, ⟨3, 0⟩] := rfl
    obtain ⟨v', τ', ha1, hA⟩ := append_grown (σ := ap τ [.cells 0 [.int .i64 2, .int .i64 0, .int .i64 3, .int .i64 0] (0, 0)]) (xa := .slice (some ⟨τ.size, 0, none⟩) 2 2) (bytes := 16) (m := 2) (new := [.int .i64 2, .int .i64 0, .int .i64 3, .int .i64 0]) (hg.old .ap) (by omega) (by have := ho.1; rw [ap_size]; omega) (by
      show (rdN (ap τ _) ⟨τ.size, 0, none⟩ 4).map (2, ·) = _
      rw [rdN_ap0]; rfl) rfl rfl (by omega) (by omega)
    simp only [↓eD0, ↓eD1, eC0, eC1, eC2, eC3, eC4, eC5, eC6, wantedE, ↓reduceIte, Nat.reduceEqDiff, Option.map_some, Option.map_none, reread, List.nil_append, List.cons_append, List.map_cons, List.map_nil, List.length_nil, List.length_cons, Value.cells, List.getElem?_cons_zero, List.getElem?_cons_succ, outE, lks, lkR, rdV, neg1, evs, opt, Nat.reduceAdd, Nat.reduceMul, and_self, reduceCtorEq, List.size_toArray, List.all_cons, List.all_nil, Value.oneCell', List.set_cons_zero, List.set_cons_succ, sets, fillL, Nat.reduceLeDiff, List.drop_succ_cons, List.drop_zero, List.take_succ_cons, List.take_zero, List.toList_toArray, argsE, Array.append_empty, Array.empty_append, List.getElem?_toArray, Int.reduceLT, Int.reduceLE, Int.reduceToNat, Int.reduceEq, Nat.reduceLT, dl, rep4]
    refine onV_of ha1 ?_
    simp only [↓eD0, ↓eD1, eC0, eC1, eC2, eC3, eC4, eC5, eC6, wantedE, ↓reduceIte, Nat.reduceEqDiff, Option.map_some, Option.map_none, reread, List.nil_append, List.cons_append, List.map_cons, List.map_nil, List.length_nil, List.length_cons, Value.cells, List.getElem?_cons_zero, List.getElem?_cons_succ, outE, lks, lkR, rdV, neg1, evs, opt, Nat.reduceAdd, Nat.reduceMul, and_self, reduceCtorEq, List.size_toArray, List.all_cons, List.all_nil, Value.oneCell', List.set_cons_zero, List.set_cons_succ, sets, fillL, Nat.reduceLeDiff, List.drop_succ_cons, List.drop_zero, List.take_succ_cons, List.take_zero, List.toList_toArray, argsE, Array.append_empty, Array.empty_append, List.getElem?_toArray, Int.reduceLT, Int.reduceLE, Int.reduceToNat, Int.reduceEq, Nat.reduceLT]
    refine ⟨hA.Old (hg.old .ap) (ho.trans .ap), ?_⟩
    rw [hp]
    simpa [plV] using hA.grown
end Go.Proofs.Ytianomelnpiffaa
