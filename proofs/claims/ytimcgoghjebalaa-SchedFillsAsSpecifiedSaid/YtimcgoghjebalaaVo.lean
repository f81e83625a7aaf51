/- Walks and plain laws. Conditions: none. -/
import Derived.Test.YtimcgoghjebalaaVn
set_option linter.all false
set_option linter.unusedSimpArgs false
set_option linter.unusedVariables false
set_option maxRecDepth 10000
set_option maxHeartbeats 1000000
namespace Go.Proofs.Ytimcgoghjebalaa
open Go Go.Cn Go.RowKit

/-- The same in the specification's order. -/
theorem gs_four' {l : List Por} {n0 : Nat} {τ : H} {X : List Ten} {x : Ten} {v9 v10 v11 v12 : Value} (h : Gs n0 τ (gsF l X v9 v10 v11 v12)) (hX : X.length ≤ 1000) (k1 : Blk) :
    ∃ b9 c9 b10 c10 b11 c11 b12 c12 τ1 τ2 τ3 τ4,
      append 3 24 v9 (.slice (some ⟨τ.size, 0, none⟩) 1 1) (ap τ [.cells 0 (ctrV x.st) (0, 0)]) = some (.slice b9 (X ++ [x]).length c9, τ1) ∧
      append 3 24 v10 (.slice (some ⟨τ1.size, 0, none⟩) 1 1) (ap τ1 [.cells 0 (ctrV x.pg) (0, 0)]) = some (.slice b10 (X ++ [x]).length c10, τ2) ∧
      append 1 8 v11 (.slice (some ⟨τ2.size + 1, 0, none⟩) 1 1) (ap τ2 [k1, .cells 0 (intV (stD l x)) (0, 0)]) = some (.slice b11 (X ++ [x]).length c11, τ3) ∧
      append 1 8 v12 (.slice (some ⟨τ3.size, 0, none⟩) 1 1) (ap τ3 [.cells 0 (intV (pgD l x)) (0, 0)]) = some (.slice b12 (X ++ [x]).length c12, τ4) ∧
      τ3[τ2.size]? = some k1 ∧
      Gs n0 τ4 (gsF l (X ++ [x]) (.slice b9 (X ++ [x]).length c9) (.slice b10 (X ++ [x]).length c10) (.slice b11 (X ++ [x]).length c11) (.slice b12 (X ++ [x]).length c12)) ∧
      (∀ ρ : H, ρ.size ≤ n0 → Old ρ τ → Old ρ τ1 ∧ Old ρ τ2 ∧ Old ρ τ3 ∧ Old ρ τ4) := by
  have el : X.length + 1 = (X ++ [x]).length := by simp
  obtain ⟨b9, c9, τ1, a1, G1, f1, o1⟩ := gs_push h [] (i := 0) rfl (ctrV x.st) rfl rfl (Nat.succ_pos _) (bytes := 24) (by simp only; omega) (by decide)
  obtain ⟨b10, c10, τ2, a2, G2, f2, o2⟩ := gs_push G1 [] (i := 1) rfl (ctrV x.pg) rfl rfl (Nat.succ_pos _) (bytes := 24) (by simp only; omega) (by decide)
  have n11 : ∀ c, τ2.size ≤ c → baseOf v11 ≠ some c := fun c hc hb => by have := (G2.base (i := 2) rfl hb).2; omega
  obtain ⟨b11, c11, τ3, a3, G3, f3, o3⟩ := gs_push G2 [k1] (i := 2) rfl (intV (stD l x)) rfl rfl (Nat.succ_pos _) (bytes := 8) (by simp only; omega) (by decide)
  obtain ⟨b12, c12, τ4, a4, G4, f4, o4⟩ := gs_push G3 [] (i := 3) rfl (intV (pgD l x)) rfl rfl (Nat.succ_pos _) (bytes := 8) (by simp only; omega) (by decide)
  have p1 : τ3[τ2.size]? = some k1 := f3 _ _ (by rw [ap_new0]; rfl) (n11 _ (Nat.le_refl _))
  refine ⟨b9, c9, b10, c10, b11, c11, b12, c12, τ1, τ2, τ3, τ4, ?_, ?_, ?_, ?_, p1, ?_, fun ρ hρ ho => ⟨o1 ρ hρ ho, o2 ρ hρ (o1 ρ hρ ho), o3 ρ hρ (o2 ρ hρ (o1 ρ hρ ho)), o4 ρ hρ (o3 ρ hρ (o2 ρ hρ (o1 ρ hρ ho)))⟩⟩
  · rw [← el]; exact a1
  · rw [← el]; exact a2
  · rw [← el]; exact a3
  · rw [← el]; exact a4
  · rw [gsF_snoc, ← el]; exact G4

set_option maxHeartbeats 4000000 in
theorem repoch_app {σ : H} {lb : List Value} {B : Bud} {l : List Por} {pv : Value} (h : IsB σ lb B) (hV : ValidB B) (hp : Row σ 3 pv (l.map porV)) (hn : l.length ≤ 1000) :
    App Try.prog (.func 30) #[] #[.agg lb.toArray, pv] σ fun v σ' => Old σ σ' ∧ Row σ' 3 v ((epF B l).map porV) := by
  refine App.of_sem mixed Try.func30 t30 k30 r30 (Nat.le_of_ble_eq_true rfl) ?_
  have hB := h
  obtain ⟨base, cap, rfl, hr, hcap⟩ := h
  have few := hV.few
  rw [← ap_nil (σ := σ)]
  unfold s30
  simp only [↓eD0, ↓eD1, eC0, eC1, eC2, eC3, eC4, eC5, eC6, wantedE, ↓reduceIte, Nat.reduceEqDiff, Option.map_some, Option.map_none, reread, List.nil_append, List.cons_append, List.map_cons, List.map_nil, List.length_nil, List.length_cons, Value.cells, List.getElem?_cons_zero, List.getElem?_cons_succ, outE, lks, lkR, rdV, neg1, evs, opt, Nat.reduceAdd, Nat.reduceMul, and_self, reduceCtorEq, List.size_toArray, List.all_cons, List.all_nil, Value.oneCell', List.set_cons_zero, List.set_cons_succ, sets, fillL, Nat.reduceLeDiff, List.drop_succ_cons, List.drop_zero, List.take_succ_cons, List.take_zero, List.toList_toArray, argsE, Array.append_empty, Array.empty_append, List.getElem?_toArray, Int.reduceLT, Int.reduceLE, Int.reduceToNat, Int.reduceEq, Nat.reduceLT, budV]
  generalize hT : ap σ [.cells 0 [.int .i64 B.st, .int .i64 B.pg, .slice base B.L.length cap] (0, 0)] = τ
  have ho : Old σ τ := hT ▸ .ap
  have q0 : τ[σ.size]? = some (.cells 0 [.int .i64 B.st, .int .i64 B.pg, .slice base B.L.length cap] (0, 0)) := by rw [← hT]; exact ap_new0
  have z0 := (Array.getElem?_eq_some_iff.1 q0).1
  refine loop_for (J := fun i e ρ => i ≤ B.L.length ∧ ∃ v9 v10 v11 v12, e = [(1, pv), (2, .pointer (some ⟨σ.size, 0, none⟩)), (5, v9), (6, v10), (7, v11), (8, v12), (9, .int .i64 i)] ∧
      Old τ ρ ∧ Gs τ.size ρ (gsF l (B.L.take i) v9 v10 v11 v12)) B.L.length ⟨by omega, _, _, _, _, rfl, .refl, by simpa using gsF_nil⟩ ?_
  rintro i e ρ hi ⟨_, v9, v10, v11, v12, rfl, hoρ, hG⟩
  rw [← ap_nil (σ := ρ)]
  have oldσ : ∀ {θ : H}, Old τ θ → Old σ θ := fun h => ho.trans h
  have m0 : ∀ {θ : H}, Old τ θ → θ[σ.size]? = some (.cells 0 [.int .i64 B.st, .int .i64 B.pg, .slice base B.L.length cap] (0, 0)) := fun h => (h.2 _ z0).trans q0
  have R2 : ∀ {θ : H}, Old τ θ → rd1 θ ⟨σ.size, 2, none⟩ = some (.slice base B.L.length cap) := fun h => by rw [rd1_eq, m0 h]; rfl
  have r2 := fun L => R2 (hoρ.trans (Old.ap (l := L)))
  by_cases hlt : i < B.L.length
  · have dl : decide ((i:Int) < (B.L.length : Int)) = true := by simpa using hlt
    have hx : (B.L.map tenV)[i]? = some (tenV B.L[i]) := by simp [hlt]
    obtain ⟨b, off, rfl, h1⟩ := hr.at hx
    have G0 : ∀ {θ : H}, Old τ θ → rd1 θ ⟨b, off + i * 7, none⟩ = some (.int .i64 B.L[i].m) := fun h => rd1_row (rdN_Old (oldσ h) h1) (j := 0) rfl
    have G1 : ∀ {θ : H}, Old τ θ → rdN θ ⟨b, off + i * 7 + 1, none⟩ 3 = some (ctrV B.L[i].st) := fun h => by have := rdN_sub (rdN_Old (oldσ h) h1) (a := 1) (m := 3) (by omega); exact this
    have G4' : ∀ {θ : H}, Old τ θ → rdN θ ⟨b, off + i * 7 + 4, none⟩ 3 = some (ctrV B.L[i].pg) := fun h => by have := rdN_sub (rdN_Old (oldσ h) h1) (a := 4) (m := 3) (by omega); exact this
    have hb : (0:Int) ≤ (i:Int) ∧ (i:Int) < (B.L.length : Int) := by omega
    have hw : IntKind.wrap .i64 ((i:Int) + 1) = ((i + 1 : Nat) : Int) := by rw [wrap64 (by omega) (by omega)]; omega
    have tk : B.L.take (i + 1) = B.L.take i ++ [B.L[i]] := List.take_succ_eq_append_getElem hlt
    obtain ⟨b9, c9, b10, c10, b11, c11, b12, c12, τ1, τ2, τ3, τ4, a1, a2, a3, a4, x1, G4, o4⟩ := gs_four' (x := B.L[i]) hG (by simp; omega) (.cells 1 (porV ⟨B.L[i].m, stD l B.L[i], pgD l B.L[i]⟩) (0, 0))
    obtain ⟨o1, o2, o3, o4⟩ := o4 τ (Nat.le_refl _) hoρ
    have g1 := fun L => G1 (hoρ.trans (Old.ap (l := L)))
    have g2 := G4' o1
    have g3 := G0 o2
    have d3 : rd1 τ3 ⟨τ2.size, 2, none⟩ = some (.int .i64 (pgD l B.L[i])) := by rw [rd1_eq, x1]; rfl
    have hp1 : ∀ k, τ1.push k = ap τ1 [k] := fun k => by simp [ap]
    have hp2 : ∀ k, τ2.push k = ap τ2 [k] := fun k => by simp [ap]
    have hp3 : ∀ k, τ3.push k = ap τ3 [k] := fun k => by simp [ap]
    have s1 := R2 o1
    have s2 := R2 o2
    simp only [↓eD0, ↓eD1, eC0, eC1, eC2, eC3, eC4, eC5, eC6, wantedE, ↓reduceIte, Nat.reduceEqDiff, Option.map_some, Option.map_none, reread, List.nil_append, List.cons_append, List.map_cons, List.map_nil, List.length_nil, List.length_cons, Value.cells, List.getElem?_cons_zero, List.getElem?_cons_succ, outE, lks, lkR, rdV, neg1, evs, opt, Nat.reduceAdd, Nat.reduceMul, and_self, reduceCtorEq, List.size_toArray, List.all_cons, List.all_nil, Value.oneCell', List.set_cons_zero, List.set_cons_succ, sets, fillL, Nat.reduceLeDiff, List.drop_succ_cons, List.drop_zero, List.take_succ_cons, List.take_zero, List.toList_toArray, argsE, Array.append_empty, Array.empty_append, List.getElem?_toArray, Int.reduceLT, Int.reduceLE, Int.reduceToNat, Int.reduceEq, Nat.reduceLT, r2, dl, hb, Int.toNat_natCast, g1, ctrV]
    refine onV_of a1 ?_
    simp only [↓eD0, ↓eD1, eC0, eC1, eC2, eC3, eC4, eC5, eC6, wantedE, ↓reduceIte, Nat.reduceEqDiff, Option.map_some, Option.map_none, reread, List.nil_append, List.cons_append, List.map_cons, List.map_nil, List.length_nil, List.length_cons, Value.cells, List.getElem?_cons_zero, List.getElem?_cons_succ, outE, lks, lkR, rdV, neg1, evs, opt, Nat.reduceAdd, Nat.reduceMul, and_self, reduceCtorEq, List.size_toArray, List.all_cons, List.all_nil, Value.oneCell', List.set_cons_zero, List.set_cons_succ, sets, fillL, Nat.reduceLeDiff, List.drop_succ_cons, List.drop_zero, List.take_succ_cons, List.take_zero, List.toList_toArray, argsE, Array.append_empty, Array.empty_append, List.getElem?_toArray, Int.reduceLT, Int.reduceLE, Int.reduceToNat, Int.reduceEq, Nat.reduceLT, s1, hb, Int.toNat_natCast, g2, ctrV, hp1]
    refine onV_of a2 ?_
    simp only [↓eD0, ↓eD1, eC0, eC1, eC2, eC3, eC4, eC5, eC6, wantedE, ↓reduceIte, Nat.reduceEqDiff, Option.map_some, Option.map_none, reread, List.nil_append, List.cons_append, List.map_cons, List.map_nil, List.length_nil, List.length_cons, Value.cells, List.getElem?_cons_zero, List.getElem?_cons_succ, outE, lks, lkR, rdV, neg1, evs, opt, Nat.reduceAdd, Nat.reduceMul, and_self, reduceCtorEq, List.size_toArray, List.all_cons, List.all_nil, Value.oneCell', List.set_cons_zero, List.set_cons_succ, sets, fillL, Nat.reduceLeDiff, List.drop_succ_cons, List.drop_zero, List.take_succ_cons, List.take_zero, List.toList_toArray, argsE, Array.append_empty, Array.empty_append, List.getElem?_toArray, Int.reduceLT, Int.reduceLE, Int.reduceToNat, Int.reduceEq, Nat.reduceLT, s2, hb, Int.toNat_natCast, g3]
    refine appK_of (demand_app (l := l) (m := B.L[i].m) (hp.Old (oldσ o2)) (by omega)) ?_
    rintro _ _ ⟨e2, rfl⟩
    rw [e2]
    clear e2
    simp only [↓eD0, ↓eD1, eC0, eC1, eC2, eC3, eC4, eC5, eC6, wantedE, ↓reduceIte, Nat.reduceEqDiff, Option.map_some, Option.map_none, reread, List.nil_append, List.cons_append, List.map_cons, List.map_nil, List.length_nil, List.length_cons, Value.cells, List.getElem?_cons_zero, List.getElem?_cons_succ, outE, lks, lkR, rdV, neg1, evs, opt, Nat.reduceAdd, Nat.reduceMul, and_self, reduceCtorEq, List.size_toArray, List.all_cons, List.all_nil, Value.oneCell', List.set_cons_zero, List.set_cons_succ, sets, fillL, Nat.reduceLeDiff, List.drop_succ_cons, List.drop_zero, List.take_succ_cons, List.take_zero, List.toList_toArray, argsE, Array.append_empty, Array.empty_append, List.getElem?_toArray, Int.reduceLT, Int.reduceLE, Int.reduceToNat, Int.reduceEq, Nat.reduceLT, porV, hp2]
    refine onV_of a3 ?_
    simp only [↓eD0, ↓eD1, eC0, eC1, eC2, eC3, eC4, eC5, eC6, wantedE, ↓reduceIte, Nat.reduceEqDiff, Option.map_some, Option.map_none, reread, List.nil_append, List.cons_append, List.map_cons, List.map_nil, List.length_nil, List.length_cons, Value.cells, List.getElem?_cons_zero, List.getElem?_cons_succ, outE, lks, lkR, rdV, neg1, evs, opt, Nat.reduceAdd, Nat.reduceMul, and_self, reduceCtorEq, List.size_toArray, List.all_cons, List.all_nil, Value.oneCell', List.set_cons_zero, List.set_cons_succ, sets, fillL, Nat.reduceLeDiff, List.drop_succ_cons, List.drop_zero, List.take_succ_cons, List.take_zero, List.toList_toArray, argsE, Array.append_empty, Array.empty_append, List.getElem?_toArray, Int.reduceLT, Int.reduceLE, Int.reduceToNat, Int.reduceEq, Nat.reduceLT, d3, hp3]
    refine onV_of a4 ?_
    simp only [↓eD0, ↓eD1, eC0, eC1, eC2, eC3, eC4, eC5, eC6, wantedE, ↓reduceIte, Nat.reduceEqDiff, Option.map_some, Option.map_none, reread, List.nil_append, List.cons_append, List.map_cons, List.map_nil, List.length_nil, List.length_cons, Value.cells, List.getElem?_cons_zero, List.getElem?_cons_succ, outE, lks, lkR, rdV, neg1, evs, opt, Nat.reduceAdd, Nat.reduceMul, and_self, reduceCtorEq, List.size_toArray, List.all_cons, List.all_nil, Value.oneCell', List.set_cons_zero, List.set_cons_succ, sets, fillL, Nat.reduceLeDiff, List.drop_succ_cons, List.drop_zero, List.take_succ_cons, List.take_zero, List.toList_toArray, argsE, Array.append_empty, Array.empty_append, List.getElem?_toArray, Int.reduceLT, Int.reduceLE, Int.reduceToNat, Int.reduceEq, Nat.reduceLT, hw]
    rw [tk]
    exact ⟨hlt, by omega, _, _, _, _, rfl, o4, G4⟩
  · have : i = B.L.length := by omega
    subst this
    have dl : decide ((B.L.length:Int) < (B.L.length : Int)) = false := by simp
    rw [List.take_length] at hG
    obtain ⟨Q1, Q2, Q3, Q4⟩ := gsF_rows hG
    have s0 : ∀ L, rd1 (ap ρ L) ⟨σ.size, 0, none⟩ = some (.int .i64 B.st) := fun L => by rw [rd1_eq, m0 (hoρ.trans .ap)]; rfl
    simp only [↓eD0, ↓eD1, eC0, eC1, eC2, eC3, eC4, eC5, eC6, wantedE, ↓reduceIte, Nat.reduceEqDiff, Option.map_some, Option.map_none, reread, List.nil_append, List.cons_append, List.map_cons, List.map_nil, List.length_nil, List.length_cons, Value.cells, List.getElem?_cons_zero, List.getElem?_cons_succ, outE, lks, lkR, rdV, neg1, evs, opt, Nat.reduceAdd, Nat.reduceMul, and_self, reduceCtorEq, List.size_toArray, List.all_cons, List.all_nil, Value.oneCell', List.set_cons_zero, List.set_cons_succ, sets, fillL, Nat.reduceLeDiff, List.drop_succ_cons, List.drop_zero, List.take_succ_cons, List.take_zero, List.toList_toArray, argsE, Array.append_empty, Array.empty_append, List.getElem?_toArray, Int.reduceLT, Int.reduceLE, Int.reduceToNat, Int.reduceEq, Nat.reduceLT, r2, dl, s0]
    refine appK_of (rfill_app (l := B.L.map ctSt) (ds := B.L.map (stD l)) (cap := B.st) (Q1.Old .ap) (Q3.Old .ap) (filled_st hV)) ?_
    rintro xv ρ1 ⟨ho1, hX⟩
    rw [ap_nil] at ho1
    have s1 : rd1 ρ1 ⟨σ.size, 1, none⟩ = some (.int .i64 B.pg) := by rw [rd1_eq, m0 (hoρ.trans ho1)]; rfl
    simp only [↓eD0, ↓eD1, eC0, eC1, eC2, eC3, eC4, eC5, eC6, wantedE, ↓reduceIte, Nat.reduceEqDiff, Option.map_some, Option.map_none, reread, List.nil_append, List.cons_append, List.map_cons, List.map_nil, List.length_nil, List.length_cons, Value.cells, List.getElem?_cons_zero, List.getElem?_cons_succ, outE, lks, lkR, rdV, neg1, evs, opt, Nat.reduceAdd, Nat.reduceMul, and_self, reduceCtorEq, List.size_toArray, List.all_cons, List.all_nil, Value.oneCell', List.set_cons_zero, List.set_cons_succ, sets, fillL, Nat.reduceLeDiff, List.drop_succ_cons, List.drop_zero, List.take_succ_cons, List.take_zero, List.toList_toArray, argsE, Array.append_empty, Array.empty_append, List.getElem?_toArray, Int.reduceLT, Int.reduceLE, Int.reduceToNat, Int.reduceEq, Nat.reduceLT, s1]
    refine appK_of (rfill_app (l := B.L.map ctPg) (ds := B.L.map (pgD l)) (cap := B.pg) (Q2.Old ho1) (Q4.Old ho1) (filled_pg hV)) ?_
    rintro yv ρ2 ⟨ho2, hY⟩
    have hX : Row ρ2 1 xv ((epX B l).map intV) := hX.Old ho2
    have hY : Row ρ2 1 yv ((epY B l).map intV) := hY
    have hxl := epX_len (B := B) (l := l)
    have hyl := epY_len (B := B) (l := l)
    have hel := epF_len (B := B) (l := l)
    obtain ⟨xb, xc, rfl⟩ := hX.slice
    obtain ⟨yb, yc, rfl⟩ := hY.slice
    simp only [List.length_map] at hX hY ⊢
    have oτ : Old τ ρ2 := (hoρ.trans ho1).trans ho2
    rw [← ap_nil (σ := ρ2)]
    simp only [↓eD0, ↓eD1, eC0, eC1, eC2, eC3, eC4, eC5, eC6, wantedE, ↓reduceIte, Nat.reduceEqDiff, Option.map_some, Option.map_none, reread, List.nil_append, List.cons_append, List.map_cons, List.map_nil, List.length_nil, List.length_cons, Value.cells, List.getElem?_cons_zero, List.getElem?_cons_succ, outE, lks, lkR, rdV, neg1, evs, opt, Nat.reduceAdd, Nat.reduceMul, and_self, reduceCtorEq, List.size_toArray, List.all_cons, List.all_nil, Value.oneCell', List.set_cons_zero, List.set_cons_succ, sets, fillL, Nat.reduceLeDiff, List.drop_succ_cons, List.drop_zero, List.take_succ_cons, List.take_zero, List.toList_toArray, argsE, Array.append_empty, Array.empty_append, List.getElem?_toArray, Int.reduceLT, Int.reduceLE, Int.reduceToNat, Int.reduceEq, Nat.reduceLT]
    refine loop_for (J := fun i e θ => i ≤ B.L.length ∧ ∃ v, e = [(2, .pointer (some ⟨σ.size, 0, none⟩)), (11, .slice xb (epX B l).length xc), (12, .slice yb (epY B l).length yc), (13, v), (14, .int .i64 i)] ∧ Old ρ2 θ ∧ Grown ρ2 θ 3 v (((epF B l).take i).map porV).flatten ((epF B l).take i).length) B.L.length
      ⟨by omega, _, rfl, .ap, Grown.nil⟩ ?_
    rintro i e θ hi ⟨_, v, rfl, hoθ, hg⟩
    rw [← ap_nil (σ := θ)]
    have r2 := fun L => R2 ((oτ.trans hoθ).trans (Old.ap (l := L)))
    by_cases hlt : i < B.L.length
    · have dl : decide ((i:Int) < (B.L.length : Int)) = true := by simpa using hlt
      have hx : (B.L.map tenV)[i]? = some (tenV B.L[i]) := by simp [hlt]
      have hx1 : ((epX B l).map intV)[i]? = some (intV (epX B l)[i]) := by simp [hxl, hlt]
      have hx2 : ((epY B l).map intV)[i]? = some (intV (epY B l)[i]) := by simp [hyl, hlt]
      obtain ⟨b, off, rfl, h1⟩ := hr.at hx
      obtain ⟨b1, off1, rfl, h2⟩ := hX.at hx1
      obtain ⟨b2, off2, rfl, h3⟩ := hY.at hx2
      have g3 : ∀ L, rd1 (ap θ L) ⟨b, off + i * 7, none⟩ = some (.int .i64 B.L[i].m) := fun L => rd1_row (rdN_Old (oldσ ((oτ.trans hoθ).trans .ap)) h1) (j := 0) rfl
      have g4 : ∀ L, rd1 (ap θ L) ⟨b1, off1 + i, none⟩ = some (.int .i64 (epX B l)[i]) := fun L => rd1_Old (hoθ.trans .ap) (by simpa using rd1_row h2 (j := 0) rfl)
      have g5 : ∀ L, rd1 (ap θ L) ⟨b2, off2 + i, none⟩ = some (.int .i64 (epY B l)[i]) := fun L => rd1_Old (hoθ.trans .ap) (by simpa using rd1_row h3 (j := 0) rfl)
      have hb : (0:Int) ≤ (i:Int) ∧ (i:Int) < (B.L.length : Int) := by omega
      have hb1 : (0:Int) ≤ (i:Int) ∧ (i:Int) < ((epX B l).length : Int) := by omega
      have hb2 : (0:Int) ≤ (i:Int) ∧ (i:Int) < ((epY B l).length : Int) := by omega
      have hw : IntKind.wrap .i64 ((i:Int) + 1) = ((i + 1 : Nat) : Int) := by rw [wrap64 (by omega) (by omega)]; omega
      have hget := epF_get (B := B) (l := l) hlt (by omega) (by omega) (by omega)
      have tk : (epF B l).take (i + 1) = (epF B l).take i ++ [⟨B.L[i].m, (epX B l)[i], (epY B l)[i]⟩] := by rw [List.take_succ_eq_append_getElem (by omega), hget]
      obtain ⟨v', τ', ha1, hA⟩ := append_grown (σ := ap θ [.cells 0 (porV ⟨B.L[i].m, (epX B l)[i], (epY B l)[i]⟩) (0, 0)]) (xa := .slice (some ⟨θ.size, 0, none⟩) 1 1) (bytes := 24) (m := 1) (new := porV ⟨B.L[i].m, (epX B l)[i], (epY B l)[i]⟩) (hg.old .ap) (by omega) (Nat.le_trans hoθ.1 (Old.ap (l := _)).1) (by
        show (rdN (ap θ _) ⟨θ.size, 0, none⟩ 3).map (1, ·) = _
        rw [rdN_ap0]; rfl) rfl rfl (by simp only [List.length_take]; omega) (by omega)
      simp only [↓eD0, ↓eD1, eC0, eC1, eC2, eC3, eC4, eC5, eC6, wantedE, ↓reduceIte, Nat.reduceEqDiff, Option.map_some, Option.map_none, reread, List.nil_append, List.cons_append, List.map_cons, List.map_nil, List.length_nil, List.length_cons, Value.cells, List.getElem?_cons_zero, List.getElem?_cons_succ, outE, lks, lkR, rdV, neg1, evs, opt, Nat.reduceAdd, Nat.reduceMul, and_self, reduceCtorEq, List.size_toArray, List.all_cons, List.all_nil, Value.oneCell', List.set_cons_zero, List.set_cons_succ, sets, fillL, Nat.reduceLeDiff, List.drop_succ_cons, List.drop_zero, List.take_succ_cons, List.take_zero, List.toList_toArray, argsE, Array.append_empty, Array.empty_append, List.getElem?_toArray, Int.reduceLT, Int.reduceLE, Int.reduceToNat, Int.reduceEq, Nat.reduceLT, r2, dl, hb, hb1, hb2, Int.toNat_natCast, g3, g4, g5]
      refine onV_of ha1 ?_
      simp only [↓eD0, ↓eD1, eC0, eC1, eC2, eC3, eC4, eC5, eC6, wantedE, ↓reduceIte, Nat.reduceEqDiff, Option.map_some, Option.map_none, reread, List.nil_append, List.cons_append, List.map_cons, List.map_nil, List.length_nil, List.length_cons, Value.cells, List.getElem?_cons_zero, List.getElem?_cons_succ, outE, lks, lkR, rdV, neg1, evs, opt, Nat.reduceAdd, Nat.reduceMul, and_self, reduceCtorEq, List.size_toArray, List.all_cons, List.all_nil, Value.oneCell', List.set_cons_zero, List.set_cons_succ, sets, fillL, Nat.reduceLeDiff, List.drop_succ_cons, List.drop_zero, List.take_succ_cons, List.take_zero, List.toList_toArray, argsE, Array.append_empty, Array.empty_append, List.getElem?_toArray, Int.reduceLT, Int.reduceLE, Int.reduceToNat, Int.reduceEq, Nat.reduceLT, hw]
      refine ⟨hlt, by omega, v', rfl, hA.Old (hg.old .ap) (hoθ.trans .ap), ?_⟩
      rw [tk]
      simpa using hA.grown
    · have : i = B.L.length := by omega
      subst this
      have dl : decide ((B.L.length:Int) < (B.L.length : Int)) = false := by simp
      rw [List.take_of_length_le (by omega)] at hg
      simp only [↓eD0, ↓eD1, eC0, eC1, eC2, eC3, eC4, eC5, eC6, wantedE, ↓reduceIte, Nat.reduceEqDiff, Option.map_some, Option.map_none, reread, List.nil_append, List.cons_append, List.map_cons, List.map_nil, List.length_nil, List.length_cons, Value.cells, List.getElem?_cons_zero, List.getElem?_cons_succ, outE, lks, lkR, rdV, neg1, evs, opt, Nat.reduceAdd, Nat.reduceMul, and_self, reduceCtorEq, List.size_toArray, List.all_cons, List.all_nil, Value.oneCell', List.set_cons_zero, List.set_cons_succ, sets, fillL, Nat.reduceLeDiff, List.drop_succ_cons, List.drop_zero, List.take_succ_cons, List.take_zero, List.toList_toArray, argsE, Array.append_empty, Array.empty_append, List.getElem?_toArray, Int.reduceLT, Int.reduceLE, Int.reduceToNat, Int.reduceEq, Nat.reduceLT, r2, dl]
      exact ⟨(oldσ (oτ.trans hoθ)).trans .ap, Grown.Row (by simpa using hg.old (Old.ap (l := []))) porV_rows⟩
end Go.Proofs.Ytimcgoghjebalaa

set_option linter.unusedSimpArgs false
set_option linter.unusedVariables false
set_option maxRecDepth 10000
set_option maxHeartbeats 1000000
namespace Go.Proofs.Ytimcgoghjebalaa
open Go Go.Cn Go.RowKit

theorem law8 {σ : H} {l : List Ctr} {ds : List Int} {lv dv pv : Value} {cap : Int} {lbl : List Value} {B : Bud} {p : List Por} (hl : Row σ 3 lv (l.map ctrV)) (hd : Row σ 1 dv (ds.map intV)) (hB : IsB σ lbl B) (hp : Row σ 3 pv (p.map porV)) :
    App Try.prog (.func 8) #[] #[.int .i64 cap, lv, dv, .agg lbl.toArray, pv] σ fun v σ' => Old σ σ' ∧ v = .bool true := by
  refine App.of_sem mixed Try.func8 t8 k8 r8 (Nat.le_of_ble_eq_true rfl) ?_
  have hB' := hB
  obtain ⟨base, cp, rfl, hr, hcap⟩ := hB
  obtain ⟨pb, pc, rfl⟩ := hp.slice
  simp only [List.length_map] at hp ⊢
  rw [← ap_nil (σ := σ)]
  unfold s8
  simp only [↓eD0, ↓eD1, eC0, eC1, eC2, eC3, eC4, eC5, eC6, wantedE, ↓reduceIte, Nat.reduceEqDiff, Option.map_some, Option.map_none, reread, List.nil_append, List.cons_append, List.map_cons, List.map_nil, List.length_nil, List.length_cons, Value.cells, List.getElem?_cons_zero, List.getElem?_cons_succ, outE, lks, lkR, rdV, neg1, evs, opt, Nat.reduceAdd, Nat.reduceMul, and_self, reduceCtorEq, List.size_toArray, List.all_cons, List.all_nil, Value.oneCell', List.set_cons_zero, List.set_cons_succ, sets, fillL, Nat.reduceLeDiff, List.drop_succ_cons, List.drop_zero, List.take_succ_cons, List.take_zero, List.toList_toArray, argsE, Array.append_empty, Array.empty_append, List.getElem?_toArray, Int.reduceLT, Int.reduceLE, Int.reduceToNat, Int.reduceEq, Nat.reduceLT, budV]
  generalize hT : ap σ [.cells 0 [.int .i64 B.st, .int .i64 B.pg, .slice base B.L.length cp] (0, 0)] = T
  have hoT : Old σ T := hT ▸ .ap
  have q0 : T[σ.size]? = some (.cells 0 [.int .i64 B.st, .int .i64 B.pg, .slice base B.L.length cp] (0, 0)) := by rw [← hT]; exact ap_new0
  have F0 : ∀ τ, Old T τ → rdN τ ⟨σ.size, 0, none⟩ 3 = some [.int .i64 B.st, .int .i64 B.pg, .slice base B.L.length cp] := fun τ ho => rdN_all ((ho.2 _ (Array.getElem?_eq_some_iff.1 q0).1).trans q0) rfl
  have F2 : ∀ τ, Old T τ → rd1 τ ⟨σ.size, 2, none⟩ = some (.slice base B.L.length cp) := fun τ ho => by rw [rd1_eq, (ho.2 _ (Array.getElem?_eq_some_iff.1 q0).1).trans q0]; rfl
  refine appK_of (filled_app (hl.Old hoT) (hd.Old hoT)) ?_
  rintro _ _ ⟨e2, rfl⟩
  rw [e2]
  clear e2
  cases hF : filledF cap l ds
  case false =>
    have hoθ : Old T T := .refl
    have f0 := F0 _ hoθ
    have f2 := F2 _ hoθ
    by_cases h1 : p.length ≤ 60
    case neg =>
      have d1 : decide ((p.length:Int) ≤ 60) = false := by rw [decide_eq_false]; omega
      simp only [↓eD0, ↓eD1, eC0, eC1, eC2, eC3, eC4, eC5, eC6, wantedE, ↓reduceIte, Nat.reduceEqDiff, Option.map_some, Option.map_none, reread, List.nil_append, List.cons_append, List.map_cons, List.map_nil, List.length_nil, List.length_cons, Value.cells, List.getElem?_cons_zero, List.getElem?_cons_succ, outE, lks, lkR, rdV, neg1, evs, opt, Nat.reduceAdd, Nat.reduceMul, and_self, reduceCtorEq, List.size_toArray, List.all_cons, List.all_nil, Value.oneCell', List.set_cons_zero, List.set_cons_succ, sets, fillL, Nat.reduceLeDiff, List.drop_succ_cons, List.drop_zero, List.take_succ_cons, List.take_zero, List.toList_toArray, argsE, Array.append_empty, Array.empty_append, List.getElem?_toArray, Int.reduceLT, Int.reduceLE, Int.reduceToNat, Int.reduceEq, Nat.reduceLT, hF, d1, f0, f2, undef_eq]
      refine appK_of sanity_app ?_
      rintro _ _ ⟨e2, rfl⟩
      rw [e2]
      clear e2
      simp only [↓eD0, ↓eD1, eC0, eC1, eC2, eC3, eC4, eC5, eC6, wantedE, ↓reduceIte, Nat.reduceEqDiff, Option.map_some, Option.map_none, reread, List.nil_append, List.cons_append, List.map_cons, List.map_nil, List.length_nil, List.length_cons, Value.cells, List.getElem?_cons_zero, List.getElem?_cons_succ, outE, lks, lkR, rdV, neg1, evs, opt, Nat.reduceAdd, Nat.reduceMul, and_self, reduceCtorEq, List.size_toArray, List.all_cons, List.all_nil, Value.oneCell', List.set_cons_zero, List.set_cons_succ, sets, fillL, Nat.reduceLeDiff, List.drop_succ_cons, List.drop_zero, List.take_succ_cons, List.take_zero, List.toList_toArray, argsE, Array.append_empty, Array.empty_append, List.getElem?_toArray, Int.reduceLT, Int.reduceLE, Int.reduceToNat, Int.reduceEq, Nat.reduceLT]
      exact hoT.trans hoθ
    have d1 : decide ((p.length:Int) ≤ 60) = true := by rw [decide_eq_true]; omega
    by_cases h2 : B.L.length ≤ 40
    case neg =>
      have d2 : decide ((B.L.length:Int) ≤ 40) = false := by rw [decide_eq_false]; omega
      simp only [↓eD0, ↓eD1, eC0, eC1, eC2, eC3, eC4, eC5, eC6, wantedE, ↓reduceIte, Nat.reduceEqDiff, Option.map_some, Option.map_none, reread, List.nil_append, List.cons_append, List.map_cons, List.map_nil, List.length_nil, List.length_cons, Value.cells, List.getElem?_cons_zero, List.getElem?_cons_succ, outE, lks, lkR, rdV, neg1, evs, opt, Nat.reduceAdd, Nat.reduceMul, and_self, reduceCtorEq, List.size_toArray, List.all_cons, List.all_nil, Value.oneCell', List.set_cons_zero, List.set_cons_succ, sets, fillL, Nat.reduceLeDiff, List.drop_succ_cons, List.drop_zero, List.take_succ_cons, List.take_zero, List.toList_toArray, argsE, Array.append_empty, Array.empty_append, List.getElem?_toArray, Int.reduceLT, Int.reduceLE, Int.reduceToNat, Int.reduceEq, Nat.reduceLT, hF, d1, d2, f0, f2, undef_eq]
      refine appK_of sanity_app ?_
      rintro _ _ ⟨e2, rfl⟩
      rw [e2]
      clear e2
      simp only [↓eD0, ↓eD1, eC0, eC1, eC2, eC3, eC4, eC5, eC6, wantedE, ↓reduceIte, Nat.reduceEqDiff, Option.map_some, Option.map_none, reread, List.nil_append, List.cons_append, List.map_cons, List.map_nil, List.length_nil, List.length_cons, Value.cells, List.getElem?_cons_zero, List.getElem?_cons_succ, outE, lks, lkR, rdV, neg1, evs, opt, Nat.reduceAdd, Nat.reduceMul, and_self, reduceCtorEq, List.size_toArray, List.all_cons, List.all_nil, Value.oneCell', List.set_cons_zero, List.set_cons_succ, sets, fillL, Nat.reduceLeDiff, List.drop_succ_cons, List.drop_zero, List.take_succ_cons, List.take_zero, List.toList_toArray, argsE, Array.append_empty, Array.empty_append, List.getElem?_toArray, Int.reduceLT, Int.reduceLE, Int.reduceToNat, Int.reduceEq, Nat.reduceLT]
      exact hoT.trans hoθ
    have d2 : decide ((B.L.length:Int) ≤ 40) = true := by rw [decide_eq_true]; omega
    simp only [↓eD0, ↓eD1, eC0, eC1, eC2, eC3, eC4, eC5, eC6, wantedE, ↓reduceIte, Nat.reduceEqDiff, Option.map_some, Option.map_none, reread, List.nil_append, List.cons_append, List.map_cons, List.map_nil, List.length_nil, List.length_cons, Value.cells, List.getElem?_cons_zero, List.getElem?_cons_succ, outE, lks, lkR, rdV, neg1, evs, opt, Nat.reduceAdd, Nat.reduceMul, and_self, reduceCtorEq, List.size_toArray, List.all_cons, List.all_nil, Value.oneCell', List.set_cons_zero, List.set_cons_succ, sets, fillL, Nat.reduceLeDiff, List.drop_succ_cons, List.drop_zero, List.take_succ_cons, List.take_zero, List.toList_toArray, argsE, Array.append_empty, Array.empty_append, List.getElem?_toArray, Int.reduceLT, Int.reduceLE, Int.reduceToNat, Int.reduceEq, Nat.reduceLT, hF, d1, d2, f0, f2, undef_eq]
    refine appK_of (rvalid_app (hB'.Old (hoT.trans hoθ))) ?_
    rintro _ _ ⟨e2, rfl⟩
    rw [e2]
    clear e2
    cases hv : validF B
    case false =>
      simp only [↓eD0, ↓eD1, eC0, eC1, eC2, eC3, eC4, eC5, eC6, wantedE, ↓reduceIte, Nat.reduceEqDiff, Option.map_some, Option.map_none, reread, List.nil_append, List.cons_append, List.map_cons, List.map_nil, List.length_nil, List.length_cons, Value.cells, List.getElem?_cons_zero, List.getElem?_cons_succ, outE, lks, lkR, rdV, neg1, evs, opt, Nat.reduceAdd, Nat.reduceMul, and_self, reduceCtorEq, List.size_toArray, List.all_cons, List.all_nil, Value.oneCell', List.set_cons_zero, List.set_cons_succ, sets, fillL, Nat.reduceLeDiff, List.drop_succ_cons, List.drop_zero, List.take_succ_cons, List.take_zero, List.toList_toArray, argsE, Array.append_empty, Array.empty_append, List.getElem?_toArray, Int.reduceLT, Int.reduceLE, Int.reduceToNat, Int.reduceEq, Nat.reduceLT, undef_eq]
      refine appK_of sanity_app ?_
      rintro _ _ ⟨e2, rfl⟩
      rw [e2]
      clear e2
      simp only [↓eD0, ↓eD1, eC0, eC1, eC2, eC3, eC4, eC5, eC6, wantedE, ↓reduceIte, Nat.reduceEqDiff, Option.map_some, Option.map_none, reread, List.nil_append, List.cons_append, List.map_cons, List.map_nil, List.length_nil, List.length_cons, Value.cells, List.getElem?_cons_zero, List.getElem?_cons_succ, outE, lks, lkR, rdV, neg1, evs, opt, Nat.reduceAdd, Nat.reduceMul, and_self, reduceCtorEq, List.size_toArray, List.all_cons, List.all_nil, Value.oneCell', List.set_cons_zero, List.set_cons_succ, sets, fillL, Nat.reduceLeDiff, List.drop_succ_cons, List.drop_zero, List.take_succ_cons, List.take_zero, List.toList_toArray, argsE, Array.append_empty, Array.empty_append, List.getElem?_toArray, Int.reduceLT, Int.reduceLE, Int.reduceToNat, Int.reduceEq, Nat.reduceLT]
      exact hoT.trans hoθ
    have hV := valid_iff.1 hv
    simp only [↓eD0, ↓eD1, eC0, eC1, eC2, eC3, eC4, eC5, eC6, wantedE, ↓reduceIte, Nat.reduceEqDiff, Option.map_some, Option.map_none, reread, List.nil_append, List.cons_append, List.map_cons, List.map_nil, List.length_nil, List.length_cons, Value.cells, List.getElem?_cons_zero, List.getElem?_cons_succ, outE, lks, lkR, rdV, neg1, evs, opt, Nat.reduceAdd, Nat.reduceMul, and_self, reduceCtorEq, List.size_toArray, List.all_cons, List.all_nil, Value.oneCell', List.set_cons_zero, List.set_cons_succ, sets, fillL, Nat.reduceLeDiff, List.drop_succ_cons, List.drop_zero, List.take_succ_cons, List.take_zero, List.toList_toArray, argsE, Array.append_empty, Array.empty_append, List.getElem?_toArray, Int.reduceLT, Int.reduceLE, Int.reduceToNat, Int.reduceEq, Nat.reduceLT, f0, f2, undef_eq]
    refine appK_of (epoch_app (l := p) (hB'.Old (hoT.trans hoθ)) hV (hp.Old (hoT.trans hoθ)) (by omega)) ?_
    rintro xv θ1 ⟨hoθ1, hx⟩
    have f1 := F0 _ (hoθ.trans hoθ1)
    simp only [↓eD0, ↓eD1, eC0, eC1, eC2, eC3, eC4, eC5, eC6, wantedE, ↓reduceIte, Nat.reduceEqDiff, Option.map_some, Option.map_none, reread, List.nil_append, List.cons_append, List.map_cons, List.map_nil, List.length_nil, List.length_cons, Value.cells, List.getElem?_cons_zero, List.getElem?_cons_succ, outE, lks, lkR, rdV, neg1, evs, opt, Nat.reduceAdd, Nat.reduceMul, and_self, reduceCtorEq, List.size_toArray, List.all_cons, List.all_nil, Value.oneCell', List.set_cons_zero, List.set_cons_succ, sets, fillL, Nat.reduceLeDiff, List.drop_succ_cons, List.drop_zero, List.take_succ_cons, List.take_zero, List.toList_toArray, argsE, Array.append_empty, Array.empty_append, List.getElem?_toArray, Int.reduceLT, Int.reduceLE, Int.reduceToNat, Int.reduceEq, Nat.reduceLT, f1, undef_eq]
    refine appK_of (repoch_app (l := p) (hB'.Old (hoT.trans (hoθ.trans hoθ1))) hV (hp.Old (hoT.trans (hoθ.trans hoθ1))) (by omega)) ?_
    rintro yv θ2 ⟨hoθ2, hy⟩
    simp only [↓eD0, ↓eD1, eC0, eC1, eC2, eC3, eC4, eC5, eC6, wantedE, ↓reduceIte, Nat.reduceEqDiff, Option.map_some, Option.map_none, reread, List.nil_append, List.cons_append, List.map_cons, List.map_nil, List.length_nil, List.length_cons, Value.cells, List.getElem?_cons_zero, List.getElem?_cons_succ, outE, lks, lkR, rdV, neg1, evs, opt, Nat.reduceAdd, Nat.reduceMul, and_self, reduceCtorEq, List.size_toArray, List.all_cons, List.all_nil, Value.oneCell', List.set_cons_zero, List.set_cons_succ, sets, fillL, Nat.reduceLeDiff, List.drop_succ_cons, List.drop_zero, List.take_succ_cons, List.take_zero, List.toList_toArray, argsE, Array.append_empty, Array.empty_append, List.getElem?_toArray, Int.reduceLT, Int.reduceLE, Int.reduceToNat, Int.reduceEq, Nat.reduceLT, undef_eq]
    refine appK_of (samePors_app (a := epF B p) (hx.Old hoθ2) hy (by rw [epF_len]; omega)) ?_
    rintro _ _ ⟨e2, rfl⟩
    rw [e2]
    clear e2
    have hoθ := (hoθ.trans hoθ1).trans hoθ2
    simp only [↓eD0, ↓eD1, eC0, eC1, eC2, eC3, eC4, eC5, eC6, wantedE, ↓reduceIte, Nat.reduceEqDiff, Option.map_some, Option.map_none, reread, List.nil_append, List.cons_append, List.map_cons, List.map_nil, List.length_nil, List.length_cons, Value.cells, List.getElem?_cons_zero, List.getElem?_cons_succ, outE, lks, lkR, rdV, neg1, evs, opt, Nat.reduceAdd, Nat.reduceMul, and_self, reduceCtorEq, List.size_toArray, List.all_cons, List.all_nil, Value.oneCell', List.set_cons_zero, List.set_cons_succ, sets, fillL, Nat.reduceLeDiff, List.drop_succ_cons, List.drop_zero, List.take_succ_cons, List.take_zero, List.toList_toArray, argsE, Array.append_empty, Array.empty_append, List.getElem?_toArray, Int.reduceLT, Int.reduceLE, Int.reduceToNat, Int.reduceEq, Nat.reduceLT, undef_eq]
    refine appK_of sanity_app ?_
    rintro _ _ ⟨e2, rfl⟩
    rw [e2]
    clear e2
    simp only [↓eD0, ↓eD1, eC0, eC1, eC2, eC3, eC4, eC5, eC6, wantedE, ↓reduceIte, Nat.reduceEqDiff, Option.map_some, Option.map_none, reread, List.nil_append, List.cons_append, List.map_cons, List.map_nil, List.length_nil, List.length_cons, Value.cells, List.getElem?_cons_zero, List.getElem?_cons_succ, outE, lks, lkR, rdV, neg1, evs, opt, Nat.reduceAdd, Nat.reduceMul, and_self, reduceCtorEq, List.size_toArray, List.all_cons, List.all_nil, Value.oneCell', List.set_cons_zero, List.set_cons_succ, sets, fillL, Nat.reduceLeDiff, List.drop_succ_cons, List.drop_zero, List.take_succ_cons, List.take_zero, List.toList_toArray, argsE, Array.append_empty, Array.empty_append, List.getElem?_toArray, Int.reduceLT, Int.reduceLE, Int.reduceToNat, Int.reduceEq, Nat.reduceLT]
    exact hoT.trans hoθ
  case true =>
    have hFd := filled_of hF
    have few := hFd.few
    simp only [↓eD0, ↓eD1, eC0, eC1, eC2, eC3, eC4, eC5, eC6, wantedE, ↓reduceIte, Nat.reduceEqDiff, Option.map_some, Option.map_none, reread, List.nil_append, List.cons_append, List.map_cons, List.map_nil, List.length_nil, List.length_cons, Value.cells, List.getElem?_cons_zero, List.getElem?_cons_succ, outE, lks, lkR, rdV, neg1, evs, opt, Nat.reduceAdd, Nat.reduceMul, and_self, reduceCtorEq, List.size_toArray, List.all_cons, List.all_nil, Value.oneCell', List.set_cons_zero, List.set_cons_succ, sets, fillL, Nat.reduceLeDiff, List.drop_succ_cons, List.drop_zero, List.take_succ_cons, List.take_zero, List.toList_toArray, argsE, Array.append_empty, Array.empty_append, List.getElem?_toArray, Int.reduceLT, Int.reduceLE, Int.reduceToNat, Int.reduceEq, Nat.reduceLT, undef_eq]
    refine appK_of (fill_app (hl.Old hoT) (hd.Old hoT) hFd) ?_
    rintro av τ1 ⟨ho1, ha⟩
    simp only [↓eD0, ↓eD1, eC0, eC1, eC2, eC3, eC4, eC5, eC6, wantedE, ↓reduceIte, Nat.reduceEqDiff, Option.map_some, Option.map_none, reread, List.nil_append, List.cons_append, List.map_cons, List.map_nil, List.length_nil, List.length_cons, Value.cells, List.getElem?_cons_zero, List.getElem?_cons_succ, outE, lks, lkR, rdV, neg1, evs, opt, Nat.reduceAdd, Nat.reduceMul, and_self, reduceCtorEq, List.size_toArray, List.all_cons, List.all_nil, Value.oneCell', List.set_cons_zero, List.set_cons_succ, sets, fillL, Nat.reduceLeDiff, List.drop_succ_cons, List.drop_zero, List.take_succ_cons, List.take_zero, List.toList_toArray, argsE, Array.append_empty, Array.empty_append, List.getElem?_toArray, Int.reduceLT, Int.reduceLE, Int.reduceToNat, Int.reduceEq, Nat.reduceLT, undef_eq]
    refine appK_of (rfill_app (hl.Old (hoT.trans ho1)) (hd.Old (hoT.trans ho1)) hFd) ?_
    rintro bv τ2 ⟨ho2, hb⟩
    have hoθ : Old T τ2 := ho1.trans ho2
    simp only [↓eD0, ↓eD1, eC0, eC1, eC2, eC3, eC4, eC5, eC6, wantedE, ↓reduceIte, Nat.reduceEqDiff, Option.map_some, Option.map_none, reread, List.nil_append, List.cons_append, List.map_cons, List.map_nil, List.length_nil, List.length_cons, Value.cells, List.getElem?_cons_zero, List.getElem?_cons_succ, outE, lks, lkR, rdV, neg1, evs, opt, Nat.reduceAdd, Nat.reduceMul, and_self, reduceCtorEq, List.size_toArray, List.all_cons, List.all_nil, Value.oneCell', List.set_cons_zero, List.set_cons_succ, sets, fillL, Nat.reduceLeDiff, List.drop_succ_cons, List.drop_zero, List.take_succ_cons, List.take_zero, List.toList_toArray, argsE, Array.append_empty, Array.empty_append, List.getElem?_toArray, Int.reduceLT, Int.reduceLE, Int.reduceToNat, Int.reduceEq, Nat.reduceLT, undef_eq]
    refine appK_of (sameInts_app (a := fillC (claimsF l ds) cap) (b := fillC (claimsF l ds) cap) (ha.Old ho2) hb (by rw [fillC_len]; simp [claimsF]; omega)) ?_
    rintro _ _ ⟨e2, rfl⟩
    rw [e2, show decide (fillC (claimsF l ds) cap = fillC (claimsF l ds) cap) = true by simp]
    clear e2
    have f0 := F0 _ hoθ
    have f2 := F2 _ hoθ
    by_cases h1 : p.length ≤ 60
    case neg =>
      have d1 : decide ((p.length:Int) ≤ 60) = false := by rw [decide_eq_false]; omega
      simp only [↓eD0, ↓eD1, eC0, eC1, eC2, eC3, eC4, eC5, eC6, wantedE, ↓reduceIte, Nat.reduceEqDiff, Option.map_some, Option.map_none, reread, List.nil_append, List.cons_append, List.map_cons, List.map_nil, List.length_nil, List.length_cons, Value.cells, List.getElem?_cons_zero, List.getElem?_cons_succ, outE, lks, lkR, rdV, neg1, evs, opt, Nat.reduceAdd, Nat.reduceMul, and_self, reduceCtorEq, List.size_toArray, List.all_cons, List.all_nil, Value.oneCell', List.set_cons_zero, List.set_cons_succ, sets, fillL, Nat.reduceLeDiff, List.drop_succ_cons, List.drop_zero, List.take_succ_cons, List.take_zero, List.toList_toArray, argsE, Array.append_empty, Array.empty_append, List.getElem?_toArray, Int.reduceLT, Int.reduceLE, Int.reduceToNat, Int.reduceEq, Nat.reduceLT, d1, f0, f2, undef_eq]
      refine appK_of sanity_app ?_
      rintro _ _ ⟨e2, rfl⟩
      rw [e2]
      clear e2
      simp only [↓eD0, ↓eD1, eC0, eC1, eC2, eC3, eC4, eC5, eC6, wantedE, ↓reduceIte, Nat.reduceEqDiff, Option.map_some, Option.map_none, reread, List.nil_append, List.cons_append, List.map_cons, List.map_nil, List.length_nil, List.length_cons, Value.cells, List.getElem?_cons_zero, List.getElem?_cons_succ, outE, lks, lkR, rdV, neg1, evs, opt, Nat.reduceAdd, Nat.reduceMul, and_self, reduceCtorEq, List.size_toArray, List.all_cons, List.all_nil, Value.oneCell', List.set_cons_zero, List.set_cons_succ, sets, fillL, Nat.reduceLeDiff, List.drop_succ_cons, List.drop_zero, List.take_succ_cons, List.take_zero, List.toList_toArray, argsE, Array.append_empty, Array.empty_append, List.getElem?_toArray, Int.reduceLT, Int.reduceLE, Int.reduceToNat, Int.reduceEq, Nat.reduceLT]
      exact hoT.trans hoθ
    have d1 : decide ((p.length:Int) ≤ 60) = true := by rw [decide_eq_true]; omega
    by_cases h2 : B.L.length ≤ 40
    case neg =>
      have d2 : decide ((B.L.length:Int) ≤ 40) = false := by rw [decide_eq_false]; omega
      simp only [↓eD0, ↓eD1, eC0, eC1, eC2, eC3, eC4, eC5, eC6, wantedE, ↓reduceIte, Nat.reduceEqDiff, Option.map_some, Option.map_none, reread, List.nil_append, List.cons_append, List.map_cons, List.map_nil, List.length_nil, List.length_cons, Value.cells, List.getElem?_cons_zero, List.getElem?_cons_succ, outE, lks, lkR, rdV, neg1, evs, opt, Nat.reduceAdd, Nat.reduceMul, and_self, reduceCtorEq, List.size_toArray, List.all_cons, List.all_nil, Value.oneCell', List.set_cons_zero, List.set_cons_succ, sets, fillL, Nat.reduceLeDiff, List.drop_succ_cons, List.drop_zero, List.take_succ_cons, List.take_zero, List.toList_toArray, argsE, Array.append_empty, Array.empty_append, List.getElem?_toArray, Int.reduceLT, Int.reduceLE, Int.reduceToNat, Int.reduceEq, Nat.reduceLT, d1, d2, f0, f2, undef_eq]
      refine appK_of sanity_app ?_
      rintro _ _ ⟨e2, rfl⟩
      rw [e2]
      clear e2
      simp only [↓eD0, ↓eD1, eC0, eC1, eC2, eC3, eC4, eC5, eC6, wantedE, ↓reduceIte, Nat.reduceEqDiff, Option.map_some, Option.map_none, reread, List.nil_append, List.cons_append, List.map_cons, List.map_nil, List.length_nil, List.length_cons, Value.cells, List.getElem?_cons_zero, List.getElem?_cons_succ, outE, lks, lkR, rdV, neg1, evs, opt, Nat.reduceAdd, Nat.reduceMul, and_self, reduceCtorEq, List.size_toArray, List.all_cons, List.all_nil, Value.oneCell', List.set_cons_zero, List.set_cons_succ, sets, fillL, Nat.reduceLeDiff, List.drop_succ_cons, List.drop_zero, List.take_succ_cons, List.take_zero, List.toList_toArray, argsE, Array.append_empty, Array.empty_append, List.getElem?_toArray, Int.reduceLT, Int.reduceLE, Int.reduceToNat, Int.reduceEq, Nat.reduceLT]
      exact hoT.trans hoθ
    have d2 : decide ((B.L.length:Int) ≤ 40) = true := by rw [decide_eq_true]; omega
    simp only [↓eD0, ↓eD1, eC0, eC1, eC2, eC3, eC4, eC5, eC6, wantedE, ↓reduceIte, Nat.reduceEqDiff, Option.map_some, Option.map_none, reread, List.nil_append, List.cons_append, List.map_cons, List.map_nil, List.length_nil, List.length_cons, Value.cells, List.getElem?_cons_zero, List.getElem?_cons_succ, outE, lks, lkR, rdV, neg1, evs, opt, Nat.reduceAdd, Nat.reduceMul, and_self, reduceCtorEq, List.size_toArray, List.all_cons, List.all_nil, Value.oneCell', List.set_cons_zero, List.set_cons_succ, sets, fillL, Nat.reduceLeDiff, List.drop_succ_cons, List.drop_zero, List.take_succ_cons, List.take_zero, List.toList_toArray, argsE, Array.append_empty, Array.empty_append, List.getElem?_toArray, Int.reduceLT, Int.reduceLE, Int.reduceToNat, Int.reduceEq, Nat.reduceLT, d1, d2, f0, f2, undef_eq]
    refine appK_of (rvalid_app (hB'.Old (hoT.trans hoθ))) ?_
    rintro _ _ ⟨e2, rfl⟩
    rw [e2]
    clear e2
    cases hv : validF B
    case false =>
      simp only [↓eD0, ↓eD1, eC0, eC1, eC2, eC3, eC4, eC5, eC6, wantedE, ↓reduceIte, Nat.reduceEqDiff, Option.map_some, Option.map_none, reread, List.nil_append, List.cons_append, List.map_cons, List.map_nil, List.length_nil, List.length_cons, Value.cells, List.getElem?_cons_zero, List.getElem?_cons_succ, outE, lks, lkR, rdV, neg1, evs, opt, Nat.reduceAdd, Nat.reduceMul, and_self, reduceCtorEq, List.size_toArray, List.all_cons, List.all_nil, Value.oneCell', List.set_cons_zero, List.set_cons_succ, sets, fillL, Nat.reduceLeDiff, List.drop_succ_cons, List.drop_zero, List.take_succ_cons, List.take_zero, List.toList_toArray, argsE, Array.append_empty, Array.empty_append, List.getElem?_toArray, Int.reduceLT, Int.reduceLE, Int.reduceToNat, Int.reduceEq, Nat.reduceLT, undef_eq]
      refine appK_of sanity_app ?_
      rintro _ _ ⟨e2, rfl⟩
      rw [e2]
      clear e2
      simp only [↓eD0, ↓eD1, eC0, eC1, eC2, eC3, eC4, eC5, eC6, wantedE, ↓reduceIte, Nat.reduceEqDiff, Option.map_some, Option.map_none, reread, List.nil_append, List.cons_append, List.map_cons, List.map_nil, List.length_nil, List.length_cons, Value.cells, List.getElem?_cons_zero, List.getElem?_cons_succ, outE, lks, lkR, rdV, neg1, evs, opt, Nat.reduceAdd, Nat.reduceMul, and_self, reduceCtorEq, List.size_toArray, List.all_cons, List.all_nil, Value.oneCell', List.set_cons_zero, List.set_cons_succ, sets, fillL, Nat.reduceLeDiff, List.drop_succ_cons, List.drop_zero, List.take_succ_cons, List.take_zero, List.toList_toArray, argsE, Array.append_empty, Array.empty_append, List.getElem?_toArray, Int.reduceLT, Int.reduceLE, Int.reduceToNat, Int.reduceEq, Nat.reduceLT]
      exact hoT.trans hoθ
    have hV := valid_iff.1 hv
    simp only [↓eD0, ↓eD1, eC0, eC1, eC2, eC3, eC4, eC5, eC6, wantedE, ↓reduceIte, Nat.reduceEqDiff, Option.map_some, Option.map_none, reread, List.nil_append, List.cons_append, List.map_cons, List.map_nil, List.length_nil, List.length_cons, Value.cells, List.getElem?_cons_zero, List.getElem?_cons_succ, outE, lks, lkR, rdV, neg1, evs, opt, Nat.reduceAdd, Nat.reduceMul, and_self, reduceCtorEq, List.size_toArray, List.all_cons, List.all_nil, Value.oneCell', List.set_cons_zero, List.set_cons_succ, sets, fillL, Nat.reduceLeDiff, List.drop_succ_cons, List.drop_zero, List.take_succ_cons, List.take_zero, List.toList_toArray, argsE, Array.append_empty, Array.empty_append, List.getElem?_toArray, Int.reduceLT, Int.reduceLE, Int.reduceToNat, Int.reduceEq, Nat.reduceLT, f0, f2, undef_eq]
    refine appK_of (epoch_app (l := p) (hB'.Old (hoT.trans hoθ)) hV (hp.Old (hoT.trans hoθ)) (by omega)) ?_
    rintro xv θ1 ⟨hoθ1, hx⟩
    have f1 := F0 _ (hoθ.trans hoθ1)
    simp only [↓eD0, ↓eD1, eC0, eC1, eC2, eC3, eC4, eC5, eC6, wantedE, ↓reduceIte, Nat.reduceEqDiff, Option.map_some, Option.map_none, reread, List.nil_append, List.cons_append, List.map_cons, List.map_nil, List.length_nil, List.length_cons, Value.cells, List.getElem?_cons_zero, List.getElem?_cons_succ, outE, lks, lkR, rdV, neg1, evs, opt, Nat.reduceAdd, Nat.reduceMul, and_self, reduceCtorEq, List.size_toArray, List.all_cons, List.all_nil, Value.oneCell', List.set_cons_zero, List.set_cons_succ, sets, fillL, Nat.reduceLeDiff, List.drop_succ_cons, List.drop_zero, List.take_succ_cons, List.take_zero, List.toList_toArray, argsE, Array.append_empty, Array.empty_append, List.getElem?_toArray, Int.reduceLT, Int.reduceLE, Int.reduceToNat, Int.reduceEq, Nat.reduceLT, f1, undef_eq]
    refine appK_of (repoch_app (l := p) (hB'.Old (hoT.trans (hoθ.trans hoθ1))) hV (hp.Old (hoT.trans (hoθ.trans hoθ1))) (by omega)) ?_
    rintro yv θ2 ⟨hoθ2, hy⟩
    simp only [↓eD0, ↓eD1, eC0, eC1, eC2, eC3, eC4, eC5, eC6, wantedE, ↓reduceIte, Nat.reduceEqDiff, Option.map_some, Option.map_none, reread, List.nil_append, List.cons_append, List.map_cons, List.map_nil, List.length_nil, List.length_cons, Value.cells, List.getElem?_cons_zero, List.getElem?_cons_succ, outE, lks, lkR, rdV, neg1, evs, opt, Nat.reduceAdd, Nat.reduceMul, and_self, reduceCtorEq, List.size_toArray, List.all_cons, List.all_nil, Value.oneCell', List.set_cons_zero, List.set_cons_succ, sets, fillL, Nat.reduceLeDiff, List.drop_succ_cons, List.drop_zero, List.take_succ_cons, List.take_zero, List.toList_toArray, argsE, Array.append_empty, Array.empty_append, List.getElem?_toArray, Int.reduceLT, Int.reduceLE, Int.reduceToNat, Int.reduceEq, Nat.reduceLT, undef_eq]
    refine appK_of (samePors_app (a := epF B p) (hx.Old hoθ2) hy (by rw [epF_len]; omega)) ?_
    rintro _ _ ⟨e2, rfl⟩
    rw [e2]
    clear e2
    have hoθ := (hoθ.trans hoθ1).trans hoθ2
    simp only [↓eD0, ↓eD1, eC0, eC1, eC2, eC3, eC4, eC5, eC6, wantedE, ↓reduceIte, Nat.reduceEqDiff, Option.map_some, Option.map_none, reread, List.nil_append, List.cons_append, List.map_cons, List.map_nil, List.length_nil, List.length_cons, Value.cells, List.getElem?_cons_zero, List.getElem?_cons_succ, outE, lks, lkR, rdV, neg1, evs, opt, Nat.reduceAdd, Nat.reduceMul, and_self, reduceCtorEq, List.size_toArray, List.all_cons, List.all_nil, Value.oneCell', List.set_cons_zero, List.set_cons_succ, sets, fillL, Nat.reduceLeDiff, List.drop_succ_cons, List.drop_zero, List.take_succ_cons, List.take_zero, List.toList_toArray, argsE, Array.append_empty, Array.empty_append, List.getElem?_toArray, Int.reduceLT, Int.reduceLE, Int.reduceToNat, Int.reduceEq, Nat.reduceLT, undef_eq]
    refine appK_of sanity_app ?_
    rintro _ _ ⟨e2, rfl⟩
    rw [e2]
    clear e2
    simp only [↓eD0, ↓eD1, eC0, eC1, eC2, eC3, eC4, eC5, eC6, wantedE, ↓reduceIte, Nat.reduceEqDiff, Option.map_some, Option.map_none, reread, List.nil_append, List.cons_append, List.map_cons, List.map_nil, List.length_nil, List.length_cons, Value.cells, List.getElem?_cons_zero, List.getElem?_cons_succ, outE, lks, lkR, rdV, neg1, evs, opt, Nat.reduceAdd, Nat.reduceMul, and_self, reduceCtorEq, List.size_toArray, List.all_cons, List.all_nil, Value.oneCell', List.set_cons_zero, List.set_cons_succ, sets, fillL, Nat.reduceLeDiff, List.drop_succ_cons, List.drop_zero, List.take_succ_cons, List.take_zero, List.toList_toArray, argsE, Array.append_empty, Array.empty_append, List.getElem?_toArray, Int.reduceLT, Int.reduceLE, Int.reduceToNat, Int.reduceEq, Nat.reduceLT]
    exact hoT.trans hoθ
end Go.Proofs.Ytimcgoghjebalaa
