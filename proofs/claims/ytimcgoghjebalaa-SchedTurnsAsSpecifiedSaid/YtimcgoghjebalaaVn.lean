/- Walks and plain laws. Conditions: none. -/
import Derived.Test.YtimcgoghjebalaaVm
set_option linter.all false
set_option linter.unusedSimpArgs false
set_option linter.unusedVariables false
set_option maxRecDepth 10000
set_option maxHeartbeats 1000000
namespace Go.Proofs.Ytimcgoghjebalaa
open Go Go.Cn Go.RowKit

def stD (l : List Por) (t : Ten) : Int := clip (findP l t.m).st
def pgD (l : List Por) (t : Ten) : Int := clip (findP l t.m).pg
def ctSt (t : Ten) : Ctr := t.st
def ctPg (t : Ten) : Ctr := t.pg
def epX (B : Bud) (l : List Por) : List Int := fillC (claimsF (B.L.map ctSt) (B.L.map (stD l))) B.st
def epY (B : Bud) (l : List Por) : List Int := fillC (claimsF (B.L.map ctPg) (B.L.map (pgD l))) B.pg
def epP (t : Ten) (p : Int × Int) : Por := ⟨t.m, p.1, p.2⟩
def epF (B : Bud) (l : List Por) : List Por := List.zipWith epP B.L ((epX B l).zip (epY B l))

theorem sumR_st : ∀ {L : List Ten}, sumR (L.map ctSt) = sumT stR L
  | [] => rfl
  | t :: r => by rw [List.map_cons, sumR, sumT, sumR_st]; rfl
theorem sumR_pg : ∀ {L : List Ten}, sumR (L.map ctPg) = sumT pgR L
  | [] => rfl
  | t :: r => by rw [List.map_cons, sumR, sumT, sumR_pg]; rfl
theorem amt_map {L : List Ten} {f : Ten → Int} (h : ∀ t, Amt (f t)) : ∀ d ∈ L.map f, Amt d := by
  intro d hd
  obtain ⟨t, _, rfl⟩ := List.mem_map.1 hd
  exact h t
theorem filled_st {B : Bud} {l : List Por} (h : ValidB B) : Filled B.st (B.L.map ctSt) (B.L.map (stD l)) := by
  have ok : ∀ c ∈ B.L.map ctSt, c.Ok := by intro c hc; obtain ⟨t, ht, rfl⟩ := List.mem_map.1 hc; exact (h.all t ht).2.1
  have am := amt_map (L := B.L) (f := stD l) fun t => clip_amt
  exact ⟨h.st, by simpa using h.few, by simp, ok, am, by have h1 := sum_zero ok am; have h2 := h.s1; rw [sumR_st] at h1; omega⟩
theorem filled_pg {B : Bud} {l : List Por} (h : ValidB B) : Filled B.pg (B.L.map ctPg) (B.L.map (pgD l)) := by
  have ok : ∀ c ∈ B.L.map ctPg, c.Ok := by intro c hc; obtain ⟨t, ht, rfl⟩ := List.mem_map.1 hc; exact (h.all t ht).2.2
  have am := amt_map (L := B.L) (f := pgD l) fun t => clip_amt
  exact ⟨h.pg, by simpa using h.few, by simp, ok, am, by have h1 := sum_zero ok am; have h2 := h.s2; rw [sumR_pg] at h1; omega⟩
theorem epX_len {B : Bud} {l : List Por} : (epX B l).length = B.L.length := by simp [epX, fillC_len, claimsF]
theorem epY_len {B : Bud} {l : List Por} : (epY B l).length = B.L.length := by simp [epY, fillC_len, claimsF]
theorem epF_len {B : Bud} {l : List Por} : (epF B l).length = B.L.length := by simp [epF, epX_len, epY_len]
theorem epF_get {B : Bud} {l : List Por} {i : Nat} (h : i < B.L.length) (h1 : i < (epX B l).length) (h2 : i < (epY B l).length) (h3 : i < (epF B l).length) : (epF B l)[i] = ⟨B.L[i].m, (epX B l)[i], (epY B l)[i]⟩ := by
  simp [epF, epP]

/-- The last portions of a list, by machine. -/
def wantF (l : List Por) (n : Nat) (k : Int) : Option Value := ((l.drop n).find? fun p => decide (p.m = k)).map fun p => .agg (porV p).toArray
theorem wantF_step {l : List Por} {n : Nat} (h : n < l.length) : (fun k' => if k' = l[n].m then some (Value.agg (porV l[n]).toArray) else wantF l (n + 1) k') = wantF l n := by
  funext k
  unfold wantF
  rw [List.drop_eq_getElem_cons h, List.find?_cons]
  by_cases hk : k = l[n].m
  · simp [hk]
  · have : ¬ l[n].m = k := fun h => hk h.symm
    simp [hk, this]
theorem want_all {l : List Por} {k : Int} : (wantF l 0 k).getD (.agg #[.int .i64 0, .int .i64 0, .int .i64 0]) = .agg #[.int .i64 (((l.find? fun p => decide (p.m = k)).map fun p => p.m).getD 0), .int .i64 (findP l k).st, .int .i64 (findP l k).pg] := by
  unfold wantF findP
  rw [List.drop_zero]
  cases l.find? (fun p => decide (p.m = k)) <;> rfl

def gsF (l : List Por) (X : List Ten) (v9 v10 v11 v12 : Value) : List Sl :=
  [⟨3, v9, (X.map fun t => ctrV t.st).flatten, X.length⟩, ⟨3, v10, (X.map fun t => ctrV t.pg).flatten, X.length⟩, ⟨1, v11, (X.map fun t => intV (stD l t)).flatten, X.length⟩, ⟨1, v12, (X.map fun t => intV (pgD l t)).flatten, X.length⟩]
theorem gsF_nil {l : List Por} {τ : H} : Gs τ.size τ (gsF l [] (.slice none 0 0) (.slice none 0 0) (.slice none 0 0) (.slice none 0 0)) := by
  refine ⟨Nat.le_refl _, fun i g hg => ?_, fun i j g h hij hg hh c hc => ?_⟩
  · match i, hg with
    | 0, hg | 1, hg | 2, hg | 3, hg => injection hg with hg; subst hg; exact Grown.nil
    | i + 4, hg => simp [gsF] at hg
  · match i, hg with
    | 0, hg | 1, hg | 2, hg | 3, hg => injection hg with hg; subst hg; cases hc
    | i + 4, hg => simp [gsF] at hg
theorem gsF_snoc {l : List Por} {X : List Ten} {x : Ten} {a b c d : Value} :
    gsF l (X ++ [x]) a b c d = [⟨3, a, (X.map fun t => ctrV t.st).flatten ++ ctrV x.st, X.length + 1⟩, ⟨3, b, (X.map fun t => ctrV t.pg).flatten ++ ctrV x.pg, X.length + 1⟩, ⟨1, c, (X.map fun t => intV (stD l t)).flatten ++ intV (stD l x), X.length + 1⟩, ⟨1, d, (X.map fun t => intV (pgD l t)).flatten ++ intV (pgD l x), X.length + 1⟩] := by
  simp [gsF]
theorem ap_ap {σ : H} {a b : List Blk} : ap (ap σ a) b = ap σ (a ++ b) := by simp [ap]

/-- One tenant more, in all four lists: the program's order. -/
theorem gs_four {l : List Por} {n0 : Nat} {τ : H} {X : List Ten} {x : Ten} {v9 v10 v11 v12 : Value} (h : Gs n0 τ (gsF l X v9 v10 v11 v12)) (hX : X.length ≤ 1000) (k0 k1 : Blk) :
    ∃ b9 c9 b10 c10 b11 c11 b12 c12 τ1 τ2 τ3 τ4,
      append 3 24 v9 (.slice (some ⟨τ.size + 2, 0, none⟩) 1 1) (ap τ [k0, k1, .cells 0 (ctrV x.st) (0, 0)]) = some (.slice b9 (X ++ [x]).length c9, τ1) ∧
      append 1 8 v11 (.slice (some ⟨τ1.size, 0, none⟩) 1 1) (ap τ1 [.cells 0 (intV (stD l x)) (0, 0)]) = some (.slice b11 (X ++ [x]).length c11, τ2) ∧
      append 3 24 v10 (.slice (some ⟨τ2.size, 0, none⟩) 1 1) (ap τ2 [.cells 0 (ctrV x.pg) (0, 0)]) = some (.slice b10 (X ++ [x]).length c10, τ3) ∧
      append 1 8 v12 (.slice (some ⟨τ3.size, 0, none⟩) 1 1) (ap τ3 [.cells 0 (intV (pgD l x)) (0, 0)]) = some (.slice b12 (X ++ [x]).length c12, τ4) ∧
      (τ1[τ.size]? = some k0 ∧ τ1[τ.size + 1]? = some k1) ∧ (τ2[τ.size]? = some k0 ∧ τ2[τ.size + 1]? = some k1) ∧ (τ3[τ.size]? = some k0 ∧ τ3[τ.size + 1]? = some k1) ∧
      Gs n0 τ4 (gsF l (X ++ [x]) (.slice b9 (X ++ [x]).length c9) (.slice b10 (X ++ [x]).length c10) (.slice b11 (X ++ [x]).length c11) (.slice b12 (X ++ [x]).length c12)) ∧
      (∀ ρ : H, ρ.size ≤ n0 → Old ρ τ → Old ρ τ1 ∧ Old ρ τ2 ∧ Old ρ τ3 ∧ Old ρ τ4) := by
  have el : X.length + 1 = (X ++ [x]).length := by simp
  have n9 : ∀ c, τ.size ≤ c → baseOf v9 ≠ some c := fun c hc hb => by have := (h.base (i := 0) rfl hb).2; omega
  have n10 : ∀ c, τ.size ≤ c → baseOf v10 ≠ some c := fun c hc hb => by have := (h.base (i := 1) rfl hb).2; omega
  have n11 : ∀ c, τ.size ≤ c → baseOf v11 ≠ some c := fun c hc hb => by have := (h.base (i := 2) rfl hb).2; omega
  obtain ⟨b9, c9, τ1, a1, G1, f1, o1⟩ := gs_push h [k0, k1] (i := 0) rfl (ctrV x.st) rfl rfl (Nat.succ_pos _) (bytes := 24) (by simp only; omega) (by decide)
  obtain ⟨b11, c11, τ2, a2, G2, f2, o2⟩ := gs_push G1 [] (i := 2) rfl (intV (stD l x)) rfl rfl (Nat.succ_pos _) (bytes := 8) (by simp only; omega) (by decide)
  obtain ⟨b10, c10, τ3, a3, G3, f3, o3⟩ := gs_push G2 [] (i := 1) rfl (ctrV x.pg) rfl rfl (Nat.succ_pos _) (bytes := 24) (by simp only; omega) (by decide)
  obtain ⟨b12, c12, τ4, a4, G4, f4, o4⟩ := gs_push G3 [] (i := 3) rfl (intV (pgD l x)) rfl rfl (Nat.succ_pos _) (bytes := 8) (by simp only; omega) (by decide)
  have p0 : τ1[τ.size]? = some k0 := f1 _ _ (by rw [ap_new0]; rfl) (n9 _ (Nat.le_refl _))
  have p1 : τ1[τ.size + 1]? = some k1 := f1 _ _ (by rw [ap_new]; rfl) (n9 _ (by omega))
  have q0 : τ2[τ.size]? = some k0 := f2 _ _ ((ap_old (Array.getElem?_eq_some_iff.1 p0).1).trans p0) (n11 _ (Nat.le_refl _))
  have q1 : τ2[τ.size + 1]? = some k1 := f2 _ _ ((ap_old (Array.getElem?_eq_some_iff.1 p1).1).trans p1) (n11 _ (by omega))
  have r0 : τ3[τ.size]? = some k0 := f3 _ _ ((ap_old (Array.getElem?_eq_some_iff.1 q0).1).trans q0) (n10 _ (Nat.le_refl _))
  have r1 : τ3[τ.size + 1]? = some k1 := f3 _ _ ((ap_old (Array.getElem?_eq_some_iff.1 q1).1).trans q1) (n10 _ (by omega))
  refine ⟨b9, c9, b10, c10, b11, c11, b12, c12, τ1, τ2, τ3, τ4, ?_, ?_, ?_, ?_, ⟨p0, p1⟩, ⟨q0, q1⟩, ⟨r0, r1⟩, ?_, fun ρ hρ ho => ⟨o1 ρ hρ ho, o2 ρ hρ (o1 ρ hρ ho), o3 ρ hρ (o2 ρ hρ (o1 ρ hρ ho)), o4 ρ hρ (o3 ρ hρ (o2 ρ hρ (o1 ρ hρ ho)))⟩⟩
  · rw [← el]; exact a1
  · rw [← el]; exact a2
  · rw [← el]; exact a3
  · rw [← el]; exact a4
  · rw [gsF_snoc, ← el]; exact G4
end Go.Proofs.Ytimcgoghjebalaa

set_option linter.unusedSimpArgs false
set_option linter.unusedVariables false
set_option maxRecDepth 10000
set_option maxHeartbeats 1000000
namespace Go.Proofs.Ytimcgoghjebalaa
open Go Go.Cn Go.RowKit

/-- What the four lists hold at the end. -/
theorem gsF_rows {l : List Por} {n0 : Nat} {τ : H} {L : List Ten} {v9 v10 v11 v12 : Value} (h : Gs n0 τ (gsF l L v9 v10 v11 v12)) :
    Row τ 3 v9 ((L.map ctSt).map ctrV) ∧ Row τ 3 v10 ((L.map ctPg).map ctrV) ∧ Row τ 1 v11 ((L.map (stD l)).map intV) ∧ Row τ 1 v12 ((L.map (pgD l)).map intV) := by
  have h0 := h.all 0 _ rfl
  have h1 := h.all 1 _ rfl
  have h2 := h.all 2 _ rfl
  have h3 := h.all 3 _ rfl
  refine ⟨Grown.Row (σ0 := sized n0) ?_ ctrV_rows, Grown.Row (σ0 := sized n0) ?_ ctrV_rows, Grown.Row (σ0 := sized n0) ?_ intV_rows, Grown.Row (σ0 := sized n0) ?_ intV_rows⟩
  · simpa [Function.comp_def, ctSt] using h0
  · simpa [Function.comp_def, ctPg] using h1
  · simpa [Function.comp_def] using h2
  · simpa [Function.comp_def] using h3

set_option maxHeartbeats 4000000 in
theorem epoch_app {σ : H} {lb : List Value} {B : Bud} {l : List Por} {pv : Value} (h : IsB σ lb B) (hV : ValidB B) (hp : Row σ 3 pv (l.map porV)) (hn : l.length ≤ 1000) :
    App Try.prog (.func 29) #[] #[.agg lb.toArray, pv] σ fun v σ' => Old σ σ' ∧ Row σ' 3 v ((epF B l).map porV) := by
  refine App.of_sem mixed Try.func29 t29 k29 r29 (Nat.le_of_ble_eq_true rfl) ?_
  have hB := h
  obtain ⟨base, cap, rfl, hr, hcap⟩ := h
  obtain ⟨pb, pc, rfl⟩ := hp.slice
  simp only [List.length_map] at hp ⊢
  have few := hV.few
  rw [← ap_nil (σ := σ)]
  unfold s29
  simp only [↓eD0, ↓eD1, eC0, eC1, eC2, eC3, eC4, eC5, eC6, wantedE, ↓reduceIte, Nat.reduceEqDiff, Option.map_some, Option.map_none, reread, List.nil_append, List.cons_append, List.map_cons, List.map_nil, List.length_nil, List.length_cons, Value.cells, List.getElem?_cons_zero, List.getElem?_cons_succ, outE, lks, lkR, rdV, neg1, evs, opt, Nat.reduceAdd, Nat.reduceMul, and_self, reduceCtorEq, List.size_toArray, List.all_cons, List.all_nil, Value.oneCell', List.set_cons_zero, List.set_cons_succ, sets, fillL, Nat.reduceLeDiff, List.drop_succ_cons, List.drop_zero, List.take_succ_cons, List.take_zero, List.toList_toArray, argsE, Array.append_empty, Array.empty_append, List.getElem?_toArray, Int.reduceLT, Int.reduceLE, Int.reduceToNat, Int.reduceEq, Nat.reduceLT, budV]
  refine loop_for (J := fun i e τ => i ≤ l.length ∧ e = [(1, .slice pb l.length pc), (2, .pointer (some ⟨σ.size, 0, none⟩)), (5, .map (some (σ.size + 1))), (23, .int .i64 l.length), (24, .int .i64 i)] ∧
      Old σ τ ∧ τ[σ.size]? = some (.cells 0 [.int .i64 B.st, .int .i64 B.pg, .slice base B.L.length cap] (0, 0)) ∧ ∃ ver es clock, τ[σ.size + 1]? = some (.map ver es clock) ∧ IntMap es (wantF l (l.length - i))) l.length
    ⟨by omega, rfl, .ap, ap_new0, 0, _, 0, ap_new, by have : wantF l (l.length - 0) = fun _ => none := by { funext k; simp [wantF] }; rw [this]; exact intMap_empty⟩ ?_
  rintro i e τ hi ⟨_, rfl, ho, q0, ver, es, clock, q1, hm⟩
  have z0 := (Array.getElem?_eq_some_iff.1 q0).1
  have z1 := (Array.getElem?_eq_some_iff.1 q1).1
  rw [← ap_nil (σ := τ)]
  by_cases hlt : i < l.length
  · obtain ⟨j, hj⟩ : ∃ j, j = l.length - (i + 1) := ⟨_, rfl⟩
    have hjl : j < l.length := by omega
    have dl : decide ((i:Int) < (l.length : Int)) = true := by simpa using hlt
    have hx : (l.map porV)[j]? = some (porV l[j]) := by simp [hjl]
    obtain ⟨b, off, rfl, h1⟩ := hp.at hx
    have g3 : ∀ L, rdN (ap τ L) ⟨b, off + j * 3, none⟩ 3 = some (porV l[j]) := fun L => rdN_Old (ho.trans .ap) h1
    have w1 : IntKind.wrap .i64 ((l.length:Int) - 1) = (l.length:Int) - 1 := wrap64 (by omega) (by omega)
    have w2 : IntKind.wrap .i64 ((l.length:Int) - 1 - (i:Int)) = (j:Int) := by rw [wrap64 (by omega) (by omega)]; omega
    have hb : (0:Int) ≤ (j:Int) ∧ (j:Int) < (l.length : Int) := by omega
    have hw : IntKind.wrap .i64 ((i:Int) + 1) = ((i + 1 : Nat) : Int) := by rw [wrap64 (by omega) (by omega)]; omega
    obtain ⟨es', clock', p1, p2⟩ := map_put (σ := ap τ [.cells 1 (porV l[j]) (0, 0)]) (k := l[j].m) (v := .agg (porV l[j]).toArray) hm ((ap_old z1).trans q1)
    have p1' : mapPut (.int .i64) (.map (some (σ.size + 1))) (.int .i64 l[j].m) (.agg #[.int .i64 l[j].m, .int .i64 l[j].st, .int .i64 l[j].pg]) (ap τ [.cells 1 [.int .i64 l[j].m, .int .i64 l[j].st, .int .i64 l[j].pg] (0, 0)]) = some ((ap τ [.cells 1 (porV l[j]) (0, 0)]).setIfInBounds (σ.size + 1) (.map (ver + 1) es' clock')) := p1
    simp only [↓eD0, ↓eD1, eC0, eC1, eC2, eC3, eC4, eC5, eC6, wantedE, ↓reduceIte, Nat.reduceEqDiff, Option.map_some, Option.map_none, reread, List.nil_append, List.cons_append, List.map_cons, List.map_nil, List.length_nil, List.length_cons, Value.cells, List.getElem?_cons_zero, List.getElem?_cons_succ, outE, lks, lkR, rdV, neg1, evs, opt, Nat.reduceAdd, Nat.reduceMul, and_self, reduceCtorEq, List.size_toArray, List.all_cons, List.all_nil, Value.oneCell', List.set_cons_zero, List.set_cons_succ, sets, fillL, Nat.reduceLeDiff, List.drop_succ_cons, List.drop_zero, List.take_succ_cons, List.take_zero, List.toList_toArray, argsE, Array.append_empty, Array.empty_append, List.getElem?_toArray, Int.reduceLT, Int.reduceLE, Int.reduceToNat, Int.reduceEq, Nat.reduceLT, dl, w1, w2, hb, Int.toNat_natCast, g3, porV, p1', hw]
    refine ⟨hlt, by omega, (ho.trans .ap).set (by omega), (get_set_ne (by omega)).trans ((ap_old z0).trans q0), ver + 1, es', clock', get_set ((ap_old z1).trans q1), ?_⟩
    have hji : l.length - i = j + 1 := by omega
    rw [hji] at p2
    rw [← hj, ← wantF_step hjl]
    exact p2
  · have : i = l.length := by omega
    subst this
    have dl : decide ((l.length:Int) < (l.length : Int)) = false := by simp
    rw [Nat.sub_self] at hm
    have r2 : ∀ L, rd1 (ap τ L) ⟨σ.size, 2, none⟩ = some (.slice base B.L.length cap) := fun L => by rw [rd1_eq, ap_old z0, q0]; rfl
    simp only [↓eD0, ↓eD1, eC0, eC1, eC2, eC3, eC4, eC5, eC6, wantedE, ↓reduceIte, Nat.reduceEqDiff, Option.map_some, Option.map_none, reread, List.nil_append, List.cons_append, List.map_cons, List.map_nil, List.length_nil, List.length_cons, Value.cells, List.getElem?_cons_zero, List.getElem?_cons_succ, outE, lks, lkR, rdV, neg1, evs, opt, Nat.reduceAdd, Nat.reduceMul, and_self, reduceCtorEq, List.size_toArray, List.all_cons, List.all_nil, Value.oneCell', List.set_cons_zero, List.set_cons_succ, sets, fillL, Nat.reduceLeDiff, List.drop_succ_cons, List.drop_zero, List.take_succ_cons, List.take_zero, List.toList_toArray, argsE, Array.append_empty, Array.empty_append, List.getElem?_toArray, Int.reduceLT, Int.reduceLE, Int.reduceToNat, Int.reduceEq, Nat.reduceLT, dl, r2]
    rw [ap_nil]
    refine loop_for (J := fun i e ρ => i ≤ B.L.length ∧ ∃ v9 v10 v11 v12, e = [(2, .pointer (some ⟨σ.size, 0, none⟩)), (5, .map (some (σ.size + 1))), (8, .func (.func 45) #[] #[]), (9, v9), (10, v10), (11, v11), (12, v12), (41, .slice base B.L.length cap), (42, .int .i64 B.L.length), (43, .int .i64 i)] ∧
        Old τ ρ ∧ Gs τ.size ρ (gsF l (B.L.take i) v9 v10 v11 v12)) B.L.length ⟨by omega, _, _, _, _, rfl, .refl, by simpa using gsF_nil⟩ ?_
    rintro i e ρ hi ⟨_, v9, v10, v11, v12, rfl, hoρ, hG⟩
    rw [← ap_nil (σ := ρ)]
    have m0 := (hoρ.2 _ z0).trans q0
    have m1 := (hoρ.2 _ z1).trans q1
    have y0 := (Array.getElem?_eq_some_iff.1 m0).1
    by_cases hlt : i < B.L.length
    · have dl : decide ((i:Int) < (B.L.length : Int)) = true := by simpa using hlt
      have hx : (B.L.map tenV)[i]? = some (tenV B.L[i]) := by simp [hlt]
      obtain ⟨b, off, rfl, h1⟩ := hr.at hx
      have g3 : ∀ L, rdN (ap ρ L) ⟨b, off + i * 7, none⟩ 7 = some (tenV B.L[i]) := fun L => rdN_Old ((ho.trans hoρ).trans .ap) h1
      have hb : (0:Int) ≤ (i:Int) ∧ (i:Int) < (B.L.length : Int) := by omega
      have hw : IntKind.wrap .i64 ((i:Int) + 1) = ((i + 1 : Nat) : Int) := by rw [wrap64 (by omega) (by omega)]; omega
      have hlk : ∀ L, lookupV (.int .i64) (.agg #[.int .i64 0, .int .i64 0, .int .i64 0]) false (.map (some (σ.size + 1))) (.int .i64 B.L[i].m) (ap ρ L) = some (.agg #[.int .i64 (((l.find? fun p => decide (p.m = B.L[i].m)).map fun p => p.m).getD 0), .int .i64 (findP l B.L[i].m).st, .int .i64 (findP l B.L[i].m).pg]) := fun L => by
        rw [map_get hm ((ap_old (Array.getElem?_eq_some_iff.1 m1).1).trans m1), want_all]
      have tk : B.L.take (i + 1) = B.L.take i ++ [B.L[i]] := List.take_succ_eq_append_getElem hlt
      generalize ((l.find? fun p => decide (p.m = B.L[i].m)).map fun p => p.m).getD 0 = dm at hlk
      obtain ⟨b9, c9, b10, c10, b11, c11, b12, c12, τ1, τ2, τ3, τ4, a1, a2, a3, a4, ⟨x0, x1⟩, ⟨x2, x3⟩, ⟨x4, x5⟩, G4, o4⟩ := gs_four (x := B.L[i]) hG (by simp; omega)
        (.cells 1 [.int .i64 B.L[i].m, .int .i64 B.L[i].st.r, .int .i64 B.L[i].st.l, .int .i64 B.L[i].st.s, .int .i64 B.L[i].pg.r, .int .i64 B.L[i].pg.l, .int .i64 B.L[i].pg.s] (0, 0)) (.cells 1 [.int .i64 dm, .int .i64 (findP l B.L[i].m).st, .int .i64 (findP l B.L[i].m).pg] (0, 0))
      have d1 : rd1 τ1 ⟨ρ.size + 1, 1, none⟩ = some (.int .i64 (findP l B.L[i].m).st) := by rw [rd1_eq, x1]; rfl
      have d2 : rdN τ2 ⟨ρ.size, 4, none⟩ 3 = some (ctrV B.L[i].pg) := by rw [rdN_eq, if_neg (by omega), x2]; rfl
      have d2' : rd1 τ2 ⟨ρ.size + 1, 2, none⟩ = some (.int .i64 (findP l B.L[i].m).pg) := by rw [rd1_eq, x3]; rfl
      have d2'' : ∀ L, rd1 (ap τ2 L) ⟨ρ.size + 1, 2, none⟩ = some (.int .i64 (findP l B.L[i].m).pg) := fun L => rd1_old d2'
      have d3 : rd1 τ3 ⟨ρ.size + 1, 2, none⟩ = some (.int .i64 (findP l B.L[i].m).pg) := by rw [rd1_eq, x5]; rfl
      have hp1 : ∀ k, τ1.push k = ap τ1 [k] := fun k => by simp [ap]
      have hp2 : ∀ k, τ2.push k = ap τ2 [k] := fun k => by simp [ap]
      have hp3 : ∀ k, τ3.push k = ap τ3 [k] := fun k => by simp [ap]
      simp only [↓eD0, ↓eD1, eC0, eC1, eC2, eC3, eC4, eC5, eC6, wantedE, ↓reduceIte, Nat.reduceEqDiff, Option.map_some, Option.map_none, reread, List.nil_append, List.cons_append, List.map_cons, List.map_nil, List.length_nil, List.length_cons, Value.cells, List.getElem?_cons_zero, List.getElem?_cons_succ, outE, lks, lkR, rdV, neg1, evs, opt, Nat.reduceAdd, Nat.reduceMul, and_self, reduceCtorEq, List.size_toArray, List.all_cons, List.all_nil, Value.oneCell', List.set_cons_zero, List.set_cons_succ, sets, fillL, Nat.reduceLeDiff, List.drop_succ_cons, List.drop_zero, List.take_succ_cons, List.take_zero, List.toList_toArray, argsE, Array.append_empty, Array.empty_append, List.getElem?_toArray, Int.reduceLT, Int.reduceLE, Int.reduceToNat, Int.reduceEq, Nat.reduceLT, dl, hb, Int.toNat_natCast, g3, tenV, rep7, hlk]
      refine onV_of a1 ?_
      simp only [↓eD0, ↓eD1, eC0, eC1, eC2, eC3, eC4, eC5, eC6, wantedE, ↓reduceIte, Nat.reduceEqDiff, Option.map_some, Option.map_none, reread, List.nil_append, List.cons_append, List.map_cons, List.map_nil, List.length_nil, List.length_cons, Value.cells, List.getElem?_cons_zero, List.getElem?_cons_succ, outE, lks, lkR, rdV, neg1, evs, opt, Nat.reduceAdd, Nat.reduceMul, and_self, reduceCtorEq, List.size_toArray, List.all_cons, List.all_nil, Value.oneCell', List.set_cons_zero, List.set_cons_succ, sets, fillL, Nat.reduceLeDiff, List.drop_succ_cons, List.drop_zero, List.take_succ_cons, List.take_zero, List.toList_toArray, argsE, Array.append_empty, Array.empty_append, List.getElem?_toArray, Int.reduceLT, Int.reduceLE, Int.reduceToNat, Int.reduceEq, Nat.reduceLT, d1]
      refine appK_of eclip_app ?_
      rintro _ _ ⟨e2, rfl⟩
      rw [e2]
      clear e2
      simp only [↓eD0, ↓eD1, eC0, eC1, eC2, eC3, eC4, eC5, eC6, wantedE, ↓reduceIte, Nat.reduceEqDiff, Option.map_some, Option.map_none, reread, List.nil_append, List.cons_append, List.map_cons, List.map_nil, List.length_nil, List.length_cons, Value.cells, List.getElem?_cons_zero, List.getElem?_cons_succ, outE, lks, lkR, rdV, neg1, evs, opt, Nat.reduceAdd, Nat.reduceMul, and_self, reduceCtorEq, List.size_toArray, List.all_cons, List.all_nil, Value.oneCell', List.set_cons_zero, List.set_cons_succ, sets, fillL, Nat.reduceLeDiff, List.drop_succ_cons, List.drop_zero, List.take_succ_cons, List.take_zero, List.toList_toArray, argsE, Array.append_empty, Array.empty_append, List.getElem?_toArray, Int.reduceLT, Int.reduceLE, Int.reduceToNat, Int.reduceEq, Nat.reduceLT, hp1]
      refine onV_of a2 ?_
      simp only [↓eD0, ↓eD1, eC0, eC1, eC2, eC3, eC4, eC5, eC6, wantedE, ↓reduceIte, Nat.reduceEqDiff, Option.map_some, Option.map_none, reread, List.nil_append, List.cons_append, List.map_cons, List.map_nil, List.length_nil, List.length_cons, Value.cells, List.getElem?_cons_zero, List.getElem?_cons_succ, outE, lks, lkR, rdV, neg1, evs, opt, Nat.reduceAdd, Nat.reduceMul, and_self, reduceCtorEq, List.size_toArray, List.all_cons, List.all_nil, Value.oneCell', List.set_cons_zero, List.set_cons_succ, sets, fillL, Nat.reduceLeDiff, List.drop_succ_cons, List.drop_zero, List.take_succ_cons, List.take_zero, List.toList_toArray, argsE, Array.append_empty, Array.empty_append, List.getElem?_toArray, Int.reduceLT, Int.reduceLE, Int.reduceToNat, Int.reduceEq, Nat.reduceLT, d2, d2', d2'', ctrV, hp2]
      refine onV_of a3 ?_
      simp only [↓eD0, ↓eD1, eC0, eC1, eC2, eC3, eC4, eC5, eC6, wantedE, ↓reduceIte, Nat.reduceEqDiff, Option.map_some, Option.map_none, reread, List.nil_append, List.cons_append, List.map_cons, List.map_nil, List.length_nil, List.length_cons, Value.cells, List.getElem?_cons_zero, List.getElem?_cons_succ, outE, lks, lkR, rdV, neg1, evs, opt, Nat.reduceAdd, Nat.reduceMul, and_self, reduceCtorEq, List.size_toArray, List.all_cons, List.all_nil, Value.oneCell', List.set_cons_zero, List.set_cons_succ, sets, fillL, Nat.reduceLeDiff, List.drop_succ_cons, List.drop_zero, List.take_succ_cons, List.take_zero, List.toList_toArray, argsE, Array.append_empty, Array.empty_append, List.getElem?_toArray, Int.reduceLT, Int.reduceLE, Int.reduceToNat, Int.reduceEq, Nat.reduceLT, d3]
      refine appK_of eclip_app ?_
      rintro _ _ ⟨e2, rfl⟩
      rw [e2]
      clear e2
      simp only [↓eD0, ↓eD1, eC0, eC1, eC2, eC3, eC4, eC5, eC6, wantedE, ↓reduceIte, Nat.reduceEqDiff, Option.map_some, Option.map_none, reread, List.nil_append, List.cons_append, List.map_cons, List.map_nil, List.length_nil, List.length_cons, Value.cells, List.getElem?_cons_zero, List.getElem?_cons_succ, outE, lks, lkR, rdV, neg1, evs, opt, Nat.reduceAdd, Nat.reduceMul, and_self, reduceCtorEq, List.size_toArray, List.all_cons, List.all_nil, Value.oneCell', List.set_cons_zero, List.set_cons_succ, sets, fillL, Nat.reduceLeDiff, List.drop_succ_cons, List.drop_zero, List.take_succ_cons, List.take_zero, List.toList_toArray, argsE, Array.append_empty, Array.empty_append, List.getElem?_toArray, Int.reduceLT, Int.reduceLE, Int.reduceToNat, Int.reduceEq, Nat.reduceLT, hp3]
      refine onV_of a4 ?_
      simp only [↓eD0, ↓eD1, eC0, eC1, eC2, eC3, eC4, eC5, eC6, wantedE, ↓reduceIte, Nat.reduceEqDiff, Option.map_some, Option.map_none, reread, List.nil_append, List.cons_append, List.map_cons, List.map_nil, List.length_nil, List.length_cons, Value.cells, List.getElem?_cons_zero, List.getElem?_cons_succ, outE, lks, lkR, rdV, neg1, evs, opt, Nat.reduceAdd, Nat.reduceMul, and_self, reduceCtorEq, List.size_toArray, List.all_cons, List.all_nil, Value.oneCell', List.set_cons_zero, List.set_cons_succ, sets, fillL, Nat.reduceLeDiff, List.drop_succ_cons, List.drop_zero, List.take_succ_cons, List.take_zero, List.toList_toArray, argsE, Array.append_empty, Array.empty_append, List.getElem?_toArray, Int.reduceLT, Int.reduceLE, Int.reduceToNat, Int.reduceEq, Nat.reduceLT, hw]
      rw [tk]
      exact ⟨hlt, by omega, _, _, _, _, rfl, (o4 τ (Nat.le_refl _) hoρ).2.2.2, G4⟩
    · have : i = B.L.length := by omega
      subst this
      have dl : decide ((B.L.length:Int) < (B.L.length : Int)) = false := by simp
      rw [List.take_length] at hG
      obtain ⟨R1, R2, R3, R4⟩ := gsF_rows hG
      have s0 : ∀ L, rd1 (ap ρ L) ⟨σ.size, 0, none⟩ = some (.int .i64 B.st) := fun L => by rw [rd1_eq, ap_old y0, m0]; rfl
      have s1 : ∀ L, rd1 (ap ρ L) ⟨σ.size, 1, none⟩ = some (.int .i64 B.pg) := fun L => by rw [rd1_eq, ap_old y0, m0]; rfl
      simp only [↓eD0, ↓eD1, eC0, eC1, eC2, eC3, eC4, eC5, eC6, wantedE, ↓reduceIte, Nat.reduceEqDiff, Option.map_some, Option.map_none, reread, List.nil_append, List.cons_append, List.map_cons, List.map_nil, List.length_nil, List.length_cons, Value.cells, List.getElem?_cons_zero, List.getElem?_cons_succ, outE, lks, lkR, rdV, neg1, evs, opt, Nat.reduceAdd, Nat.reduceMul, and_self, reduceCtorEq, List.size_toArray, List.all_cons, List.all_nil, Value.oneCell', List.set_cons_zero, List.set_cons_succ, sets, fillL, Nat.reduceLeDiff, List.drop_succ_cons, List.drop_zero, List.take_succ_cons, List.take_zero, List.toList_toArray, argsE, Array.append_empty, Array.empty_append, List.getElem?_toArray, Int.reduceLT, Int.reduceLE, Int.reduceToNat, Int.reduceEq, Nat.reduceLT, dl, s0, s1]
      refine appK_of (fill_app (l := B.L.map ctSt) (ds := B.L.map (stD l)) (cap := B.st) (R1.Old .ap) (R3.Old .ap) (filled_st hV)) ?_
      rintro xv ρ1 ⟨ho1, hX⟩
      rw [ap_nil] at ho1
      have n0 := (ho1.2 _ y0).trans m0
      have y1 := (Array.getElem?_eq_some_iff.1 n0).1
      have s1 : rd1 ρ1 ⟨σ.size, 1, none⟩ = some (.int .i64 B.pg) := by rw [rd1_eq, n0]; rfl
      simp only [↓eD0, ↓eD1, eC0, eC1, eC2, eC3, eC4, eC5, eC6, wantedE, ↓reduceIte, Nat.reduceEqDiff, Option.map_some, Option.map_none, reread, List.nil_append, List.cons_append, List.map_cons, List.map_nil, List.length_nil, List.length_cons, Value.cells, List.getElem?_cons_zero, List.getElem?_cons_succ, outE, lks, lkR, rdV, neg1, evs, opt, Nat.reduceAdd, Nat.reduceMul, and_self, reduceCtorEq, List.size_toArray, List.all_cons, List.all_nil, Value.oneCell', List.set_cons_zero, List.set_cons_succ, sets, fillL, Nat.reduceLeDiff, List.drop_succ_cons, List.drop_zero, List.take_succ_cons, List.take_zero, List.toList_toArray, argsE, Array.append_empty, Array.empty_append, List.getElem?_toArray, Int.reduceLT, Int.reduceLE, Int.reduceToNat, Int.reduceEq, Nat.reduceLT, s1]
      refine appK_of (fill_app (l := B.L.map ctPg) (ds := B.L.map (pgD l)) (cap := B.pg) (R2.Old ho1) (R4.Old ho1) (filled_pg hV)) ?_
      rintro yv ρ2 ⟨ho2, hY⟩
      have n1 := (ho2.2 _ y1).trans n0
      have y2 := (Array.getElem?_eq_some_iff.1 n1).1
      have hX : Row ρ2 1 xv ((epX B l).map intV) := hX.Old ho2
      have hY : Row ρ2 1 yv ((epY B l).map intV) := hY
      have hxl := epX_len (B := B) (l := l)
      have hyl := epY_len (B := B) (l := l)
      have hel := epF_len (B := B) (l := l)
      obtain ⟨xb, xc, rfl⟩ := hX.slice
      obtain ⟨yb, yc, rfl⟩ := hY.slice
      simp only [List.length_map] at hX hY ⊢
      have s2 : ∀ L, rd1 (ap ρ2 L) ⟨σ.size, 2, none⟩ = some (.slice base B.L.length cap) := fun L => by rw [rd1_eq, ap_old y2, n1]; rfl
      have oσ : Old σ ρ2 := ((ho.trans hoρ).trans ho1).trans ho2
      rw [← ap_nil (σ := ρ2)]
      simp only [↓eD0, ↓eD1, eC0, eC1, eC2, eC3, eC4, eC5, eC6, wantedE, ↓reduceIte, Nat.reduceEqDiff, Option.map_some, Option.map_none, reread, List.nil_append, List.cons_append, List.map_cons, List.map_nil, List.length_nil, List.length_cons, Value.cells, List.getElem?_cons_zero, List.getElem?_cons_succ, outE, lks, lkR, rdV, neg1, evs, opt, Nat.reduceAdd, Nat.reduceMul, and_self, reduceCtorEq, List.size_toArray, List.all_cons, List.all_nil, Value.oneCell', List.set_cons_zero, List.set_cons_succ, sets, fillL, Nat.reduceLeDiff, List.drop_succ_cons, List.drop_zero, List.take_succ_cons, List.take_zero, List.toList_toArray, argsE, Array.append_empty, Array.empty_append, List.getElem?_toArray, Int.reduceLT, Int.reduceLE, Int.reduceToNat, Int.reduceEq, Nat.reduceLT, s2]
      refine loop_for (J := fun i e θ => i ≤ B.L.length ∧ ∃ v, e = [(16, .slice xb (epX B l).length xc), (17, .slice yb (epY B l).length yc), (18, v), (87, .slice base B.L.length cap), (88, .int .i64 B.L.length), (89, .int .i64 i)] ∧ Old ρ2 θ ∧ Grown ρ2 θ 3 v (((epF B l).take i).map porV).flatten ((epF B l).take i).length) B.L.length
        ⟨by omega, _, rfl, .ap, Grown.nil⟩ ?_
      rintro i e θ hi ⟨_, v, rfl, hoθ, hg⟩
      rw [← ap_nil (σ := θ)]
      by_cases hlt : i < B.L.length
      · have dl : decide ((i:Int) < (B.L.length : Int)) = true := by simpa using hlt
        have hx : (B.L.map tenV)[i]? = some (tenV B.L[i]) := by simp [hlt]
        have hx1 : ((epX B l).map intV)[i]? = some (intV (epX B l)[i]) := by simp [hxl, hlt]
        have hx2 : ((epY B l).map intV)[i]? = some (intV (epY B l)[i]) := by simp [hyl, hlt]
        obtain ⟨b, off, rfl, h1⟩ := hr.at hx
        obtain ⟨b1, off1, rfl, h2⟩ := hX.at hx1
        obtain ⟨b2, off2, rfl, h3⟩ := hY.at hx2
        have g3 : ∀ L, rdN (ap θ L) ⟨b, off + i * 7, none⟩ 7 = some (tenV B.L[i]) := fun L => rdN_Old ((oσ.trans hoθ).trans .ap) h1
        have g4 : ∀ L, rd1 (ap θ L) ⟨b1, off1 + i, none⟩ = some (.int .i64 (epX B l)[i]) := fun L => rd1_Old (hoθ.trans .ap) (by simpa using rd1_row h2 (j := 0) rfl)
        have g5 : ∀ L, rd1 (ap θ L) ⟨b2, off2 + i, none⟩ = some (.int .i64 (epY B l)[i]) := fun L => rd1_Old (hoθ.trans .ap) (by simpa using rd1_row h3 (j := 0) rfl)
        have hb : (0:Int) ≤ (i:Int) ∧ (i:Int) < (B.L.length : Int) := by omega
        have hb1 : (0:Int) ≤ (i:Int) ∧ (i:Int) < ((epX B l).length : Int) := by omega
        have hb2 : (0:Int) ≤ (i:Int) ∧ (i:Int) < ((epY B l).length : Int) := by omega
        have hw : IntKind.wrap .i64 ((i:Int) + 1) = ((i + 1 : Nat) : Int) := by rw [wrap64 (by omega) (by omega)]; omega
        have hget := epF_get (B := B) (l := l) hlt (by omega) (by omega) (by omega)
        have tk : (epF B l).take (i + 1) = (epF B l).take i ++ [⟨B.L[i].m, (epX B l)[i], (epY B l)[i]⟩] := by rw [List.take_succ_eq_append_getElem (by omega), hget]
        obtain ⟨v', τ', ha1, hA⟩ := append_grown (σ := ap θ [.cells 1 [.int .i64 B.L[i].m, .int .i64 B.L[i].st.r, .int .i64 B.L[i].st.l, .int .i64 B.L[i].st.s, .int .i64 B.L[i].pg.r, .int .i64 B.L[i].pg.l, .int .i64 B.L[i].pg.s] (0, 0), .cells 0 (porV ⟨B.L[i].m, (epX B l)[i], (epY B l)[i]⟩) (0, 0)]) (xa := .slice (some ⟨θ.size + 1, 0, none⟩) 1 1) (bytes := 24) (m := 1) (new := porV ⟨B.L[i].m, (epX B l)[i], (epY B l)[i]⟩) (hg.old .ap) (by omega) (Nat.le_trans hoθ.1 (Old.ap (l := _)).1) (by
          show (rdN (ap θ _) ⟨θ.size + 1, 0, none⟩ 3).map (1, ·) = _
          rw [rdN_ap]; rfl) rfl rfl (by simp only [List.length_take]; omega) (by omega)
        simp only [↓eD0, ↓eD1, eC0, eC1, eC2, eC3, eC4, eC5, eC6, wantedE, ↓reduceIte, Nat.reduceEqDiff, Option.map_some, Option.map_none, reread, List.nil_append, List.cons_append, List.map_cons, List.map_nil, List.length_nil, List.length_cons, Value.cells, List.getElem?_cons_zero, List.getElem?_cons_succ, outE, lks, lkR, rdV, neg1, evs, opt, Nat.reduceAdd, Nat.reduceMul, and_self, reduceCtorEq, List.size_toArray, List.all_cons, List.all_nil, Value.oneCell', List.set_cons_zero, List.set_cons_succ, sets, fillL, Nat.reduceLeDiff, List.drop_succ_cons, List.drop_zero, List.take_succ_cons, List.take_zero, List.toList_toArray, argsE, Array.append_empty, Array.empty_append, List.getElem?_toArray, Int.reduceLT, Int.reduceLE, Int.reduceToNat, Int.reduceEq, Nat.reduceLT, dl, hb, hb1, hb2, Int.toNat_natCast, g3, g4, g5, tenV, rep7]
        refine onV_of ha1 ?_
        simp only [↓eD0, ↓eD1, eC0, eC1, eC2, eC3, eC4, eC5, eC6, wantedE, ↓reduceIte, Nat.reduceEqDiff, Option.map_some, Option.map_none, reread, List.nil_append, List.cons_append, List.map_cons, List.map_nil, List.length_nil, List.length_cons, Value.cells, List.getElem?_cons_zero, List.getElem?_cons_succ, outE, lks, lkR, rdV, neg1, evs, opt, Nat.reduceAdd, Nat.reduceMul, and_self, reduceCtorEq, List.size_toArray, List.all_cons, List.all_nil, Value.oneCell', List.set_cons_zero, List.set_cons_succ, sets, fillL, Nat.reduceLeDiff, List.drop_succ_cons, List.drop_zero, List.take_succ_cons, List.take_zero, List.toList_toArray, argsE, Array.append_empty, Array.empty_append, List.getElem?_toArray, Int.reduceLT, Int.reduceLE, Int.reduceToNat, Int.reduceEq, Nat.reduceLT, hw]
        refine ⟨hlt, by omega, v', rfl, hA.Old (hg.old .ap) (hoθ.trans .ap), ?_⟩
        rw [tk]
        simpa using hA.grown
      · have : i = B.L.length := by omega
        subst this
        have dl : decide ((B.L.length:Int) < (B.L.length : Int)) = false := by simp
        rw [List.take_of_length_le (by omega)] at hg
        simp only [↓eD0, ↓eD1, eC0, eC1, eC2, eC3, eC4, eC5, eC6, wantedE, ↓reduceIte, Nat.reduceEqDiff, Option.map_some, Option.map_none, reread, List.nil_append, List.cons_append, List.map_cons, List.map_nil, List.length_nil, List.length_cons, Value.cells, List.getElem?_cons_zero, List.getElem?_cons_succ, outE, lks, lkR, rdV, neg1, evs, opt, Nat.reduceAdd, Nat.reduceMul, and_self, reduceCtorEq, List.size_toArray, List.all_cons, List.all_nil, Value.oneCell', List.set_cons_zero, List.set_cons_succ, sets, fillL, Nat.reduceLeDiff, List.drop_succ_cons, List.drop_zero, List.take_succ_cons, List.take_zero, List.toList_toArray, argsE, Array.append_empty, Array.empty_append, List.getElem?_toArray, Int.reduceLT, Int.reduceLE, Int.reduceToNat, Int.reduceEq, Nat.reduceLT, dl]
        exact ⟨(oσ.trans hoθ).trans .ap, Grown.Row (by simpa using hg.old (Old.ap (l := []))) porV_rows⟩
end Go.Proofs.Ytimcgoghjebalaa
