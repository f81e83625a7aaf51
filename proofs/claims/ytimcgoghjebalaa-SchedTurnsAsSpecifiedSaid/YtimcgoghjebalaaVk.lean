/- Walks and plain laws. Conditions: none. -/
import Derived.Test.YtimcgoghjebalaaVj
set_option linter.all false
set_option linter.unusedSimpArgs false
set_option linter.unusedVariables false
set_option maxRecDepth 10000
set_option maxHeartbeats 1000000
namespace Go.Proofs.Ytimcgoghjebalaa
open Go Go.Cn Go.RowKit

theorem good_of {L : List Ten} (hs : Srt L) (h : ∀ t ∈ L, 0 < t.m ∧ t.st.Ok ∧ t.pg.Ok) : ∀ j, j < L.length → goodT L j = true := by
  intro j hj
  obtain ⟨h1, h2, h3⟩ := h L[j] (by simp)
  rw [goodT_get hj, decide_eq_true h2, decide_eq_true h3, Bool.and_true, Bool.and_true, decide_eq_true_eq]
  cases j with
  | zero => exact h1
  | succ j =>
    rw [prevM_succ (by omega)]
    exact List.pairwise_iff_getElem.1 hs j (j + 1) (by omega) hj (by omega)
theorem all_of_good {L : List Ten} (h : ∀ j, j < L.length → goodT L j = true) : ∀ t ∈ L, 0 < t.m ∧ t.st.Ok ∧ t.pg.Ok := by
  have hs := srt_of_good h
  intro t ht
  obtain ⟨j, hj, rfl⟩ := List.getElem_of_mem ht
  have hg := h j hj
  rw [goodT_get hj] at hg
  simp only [Bool.and_eq_true, decide_eq_true_eq] at hg
  refine ⟨?_, hg.2.1, hg.2.2⟩
  have h0 := h 0 (by omega)
  rw [goodT_get (by omega)] at h0
  simp only [Bool.and_eq_true, decide_eq_true_eq] at h0
  have h01 : (0:Int) < L[0].m := h0.1
  cases j with
  | zero => exact h01
  | succ j =>
    have := List.pairwise_iff_getElem.1 hs 0 (j + 1) (by omega) hj (by omega)
    omega
structure ValidB (B : Bud) : Prop where
  st : Amt B.st
  pg : Amt B.pg
  few : B.L.length ≤ 32
  srt : Srt B.L
  all : ∀ t ∈ B.L, 0 < t.m ∧ t.st.Ok ∧ t.pg.Ok
  s1 : sumT stR B.L ≤ B.st
  s2 : sumT pgR B.L ≤ B.pg
theorem valid_iff {B : Bud} : validF B = true ↔ ValidB B := by
  constructor
  · intro h
    have hg := (good_of_valid h).1
    simp only [validF, Bool.and_eq_true, decide_eq_true_eq] at h
    exact ⟨h.1, h.2.1, h.2.2.1, srt_of_good hg, all_of_good hg, h.2.2.2.2.1, h.2.2.2.2.2⟩
  · intro h
    simp [validF, h.st, h.pg, h.few, h.s1, h.s2, all_good (good_of h.srt h.all)]
theorem ten_bounds {t : Ten} (h : t.st.Ok ∧ t.pg.Ok) : (0 ≤ stR t ∧ stR t ≤ 1073741824) ∧ (0 ≤ pgR t ∧ pgR t ≤ 1073741824) := by
  obtain ⟨⟨a, b, c, _⟩, d, e, f, _⟩ := h
  unfold stR pgR
  omega
theorem sum_cut {f : Ten → Int} {L : List Ten} {p : Nat} (h : p < L.length) : sumT f (L.take p ++ L.drop (p + 1)) + f L[p] = sumT f L := by
  have e : L = L.take p ++ L[p] :: L.drop (p + 1) := by
    rw [← List.drop_eq_getElem_cons h, List.take_append_drop]
  conv => rhs; rw [e]
  rw [sumT_app, sumT_app, sumT]
  omega
theorem valid_cut {B : Bud} {m : Int} (h : ValidB B) (hi : isF B.L m = true) : ValidB (cutT B m) := by
  have hp := isF_lt hi
  have hsub : (cutT B m).L.Sublist B.L := by
    have : (B.L.take (placeF B.L m) ++ B.L.drop (placeF B.L m + 1)).Sublist (B.L.take (placeF B.L m) ++ B.L.drop (placeF B.L m)) :=
      List.Sublist.append (List.Sublist.refl _) (by rw [List.drop_eq_getElem_cons hp]; exact List.sublist_cons_self _ _)
    rwa [List.take_append_drop] at this
  have ha := h.all _ (List.getElem_mem hp)
  have hb := ten_bounds ha.2
  have e1 := sum_cut (f := stR) hp
  have e2 := sum_cut (f := pgR) hp
  have := h.s1
  have := h.s2
  refine ⟨h.st, h.pg, Nat.le_trans hsub.length_le h.few, h.srt.sublist hsub, fun t ht => h.all t (hsub.subset ht), ?_, ?_⟩
  · show sumT stR (B.L.take (placeF B.L m) ++ B.L.drop (placeF B.L m + 1)) ≤ B.st
    omega
  · show sumT pgR (B.L.take (placeF B.L m) ++ B.L.drop (placeF B.L m + 1)) ≤ B.pg
    omega

/-- A result: the argument itself, or new. -/
def Fresh (n : Nat) (l' : List Value) : Prop := ∀ c v, l'[2]? = some v → baseOf v = some c → n ≤ c
theorem IsB.at2 {σ : H} {l : List Value} {B : Bud} (h : IsB σ l B) : ∃ v, l[2]? = some v := by obtain ⟨a, c, rfl, _⟩ := h; exact ⟨_, rfl⟩
theorem isB_set {τ : H} {l : List Value} {B : Bud} {b : Nat} {k : Blk} (h : IsB τ l B) (hf : ∀ c v, l[2]? = some v → baseOf v = some c → c ≠ b) : IsB (τ.setIfInBounds b k) l B := by
  obtain ⟨base, cap, rfl, ⟨base', cap', h1, h2⟩, hc⟩ := h
  refine ⟨base, cap, rfl, ⟨base', cap', h1, fun i x hx => ?_⟩, hc⟩
  obtain ⟨b', off, h3, h4⟩ := h2 i x hx
  refine ⟨b', off, h3, ?_⟩
  rw [rdN_set_ne]
  · exact h4
  · intro hb
    injection h1 with h1
    exact hf b' _ rfl (by rw [h1, h3]; rfl) hb.symm

theorem leave_app {σ : H} {l : List Value} {B : Bud} {m : Int} (h : IsB σ l B) (hs : Srt B.L) (hn : B.L.length ≤ 1000) :
    App Try.prog (.func 23) #[] #[.agg l.toArray, .int .i64 m] σ fun v σ' => Old σ σ' ∧ ∃ l', v = .tuple #[.agg l'.toArray, .int .i64 (leaveF B m).2] ∧ IsB σ' l' (leaveF B m).1 ∧ ((l' = l ∧ (leaveF B m).1 = B) ∨ Fresh σ.size l') := by
  refine App.of_sem mixed Try.func23 t23 k23 r23 (Nat.le_of_ble_eq_true rfl) ?_
  have hB := h
  obtain ⟨base, cap, rfl, hr, hcap⟩ := h
  rw [← ap_nil (σ := σ)]
  unfold s23
  simp only [↓eD0, ↓eD1, eC0, eC1, eC2, eC3, eC4, eC5, eC6, wantedE, ↓reduceIte, Nat.reduceEqDiff, Option.map_some, Option.map_none, reread, List.nil_append, List.cons_append, List.map_cons, List.map_nil, List.length_nil, List.length_cons, Value.cells, List.getElem?_cons_zero, List.getElem?_cons_succ, outE, lks, lkR, rdV, neg1, evs, opt, Nat.reduceAdd, Nat.reduceMul, and_self, reduceCtorEq, List.size_toArray, List.all_cons, List.all_nil, Value.oneCell', List.set_cons_zero, List.set_cons_succ, sets, fillL, Nat.reduceLeDiff, List.drop_succ_cons, List.drop_zero, List.take_succ_cons, List.take_zero, List.toList_toArray, argsE, Array.append_empty, Array.empty_append, List.getElem?_toArray, Int.reduceLT, Int.reduceLE, Int.reduceToNat, Int.reduceEq, Nat.reduceLT, budV]
  refine appK_of (find_app (m := m) (hB.Old .ap) hs (by omega)) ?_
  rintro _ _ ⟨e2, rfl⟩
  rw [e2]
  clear e2
  cases hi : isF B.L m
  · simp only [↓eD0, ↓eD1, eC0, eC1, eC2, eC3, eC4, eC5, eC6, wantedE, ↓reduceIte, Nat.reduceEqDiff, Option.map_some, Option.map_none, reread, List.nil_append, List.cons_append, List.map_cons, List.map_nil, List.length_nil, List.length_cons, Value.cells, List.getElem?_cons_zero, List.getElem?_cons_succ, outE, lks, lkR, rdV, neg1, evs, opt, Nat.reduceAdd, Nat.reduceMul, and_self, reduceCtorEq, List.size_toArray, List.all_cons, List.all_nil, Value.oneCell', List.set_cons_zero, List.set_cons_succ, sets, fillL, Nat.reduceLeDiff, List.drop_succ_cons, List.drop_zero, List.take_succ_cons, List.take_zero, List.toList_toArray, argsE, Array.append_empty, Array.empty_append, List.getElem?_toArray, Int.reduceLT, Int.reduceLE, Int.reduceToNat, Int.reduceEq, Nat.reduceLT, undef_eq]
    have : leaveF B m = (B, 5) := by unfold leaveF; rw [if_neg (by simp [hi])]
    rw [this]
    exact ⟨.ap, _, rfl, hB.Old .ap, .inl ⟨rfl, rfl⟩⟩
  have hp := isF_lt hi
  have hadm : leaveF B m = (cutT B m, 0) := by unfold leaveF; rw [if_pos hi]
  rw [hadm]
  generalize hpl : placeF B.L m = p at hp ⊢
  have wp : IntKind.wrap .i64 ((p:Int) + 1) = ((p + 1 : Nat) : Int) := by rw [wrap64 (by omega) (by omega)]; omega
  obtain ⟨v39, hv39, rv39, _⟩ := Row.pre hr hcap (i := p) (by omega)
  obtain ⟨v47, hv47, rv47, _⟩ := row_suf hr hcap (i := p + 1) (by omega)
  simp only [↓eD0, ↓eD1, eC0, eC1, eC2, eC3, eC4, eC5, eC6, wantedE, ↓reduceIte, Nat.reduceEqDiff, Option.map_some, Option.map_none, reread, List.nil_append, List.cons_append, List.map_cons, List.map_nil, List.length_nil, List.length_cons, Value.cells, List.getElem?_cons_zero, List.getElem?_cons_succ, outE, lks, lkR, rdV, neg1, evs, opt, Nat.reduceAdd, Nat.reduceMul, and_self, reduceCtorEq, List.size_toArray, List.all_cons, List.all_nil, Value.oneCell', List.set_cons_zero, List.set_cons_succ, sets, fillL, Nat.reduceLeDiff, List.drop_succ_cons, List.drop_zero, List.take_succ_cons, List.take_zero, List.toList_toArray, argsE, Array.append_empty, Array.empty_append, List.getElem?_toArray, Int.reduceLT, Int.reduceLE, Int.reduceToNat, Int.reduceEq, Nat.reduceLT, wp, hv39, hv47]
  generalize hT : ap σ [.cells 0 [.int .i64 B.st, .int .i64 B.pg, .slice base B.L.length cap] (0, 0), .cells 0 [.int .i64 0, .int .i64 0, .slice none 0 0] (0, 0), .cells 1 [.int .i64 B.st, .int .i64 B.pg, .slice base B.L.length cap] (0, 0), .cells 0 [] (0, 0)] = T
  have hT0s : (sized (σ.size + 3)).size = σ.size + 3 := sized_size
  have hsz : T.size = σ.size + 4 := by rw [← hT, ap_size]; rfl
  have hoT : Old σ T := hT ▸ .ap
  have q0 : T[σ.size]? = some (.cells 0 [.int .i64 B.st, .int .i64 B.pg, .slice base B.L.length cap] (0, 0)) := by rw [← hT]; exact ap_new0
  have q2 : T[σ.size + 1]? = some (.cells 0 [.int .i64 0, .int .i64 0, .slice none 0 0] (0, 0)) := by rw [← hT]; exact ap_new
  have q3 : T[σ.size + 2]? = some (.cells 1 [.int .i64 B.st, .int .i64 B.pg, .slice base B.L.length cap] (0, 0)) := by rw [← hT]; exact ap_new
  have q4 : T[σ.size + 3]? = some (.cells 0 [] (0, 0)) := by rw [← hT]; exact ap_new
  have g0 : Grown (sized (σ.size + 3)) T 7 (.slice (some ⟨σ.size + 3, 0, none⟩) 0 0) [] 0 := Grown.lit rfl (by decide) (by rw [hT0s]; omega) q4
  have one7 : ∀ xs : List Ten, ((xs.map tenV).flatten).all Value.oneCell' = true := fun xs => by
    rw [List.all_eq_true]
    intro v hv
    obtain ⟨r, hr, hv⟩ := List.mem_flatten.1 hv
    obtain ⟨c, _, rfl⟩ := List.mem_map.1 hr
    simp only [tenV, List.mem_cons, List.not_mem_nil, or_false] at hv
    rcases hv with rfl | rfl | rfl | rfl | rfl | rfl | rfl <;> rfl
  have l39 : (List.take p (B.L.map tenV)).length = p := by simp; omega
  have l47 : (List.drop (p + 1) (B.L.map tenV)).length = B.L.length - (p + 1) := by simp
  have x39 := row_xcells (rv39.Old hoT)
  rw [l39, ← List.map_take] at x39
  obtain ⟨v40, τ1, ha1, A1⟩ := append_grown (bytes := 56) g0 (by omega) (by rw [hT0s]; omega) x39 (by rw [flatten_length tenV_rows]; simp; omega) (one7 _) (by omega) (by omega)
  refine onV_of ha1 ?_
  have hs1 := A1.size
  have ho1 : Old σ τ1 := A1.Old' g0 (by rw [hT0s]; omega) hoT
  have p0 := A1.low g0 (by rw [hT0s]; omega) q0
  have p2 := A1.low g0 (by rw [hT0s]; omega) q2
  have p3 := A1.low g0 (by rw [hT0s]; omega) q3
  have x47 := row_xcells (rv47.Old ho1)
  rw [l47, ← List.map_drop] at x47
  obtain ⟨v48, τ3, ha3, A3⟩ := append_grown (bytes := 56) A1.grown (by omega) (by rw [hT0s]; omega) x47 (by rw [flatten_length tenV_rows]; simp) (one7 _) (by omega) (by omega)
  have ho3 : Old σ τ3 := A3.Old' A1.grown (by rw [hT0s]; omega) ho1
  have j0 := A3.low A1.grown (by rw [hT0s]; omega) p0
  have j2 := A3.low A1.grown (by rw [hT0s]; omega) p2
  have j3 := A3.low A1.grown (by rw [hT0s]; omega) p3
  have hs3 := A3.size
  have r12 : rd1 τ1 ⟨σ.size, 2, none⟩ = some (.slice base B.L.length cap) := by rw [rd1_eq, p0]; rfl
  obtain ⟨bs, cp, rfl⟩ := A3.grown.slice
  have hX : ([] ++ (List.map tenV (List.take p B.L)).flatten ++ (List.map tenV (List.drop (p + 1) B.L)).flatten) = (((cutT B m).L).map tenV).flatten := by
    simp [cutT, hpl]
  have hXl : 0 + p + (B.L.length - (p + 1)) = (cutT B m).L.length := by simp [cutT, hpl]; omega
  have G3 := A3.grown
  rw [hX, hXl] at G3
  rw [hXl] at ha3
  have w3 : wrN τ3 ⟨σ.size + 2, 2, none⟩ [.slice bs (cutT B m).L.length cp] = some (τ3.setIfInBounds (σ.size + 2) (.cells 2 (budV (cutT B m) bs cp) (0, 0))) := by
    rw [wrN_eq, if_neg (by simp), j3, wrc_cells]; rfl
  have G4 : Grown (sized (σ.size + 3)) (τ3.setIfInBounds (σ.size + 2) (.cells 2 (budV (cutT B m) bs cp) (0, 0))) 7 (.slice bs (cutT B m).L.length cp) ((((cutT B m).L).map tenV).flatten) (cutT B m).L.length := G3.set (by rw [hT0s]; omega)
  have ho4 : Old σ (τ3.setIfInBounds (σ.size + 2) (.cells 2 (budV (cutT B m) bs cp) (0, 0))) := ho3.set (by omega)
  have i2 : (τ3.setIfInBounds (σ.size + 2) (.cells 2 (budV (cutT B m) bs cp) (0, 0)))[σ.size + 1]? = some (.cells 0 [.int .i64 0, .int .i64 0, .slice none 0 0] (0, 0)) := (get_set_ne (by omega)).trans j2
  have i3 : (τ3.setIfInBounds (σ.size + 2) (.cells 2 (budV (cutT B m) bs cp) (0, 0)))[σ.size + 2]? = some (.cells 2 (budV (cutT B m) bs cp) (0, 0)) := get_set j3
  generalize hτ4 : τ3.setIfInBounds (σ.size + 2) (.cells 2 (budV (cutT B m) bs cp) (0, 0)) = τ4 at w3 G4 ho4 i2 i3
  have R4 : ∀ ρ, Grown (sized (σ.size + 3)) ρ 7 (.slice bs (cutT B m).L.length cp) ((((cutT B m).L).map tenV).flatten) (cutT B m).L.length → IsB ρ (budV (cutT B m) bs cp) (cutT B m) := fun ρ g =>
    ⟨bs, cp, rfl, Grown.Row (by simpa using g) tenV_rows, g.cap⟩
  have f3 : rdN τ4 ⟨σ.size + 2, 0, none⟩ 3 = some [.int .i64 (cutT B m).st, .int .i64 (cutT B m).pg, .slice bs (cutT B m).L.length cp] := rdN_all i3 rfl
  have w2 : ∀ a b c d e, wrN τ4 ⟨σ.size + 1, 0, none⟩ [.int .i64 a, .int .i64 b, .slice c d e] = some (τ4.setIfInBounds (σ.size + 1) (.cells 1 [.int .i64 a, .int .i64 b, .slice c d e] (0, 0))) := fun a b c d e => by
    rw [wrN_eq, if_neg (by simp), i2, wrc_cells]; rfl
  have f2 : ∀ k, (τ4.setIfInBounds (σ.size + 1) k)[σ.size + 1]? = some k := fun k => get_set i2
  have fr : ∀ a b c d e, rdN (τ4.setIfInBounds (σ.size + 1) (.cells 1 [.int .i64 a, .int .i64 b, .slice c d e] (0, 0))) ⟨σ.size + 1, 0, none⟩ 3 = some [.int .i64 a, .int .i64 b, .slice c d e] := fun a b c d e => rdN_all (f2 _) rfl
  simp only [↓eD0, ↓eD1, eC0, eC1, eC2, eC3, eC4, eC5, eC6, wantedE, ↓reduceIte, Nat.reduceEqDiff, Option.map_some, Option.map_none, reread, List.nil_append, List.cons_append, List.map_cons, List.map_nil, List.length_nil, List.length_cons, Value.cells, List.getElem?_cons_zero, List.getElem?_cons_succ, outE, lks, lkR, rdV, neg1, evs, opt, Nat.reduceAdd, Nat.reduceMul, and_self, reduceCtorEq, List.size_toArray, List.all_cons, List.all_nil, Value.oneCell', List.set_cons_zero, List.set_cons_succ, sets, fillL, Nat.reduceLeDiff, List.drop_succ_cons, List.drop_zero, List.take_succ_cons, List.take_zero, List.toList_toArray, argsE, Array.append_empty, Array.empty_append, List.getElem?_toArray, Int.reduceLT, Int.reduceLE, Int.reduceToNat, Int.reduceEq, Nat.reduceLT, r12]
  refine onV_of ha3 ?_
  simp only [↓eD0, ↓eD1, eC0, eC1, eC2, eC3, eC4, eC5, eC6, wantedE, ↓reduceIte, Nat.reduceEqDiff, Option.map_some, Option.map_none, reread, List.nil_append, List.cons_append, List.map_cons, List.map_nil, List.length_nil, List.length_cons, Value.cells, List.getElem?_cons_zero, List.getElem?_cons_succ, outE, lks, lkR, rdV, neg1, evs, opt, Nat.reduceAdd, Nat.reduceMul, and_self, reduceCtorEq, List.size_toArray, List.all_cons, List.all_nil, Value.oneCell', List.set_cons_zero, List.set_cons_succ, sets, fillL, Nat.reduceLeDiff, List.drop_succ_cons, List.drop_zero, List.take_succ_cons, List.take_zero, List.toList_toArray, argsE, Array.append_empty, Array.empty_append, List.getElem?_toArray, Int.reduceLT, Int.reduceLE, Int.reduceToNat, Int.reduceEq, Nat.reduceLT, w3, f3, w2, fr]
  refine ⟨ho4.set (by omega), _, rfl, R4 _ (G4.set (by rw [hT0s]; omega)), .inr fun c v hv hb => ?_⟩
  injection hv with hv
  subst hv
  have := (G3.base hb).1
  rw [hT0s] at this
  omega
end Go.Proofs.Ytimcgoghjebalaa

set_option linter.unusedSimpArgs false
set_option linter.unusedVariables false
set_option maxRecDepth 10000
set_option maxHeartbeats 1000000
namespace Go.Proofs.Ytimcgoghjebalaa
open Go Go.Cn Go.RowKit

/-- A tenant is appended to the list of a budget that lies in a block. -/
theorem push_step {n0 kb ver : Nat} {τ : H} {st pg : Int} {v : Value} {O : List Ten} (x : Ten) (hkb : kb < n0) (hsz : n0 ≤ τ.size) (hbox : τ[kb]? = some (.cells ver [.int .i64 st, .int .i64 pg, v] (0, 0)))
    (g : Grown (sized n0) τ 7 v (O.map tenV).flatten O.length) (hO : O.length ≤ 2000) :
    ∃ bs cp τ' τ'', append 7 56 v (.slice (some ⟨τ.size, 0, none⟩) 1 1) (ap τ [.cells 0 (tenV x) (0, 0)]) = some (.slice bs (O ++ [x]).length cp, τ') ∧
      wrN τ' ⟨kb, 2, none⟩ [.slice bs (O ++ [x]).length cp] = some τ'' ∧ τ''[kb]? = some (.cells (ver + 1) [.int .i64 st, .int .i64 pg, .slice bs (O ++ [x]).length cp] (0, 0)) ∧
      Grown (sized n0) τ'' 7 (.slice bs (O ++ [x]).length cp) ((O ++ [x]).map tenV).flatten (O ++ [x]).length ∧ (∀ c k, c < n0 → c ≠ kb → τ[c]? = some k → τ''[c]? = some k) ∧ n0 ≤ τ''.size ∧
      (∀ ρ : H, ρ.size ≤ kb → Old ρ τ → Old ρ τ'') := by
  have hs : (sized n0).size = n0 := sized_size
  have hx : (ap τ [.cells 0 (tenV x) (0, 0)])[τ.size]? = some (.cells 0 (tenV x) (0, 0)) := ap_new0
  obtain ⟨v', τ', ha, hA⟩ := append_grown (bytes := 56) (m := 1) (new := tenV x) (xa := .slice (some ⟨τ.size, 0, none⟩) 1 1) (g.old (Old.ap (l := [.cells 0 (tenV x) (0, 0)]))) (by omega) (by rw [hs, ap_size]; omega) (by show (rdN _ ⟨τ.size, 0, none⟩ 7).map (1, ·) = _; rw [rdN_all (n := 7) hx rfl]; rfl) rfl (by rfl) (by omega) (by omega)
  obtain ⟨bs, cp, rfl⟩ := hA.grown.slice
  have e1 : O.length + 1 = (O ++ [x]).length := by simp
  have e2 : (O.map tenV).flatten ++ tenV x = ((O ++ [x]).map tenV).flatten := by simp
  have G := hA.grown
  rw [e1] at ha
  rw [e1, e2] at G
  have hbox1 : τ'[kb]? = some (.cells ver [.int .i64 st, .int .i64 pg, v] (0, 0)) := hA.low (g.old .ap) (by rw [hs]; exact hkb) ((ap_old (Array.getElem?_eq_some_iff.1 hbox).1).trans hbox)
  refine ⟨bs, cp, τ', τ'.setIfInBounds kb (.cells (ver + 1) [.int .i64 st, .int .i64 pg, .slice bs (O ++ [x]).length cp] (0, 0)), ha, ?_, get_set hbox1, G.set (by rw [hs]; exact hkb), fun c k hc hne hk => ?_, ?_, fun ρ hρ ho => ?_⟩
  · rw [wrN_eq, if_neg (by simp), hbox1, wrc_cells]; rfl
  · rw [get_set_ne (Ne.symm hne)]
    exact hA.low (g.old .ap) (by rw [hs]; exact hc) ((ap_old (Array.getElem?_eq_some_iff.1 hk).1).trans hk)
  · have := hA.size
    rw [ap_size] at this
    simp
    omega
  · exact (hA.Old' (ρ := ρ) (g.old .ap) (by rw [hs]; omega) (ho.trans .ap)).set hρ

theorem flatten_isB {ρ : H} {n0 : Nat} {bs : Option Addr} {cp : Nat} {X : Bud} (g : Grown (sized n0) ρ 7 (.slice bs X.L.length cp) (X.L.map tenV).flatten X.L.length) : IsB ρ (budV X bs cp) X ∧ Fresh n0 (budV X bs cp) := by
  refine ⟨⟨bs, cp, rfl, Grown.Row (by simpa using g) tenV_rows, g.cap⟩, fun c v hv hb => ?_⟩
  injection hv with hv
  subst hv
  have := (g.base hb).1
  rwa [sized_size] at this

theorem rleave_app {σ : H} {l : List Value} {B : Bud} {m : Int} (h : IsB σ l B) (hs : Srt B.L) (hn : B.L.length ≤ 1000) :
    App Try.prog (.func 25) #[] #[.agg l.toArray, .int .i64 m] σ fun v σ' => Old σ σ' ∧ ∃ l', v = .agg (l' ++ [Value.int .i64 (leaveF B m).2]).toArray ∧ IsB σ' l' (leaveF B m).1 ∧ ((l' = l ∧ (leaveF B m).1 = B) ∨ Fresh σ.size l') := by
  refine App.of_sem mixed Try.func25 t25 k25 r25 (Nat.le_of_ble_eq_true rfl) ?_
  have hB := h
  obtain ⟨base, cap, rfl, hr, hcap⟩ := h
  rw [← ap_nil (σ := σ)]
  unfold s25
  simp only [↓eD0, ↓eD1, eC0, eC1, eC2, eC3, eC4, eC5, eC6, wantedE, ↓reduceIte, Nat.reduceEqDiff, Option.map_some, Option.map_none, reread, List.nil_append, List.cons_append, List.map_cons, List.map_nil, List.length_nil, List.length_cons, Value.cells, List.getElem?_cons_zero, List.getElem?_cons_succ, outE, lks, lkR, rdV, neg1, evs, opt, Nat.reduceAdd, Nat.reduceMul, and_self, reduceCtorEq, List.size_toArray, List.all_cons, List.all_nil, Value.oneCell', List.set_cons_zero, List.set_cons_succ, sets, fillL, Nat.reduceLeDiff, List.drop_succ_cons, List.drop_zero, List.take_succ_cons, List.take_zero, List.toList_toArray, argsE, Array.append_empty, Array.empty_append, List.getElem?_toArray, Int.reduceLT, Int.reduceLE, Int.reduceToNat, Int.reduceEq, Nat.reduceLT, budV]
  refine loop_for (J := fun i e τ => i ≤ B.L.length ∧ e = [(1, .int .i64 m), (2, .pointer (some ⟨σ.size, 0, none⟩)), (4, .pointer (some ⟨σ.size + 1, 0, none⟩)), (5, .pointer (some ⟨σ.size + 2, 0, none⟩)), (6, .int .i64 i)] ∧
      Old σ τ ∧ σ.size + 3 ≤ τ.size ∧ τ[σ.size]? = some (.cells 0 [.int .i64 B.st, .int .i64 B.pg, .slice base B.L.length cap] (0, 0)) ∧ τ[σ.size + 1]? = some (.cells 0 [.int .i64 0, .int .i64 0, .slice none 0 0, .int .i64 0] (0, 0)) ∧
      ∃ v ver, τ[σ.size + 2]? = some (.cells ver [.int .i64 B.st, .int .i64 B.pg, v] (0, 0)) ∧ Grown (sized (σ.size + 3)) τ 7 v (((B.L.take i).filter fun t => !decide (t.m = m)).map tenV).flatten ((B.L.take i).filter fun t => !decide (t.m = m)).length) B.L.length
    ⟨by omega, rfl, .ap, by rw [ap_size]; exact Nat.le_refl _, ap_new0, ap_new, _, 1, ap_new, Grown.nil⟩ ?_
  rintro i e τ hi ⟨_, rfl, ho, hsz, q0, q1, v, ver, q2, hg⟩
  have z0 := (Array.getElem?_eq_some_iff.1 q0).1
  have z2 := (Array.getElem?_eq_some_iff.1 q2).1
  have r0 : ∀ L, rd1 (ap τ L) ⟨σ.size, 2, none⟩ = some (.slice base B.L.length cap) := fun L => by rw [rd1_eq, ap_old z0, q0]; rfl
  have r2 : ∀ L, rd1 (ap τ L) ⟨σ.size + 2, 2, none⟩ = some v := fun L => by rw [rd1_eq, ap_old z2, q2]; rfl
  rw [← ap_nil (σ := τ)]
  by_cases hlt : i < B.L.length
  · have dl : decide ((i:Int) < (B.L.length : Int)) = true := by simpa using hlt
    have hx : (B.L.map tenV)[i]? = some (tenV B.L[i]) := by simp [hlt]
    obtain ⟨b1, off, rfl, h1⟩ := hr.at hx
    have g3 : ∀ L, rdN (ap τ L) ⟨b1, off + i * 7, none⟩ 7 = some (tenV B.L[i]) := fun L => rdN_Old (ho.trans .ap) h1
    have g4 : ∀ L, rd1 (ap τ L) ⟨b1, off + i * 7, none⟩ = some (.int .i64 B.L[i].m) := fun L => rd1_row (g3 L) (j := 0) rfl
    have hb1 : (0:Int) ≤ (i:Int) ∧ (i:Int) < (B.L.length : Int) := by omega
    have hw : IntKind.wrap .i64 ((i:Int) + 1) = ((i + 1 : Nat) : Int) := by rw [wrap64 (by omega) (by omega)]; omega
    have tk : B.L.take (i + 1) = B.L.take i ++ [B.L[i]] := List.take_succ_eq_append_getElem hlt
    have hfl : ((B.L.take i).filter fun t => !decide (t.m = m)).length ≤ i := Nat.le_trans (List.length_filter_le _ _) (by simp; omega)
    by_cases he : B.L[i].m = m
    · have de : decide (B.L[i].m = m) = true := by simpa using he
      simp only [↓eD0, ↓eD1, eC0, eC1, eC2, eC3, eC4, eC5, eC6, wantedE, ↓reduceIte, Nat.reduceEqDiff, Option.map_some, Option.map_none, reread, List.nil_append, List.cons_append, List.map_cons, List.map_nil, List.length_nil, List.length_cons, Value.cells, List.getElem?_cons_zero, List.getElem?_cons_succ, outE, lks, lkR, rdV, neg1, evs, opt, Nat.reduceAdd, Nat.reduceMul, and_self, reduceCtorEq, List.size_toArray, List.all_cons, List.all_nil, Value.oneCell', List.set_cons_zero, List.set_cons_succ, sets, fillL, Nat.reduceLeDiff, List.drop_succ_cons, List.drop_zero, List.take_succ_cons, List.take_zero, List.toList_toArray, argsE, Array.append_empty, Array.empty_append, List.getElem?_toArray, Int.reduceLT, Int.reduceLE, Int.reduceToNat, Int.reduceEq, Nat.reduceLT, r0, dl, hb1, Int.toNat_natCast, g4, de, hw]
      refine ⟨hlt, by omega, ho.trans .ap, hsz, (ap_old z0).trans q0, (ap_old (Array.getElem?_eq_some_iff.1 q1).1).trans q1, v, ver, (ap_old z2).trans q2, ?_⟩
      rw [tk, List.filter_append, List.filter_cons, if_neg (by simp [he]), List.filter_nil, List.append_nil]
      exact hg.old .ap
    · have de : decide (B.L[i].m = m) = false := by simpa using he
      obtain ⟨bs, cp, τ', τ'', a1, a2, a3, a4, a5, a6, a7⟩ := push_step B.L[i] (Nat.lt_succ_self (σ.size + 2)) hsz q2 hg (by omega)
      have tkf : (B.L.take (i + 1)).filter (fun t => !decide (t.m = m)) = (B.L.take i).filter (fun t => !decide (t.m = m)) ++ [B.L[i]] := by
        rw [tk, List.filter_append, List.filter_cons, if_pos (by simpa using he), List.filter_nil]
      rw [← tkf] at a1 a2 a3 a4
      simp only [↓eD0, ↓eD1, eC0, eC1, eC2, eC3, eC4, eC5, eC6, wantedE, ↓reduceIte, Nat.reduceEqDiff, Option.map_some, Option.map_none, reread, List.nil_append, List.cons_append, List.map_cons, List.map_nil, List.length_nil, List.length_cons, Value.cells, List.getElem?_cons_zero, List.getElem?_cons_succ, outE, lks, lkR, rdV, neg1, evs, opt, Nat.reduceAdd, Nat.reduceMul, and_self, reduceCtorEq, List.size_toArray, List.all_cons, List.all_nil, Value.oneCell', List.set_cons_zero, List.set_cons_succ, sets, fillL, Nat.reduceLeDiff, List.drop_succ_cons, List.drop_zero, List.take_succ_cons, List.take_zero, List.toList_toArray, argsE, Array.append_empty, Array.empty_append, List.getElem?_toArray, Int.reduceLT, Int.reduceLE, Int.reduceToNat, Int.reduceEq, Nat.reduceLT, r0, r2, dl, hb1, Int.toNat_natCast, g3, g4, de, tenV, rep7]
      refine onV_of a1 ?_
      simp only [↓eD0, ↓eD1, eC0, eC1, eC2, eC3, eC4, eC5, eC6, wantedE, ↓reduceIte, Nat.reduceEqDiff, Option.map_some, Option.map_none, reread, List.nil_append, List.cons_append, List.map_cons, List.map_nil, List.length_nil, List.length_cons, Value.cells, List.getElem?_cons_zero, List.getElem?_cons_succ, outE, lks, lkR, rdV, neg1, evs, opt, Nat.reduceAdd, Nat.reduceMul, and_self, reduceCtorEq, List.size_toArray, List.all_cons, List.all_nil, Value.oneCell', List.set_cons_zero, List.set_cons_succ, sets, fillL, Nat.reduceLeDiff, List.drop_succ_cons, List.drop_zero, List.take_succ_cons, List.take_zero, List.toList_toArray, argsE, Array.append_empty, Array.empty_append, List.getElem?_toArray, Int.reduceLT, Int.reduceLE, Int.reduceToNat, Int.reduceEq, Nat.reduceLT, a2, hw]
      exact ⟨hlt, by omega, a7 _ (by omega) ho, a6, a5 _ _ (by omega) (by omega) q0, a5 _ _ (by omega) (by omega) q1, _, _, a3, a4⟩
  · have : i = B.L.length := by omega
    subst this
    rw [List.take_length] at hg
    obtain ⟨bs, cp, rfl⟩ := hg.slice
    have dl : decide ((B.L.length:Int) < (B.L.length : Int)) = false := by simp
    have f0 : ∀ L, rdN (ap τ L) ⟨σ.size, 0, none⟩ 3 = some [.int .i64 B.st, .int .i64 B.pg, .slice base B.L.length cap] := fun L => rdN_all ((ap_old z0).trans q0) rfl
    have f2 : ∀ L, rdN (ap τ L) ⟨σ.size + 2, 0, none⟩ 3 = some [.int .i64 B.st, .int .i64 B.pg, .slice bs (B.L.filter fun t => !decide (t.m = m)).length cp] := fun L => rdN_all ((ap_old z2).trans q2) rfl
    have z1 := (Array.getElem?_eq_some_iff.1 q1).1
    have w1 : ∀ L a b c d e f, wrN (ap τ L) ⟨σ.size + 1, 0, none⟩ [.int .i64 a, .int .i64 b, .slice c d e, .int .i64 f] = some ((ap τ L).setIfInBounds (σ.size + 1) (.cells 1 [.int .i64 a, .int .i64 b, .slice c d e, .int .i64 f] (0, 0))) := fun L a b c d e f => by
      rw [wrN_eq, if_neg (by simp), ap_old z1, q1, wrc_cells]; rfl
    have fr : ∀ L a b c d e f, rdN ((ap τ L).setIfInBounds (σ.size + 1) (.cells 1 [.int .i64 a, .int .i64 b, .slice c d e, .int .i64 f] (0, 0))) ⟨σ.size + 1, 0, none⟩ 4 = some [.int .i64 a, .int .i64 b, .slice c d e, .int .i64 f] := fun L a b c d e f => rdN_all (get_set ((ap_old z1).trans q1)) rfl
    have hfs := filter_srt (m := m) hs
    cases hi : isF B.L m
    · rw [hi, if_neg (by simp)] at hfs
      have hlv : leaveF B m = (B, 5) := by unfold leaveF; rw [if_neg (by simp [hi])]
      have de : decide (((B.L.filter fun t => !decide (t.m = m)).length : Int) = (B.L.length : Int)) = true := by rw [hfs]; simp
      simp only [↓eD0, ↓eD1, eC0, eC1, eC2, eC3, eC4, eC5, eC6, wantedE, ↓reduceIte, Nat.reduceEqDiff, Option.map_some, Option.map_none, reread, List.nil_append, List.cons_append, List.map_cons, List.map_nil, List.length_nil, List.length_cons, Value.cells, List.getElem?_cons_zero, List.getElem?_cons_succ, outE, lks, lkR, rdV, neg1, evs, opt, Nat.reduceAdd, Nat.reduceMul, and_self, reduceCtorEq, List.size_toArray, List.all_cons, List.all_nil, Value.oneCell', List.set_cons_zero, List.set_cons_succ, sets, fillL, Nat.reduceLeDiff, List.drop_succ_cons, List.drop_zero, List.take_succ_cons, List.take_zero, List.toList_toArray, argsE, Array.append_empty, Array.empty_append, List.getElem?_toArray, Int.reduceLT, Int.reduceLE, Int.reduceToNat, Int.reduceEq, Nat.reduceLT, r0, r2, dl, de, f0, w1, fr]
      rw [hlv]
      exact ⟨(ho.trans .ap).set (by omega), budV B base cap, rfl, hB.Old ((ho.trans .ap).set (by omega)), .inl ⟨rfl, rfl⟩⟩
    · rw [hi, if_pos rfl] at hfs
      have hlv : leaveF B m = (cutT B m, 0) := by unfold leaveF; rw [if_pos hi]
      have hcl := cut_len hi
      have hpl := isF_lt hi
      have hfc : (B.L.filter fun t => !decide (t.m = m)) = (cutT B m).L := hfs
      have de : decide (((B.L.filter fun t => !decide (t.m = m)).length : Int) = (B.L.length : Int)) = false := by rw [hfc, hcl, decide_eq_false]; omega
      simp only [↓eD0, ↓eD1, eC0, eC1, eC2, eC3, eC4, eC5, eC6, wantedE, ↓reduceIte, Nat.reduceEqDiff, Option.map_some, Option.map_none, reread, List.nil_append, List.cons_append, List.map_cons, List.map_nil, List.length_nil, List.length_cons, Value.cells, List.getElem?_cons_zero, List.getElem?_cons_succ, outE, lks, lkR, rdV, neg1, evs, opt, Nat.reduceAdd, Nat.reduceMul, and_self, reduceCtorEq, List.size_toArray, List.all_cons, List.all_nil, Value.oneCell', List.set_cons_zero, List.set_cons_succ, sets, fillL, Nat.reduceLeDiff, List.drop_succ_cons, List.drop_zero, List.take_succ_cons, List.take_zero, List.toList_toArray, argsE, Array.append_empty, Array.empty_append, List.getElem?_toArray, Int.reduceLT, Int.reduceLE, Int.reduceToNat, Int.reduceEq, Nat.reduceLT, r0, r2, dl, de, f0, f2, w1, fr]
      rw [hlv]
      rw [hfc] at hg ⊢
      obtain ⟨x1, x2⟩ := flatten_isB (ρ := (ap τ []).setIfInBounds (σ.size + 1) (.cells 1 [.int .i64 B.st, .int .i64 B.pg, .slice bs (cutT B m).L.length cp, .int .i64 0] (0, 0))) (X := cutT B m) ((hg.old .ap).set (by rw [sized_size]; omega))
      exact ⟨(ho.trans .ap).set (by omega), budV (cutT B m) bs cp, rfl, x1, .inr fun c v hv hb => by have := x2 c v hv hb; omega⟩
end Go.Proofs.Ytimcgoghjebalaa
