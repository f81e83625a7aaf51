/- Walks and plain laws. Conditions: none. -/
import Derived.Test.YtimcgoghjebalaaVk
set_option linter.all false
set_option linter.unusedSimpArgs false
set_option linter.unusedVariables false
set_option maxRecDepth 10000
set_option maxHeartbeats 1000000
namespace Go.Proofs.Ytimcgoghjebalaa
open Go Go.Cn Go.RowKit

theorem eq_place {L : List Ten} {m : Int} (hs : Srt L) {i : Nat} (h : i < L.length) : L[i].m = m ↔ (i = placeF L m ∧ isF L m = true) := by
  have hp := place_iff (m := m) hs
  constructor
  · intro he
    have h1 := (hp i h).1 (by omega)
    have hpl : placeF L m < L.length := by omega
    by_cases hlt : placeF L m < i
    · have h2 := (hp (placeF L m) hpl).2 (Nat.le_refl _)
      have := List.pairwise_iff_getElem.1 hs (placeF L m) i hpl h hlt
      omega
    · have : i = placeF L m := by omega
      refine ⟨this, ?_⟩
      have hg : L[placeF L m]? = some L[i] := by rw [← this]; simp [h]
      simp [isF, hg, he]
  · rintro ⟨rfl, hi⟩
    simpa [isF, h] using hi
theorem gt_place {L : List Ten} {m : Int} (hs : Srt L) {i : Nat} (h : i < L.length) (hne : L[i].m ≠ m) : m < L[i].m ↔ placeF L m ≤ i := by
  have := place_iff (m := m) hs i h
  omega

def oF (L : List Ten) (t : Ten) (p i : Nat) : List Ten := if i ≤ p then L.take i else L.take p ++ [t] ++ (L.drop p).take (i - p)
theorem oF_lt {L : List Ten} {t : Ten} {p i : Nat} (h : i < p) (hl : i < L.length) : oF L t p (i + 1) = oF L t p i ++ [L[i]] := by
  rw [oF, oF, if_pos (by omega), if_pos (by omega), List.take_succ_eq_append_getElem hl]
theorem oF_ge {L : List Ten} {t : Ten} {p i : Nat} (h : p < i) (hl : i < L.length) : oF L t p (i + 1) = oF L t p i ++ [L[i]] := by
  rw [oF, oF, if_neg (by omega), if_neg (by omega), show i + 1 - p = (i - p) + 1 by omega, List.take_succ_eq_append_getElem (by simp; omega), List.append_assoc, List.append_assoc, List.append_assoc]
  congr 3
  rw [List.getElem_drop]
  congr 2
  omega
theorem oF_p {L : List Ten} {t : Ten} {p : Nat} (hl : p < L.length) : oF L t p (p + 1) = (oF L t p p ++ [t]) ++ [L[p]] := by
  rw [oF, oF, if_neg (by omega), if_pos (by omega), show p + 1 - p = 1 by omega, List.drop_eq_getElem_cons hl]
  rfl
theorem oF_len {L : List Ten} {t : Ten} {p i : Nat} : (oF L t p i).length ≤ i + 1 := by
  unfold oF
  split <;> simp <;> omega
theorem oF_end {B : Bud} {t : Ten} {p : Nat} (hp : placeF B.L t.m = p) (h : p < B.L.length) : oF B.L t p B.L.length = (putT B t).L := by
  have h1 : (B.L.drop p).take (B.L.length - p) = B.L.drop p := List.take_of_length_le (by simp)
  rw [oF, if_neg (by omega), h1, putT, hp]
theorem oF_end' {B : Bud} {t : Ten} {p : Nat} (hp : placeF B.L t.m = p) (h : p = B.L.length) : oF B.L t p B.L.length ++ [t] = (putT B t).L := by
  subst h
  rw [oF, if_pos (Nat.le_refl _), putT, hp]
  simp

theorem radmit_app {σ : H} {l : List Value} {B : Bud} {t : Ten} (h : IsB σ l B) (hs : Srt B.L) (hn : B.L.length ≤ 1000) :
    App Try.prog (.func 24) #[] #[.agg l.toArray, .agg (tenV t).toArray] σ fun v σ' => Old σ σ' ∧ ∃ l', v = .agg (l' ++ [Value.int .i64 (admitF B t).2]).toArray ∧ IsB σ' l' (admitF B t).1 ∧ ((l' = l ∧ (admitF B t).1 = B) ∨ Fresh σ.size l') := by
  refine App.of_sem mixed Try.func24 t24 k24 r24 (Nat.le_of_ble_eq_true rfl) ?_
  have hB := h
  obtain ⟨base, cap, rfl, hr, hcap⟩ := h
  rw [← ap_nil (σ := σ)]
  unfold s24
  by_cases h1 : t.m < 1
  case pos =>
    have d1 : decide (t.m < 1) = true := by simpa using h1
    simp only [↓eD0, ↓eD1, eC0, eC1, eC2, eC3, eC4, eC5, eC6, wantedE, ↓reduceIte, Nat.reduceEqDiff, Option.map_some, Option.map_none, reread, List.nil_append, List.cons_append, List.map_cons, List.map_nil, List.length_nil, List.length_cons, Value.cells, List.getElem?_cons_zero, List.getElem?_cons_succ, outE, lks, lkR, rdV, neg1, evs, opt, Nat.reduceAdd, Nat.reduceMul, and_self, reduceCtorEq, List.size_toArray, List.all_cons, List.all_nil, Value.oneCell', List.set_cons_zero, List.set_cons_succ, sets, fillL, Nat.reduceLeDiff, List.drop_succ_cons, List.drop_zero, List.take_succ_cons, List.take_zero, List.toList_toArray, argsE, Array.append_empty, Array.empty_append, List.getElem?_toArray, Int.reduceLT, Int.reduceLE, Int.reduceToNat, Int.reduceEq, Nat.reduceLT, budV, tenV, rep7, d1, undef_eq]
    have : admitF B t = (B, 1) := by unfold admitF; rw [if_pos (.inl h1)]
    rw [this]
    exact ⟨.ap, budV B base cap, rfl, hB.Old .ap, .inl ⟨rfl, rfl⟩⟩
  have d1 : decide (t.m < 1) = false := by simpa using h1
  simp only [↓eD0, ↓eD1, eC0, eC1, eC2, eC3, eC4, eC5, eC6, wantedE, ↓reduceIte, Nat.reduceEqDiff, Option.map_some, Option.map_none, reread, List.nil_append, List.cons_append, List.map_cons, List.map_nil, List.length_nil, List.length_cons, Value.cells, List.getElem?_cons_zero, List.getElem?_cons_succ, outE, lks, lkR, rdV, neg1, evs, opt, Nat.reduceAdd, Nat.reduceMul, and_self, reduceCtorEq, List.size_toArray, List.all_cons, List.all_nil, Value.oneCell', List.set_cons_zero, List.set_cons_succ, sets, fillL, Nat.reduceLeDiff, List.drop_succ_cons, List.drop_zero, List.take_succ_cons, List.take_zero, List.toList_toArray, argsE, Array.append_empty, Array.empty_append, List.getElem?_toArray, Int.reduceLT, Int.reduceLE, Int.reduceToNat, Int.reduceEq, Nat.reduceLT, budV, tenV, rep7, d1, undef_eq]
  refine appK_of (rright_app (c := t.st)) ?_
  rintro _ _ ⟨e2, rfl⟩
  rw [e2]
  clear e2
  by_cases h2 : t.st.Ok
  case neg =>
    have d2 : decide t.st.Ok = false := by simpa using h2
    simp only [↓eD0, ↓eD1, eC0, eC1, eC2, eC3, eC4, eC5, eC6, wantedE, ↓reduceIte, Nat.reduceEqDiff, Option.map_some, Option.map_none, reread, List.nil_append, List.cons_append, List.map_cons, List.map_nil, List.length_nil, List.length_cons, Value.cells, List.getElem?_cons_zero, List.getElem?_cons_succ, outE, lks, lkR, rdV, neg1, evs, opt, Nat.reduceAdd, Nat.reduceMul, and_self, reduceCtorEq, List.size_toArray, List.all_cons, List.all_nil, Value.oneCell', List.set_cons_zero, List.set_cons_succ, sets, fillL, Nat.reduceLeDiff, List.drop_succ_cons, List.drop_zero, List.take_succ_cons, List.take_zero, List.toList_toArray, argsE, Array.append_empty, Array.empty_append, List.getElem?_toArray, Int.reduceLT, Int.reduceLE, Int.reduceToNat, Int.reduceEq, Nat.reduceLT, d2, undef_eq]
    have : admitF B t = (B, 1) := by unfold admitF; rw [if_pos (.inr (.inl h2))]
    rw [this]
    exact ⟨.ap, budV B base cap, rfl, hB.Old .ap, .inl ⟨rfl, rfl⟩⟩
  have d2 : decide t.st.Ok = true := by simpa using h2
  simp only [↓eD0, ↓eD1, eC0, eC1, eC2, eC3, eC4, eC5, eC6, wantedE, ↓reduceIte, Nat.reduceEqDiff, Option.map_some, Option.map_none, reread, List.nil_append, List.cons_append, List.map_cons, List.map_nil, List.length_nil, List.length_cons, Value.cells, List.getElem?_cons_zero, List.getElem?_cons_succ, outE, lks, lkR, rdV, neg1, evs, opt, Nat.reduceAdd, Nat.reduceMul, and_self, reduceCtorEq, List.size_toArray, List.all_cons, List.all_nil, Value.oneCell', List.set_cons_zero, List.set_cons_succ, sets, fillL, Nat.reduceLeDiff, List.drop_succ_cons, List.drop_zero, List.take_succ_cons, List.take_zero, List.toList_toArray, argsE, Array.append_empty, Array.empty_append, List.getElem?_toArray, Int.reduceLT, Int.reduceLE, Int.reduceToNat, Int.reduceEq, Nat.reduceLT, d2, undef_eq]
  refine appK_of (rright_app (c := t.pg)) ?_
  rintro _ _ ⟨e2, rfl⟩
  rw [e2]
  clear e2
  by_cases h3 : t.pg.Ok
  case neg =>
    have d3 : decide t.pg.Ok = false := by simpa using h3
    simp only [↓eD0, ↓eD1, eC0, eC1, eC2, eC3, eC4, eC5, eC6, wantedE, ↓reduceIte, Nat.reduceEqDiff, Option.map_some, Option.map_none, reread, List.nil_append, List.cons_append, List.map_cons, List.map_nil, List.length_nil, List.length_cons, Value.cells, List.getElem?_cons_zero, List.getElem?_cons_succ, outE, lks, lkR, rdV, neg1, evs, opt, Nat.reduceAdd, Nat.reduceMul, and_self, reduceCtorEq, List.size_toArray, List.all_cons, List.all_nil, Value.oneCell', List.set_cons_zero, List.set_cons_succ, sets, fillL, Nat.reduceLeDiff, List.drop_succ_cons, List.drop_zero, List.take_succ_cons, List.take_zero, List.toList_toArray, argsE, Array.append_empty, Array.empty_append, List.getElem?_toArray, Int.reduceLT, Int.reduceLE, Int.reduceToNat, Int.reduceEq, Nat.reduceLT, d3, undef_eq]
    have : admitF B t = (B, 1) := by unfold admitF; rw [if_pos (.inr (.inr h3))]
    rw [this]
    exact ⟨.ap, budV B base cap, rfl, hB.Old .ap, .inl ⟨rfl, rfl⟩⟩
  have d3 : decide t.pg.Ok = true := by simpa using h3
  have hbad : ¬ (t.m < 1 ∨ ¬ t.st.Ok ∨ ¬ t.pg.Ok) := by
    rintro (g | g | g)
    · exact h1 g
    · exact g h2
    · exact g h3
  have hadm : admitF B t = if isF B.L t.m = true then (B, 6) else if validF (putT B t) = true then (putT B t, 0) else (B, 2) := by unfold admitF; rw [if_neg hbad]
  have hpn := place_le (L := B.L) (m := t.m)
  have hep := fun i h => eq_place (m := t.m) hs (i := i) h
  have hgp := fun i h => gt_place (m := t.m) hs (i := i) h
  generalize hpl : placeF B.L t.m = p at hpn hep hgp
  simp only [↓eD0, ↓eD1, eC0, eC1, eC2, eC3, eC4, eC5, eC6, wantedE, ↓reduceIte, Nat.reduceEqDiff, Option.map_some, Option.map_none, reread, List.nil_append, List.cons_append, List.map_cons, List.map_nil, List.length_nil, List.length_cons, Value.cells, List.getElem?_cons_zero, List.getElem?_cons_succ, outE, lks, lkR, rdV, neg1, evs, opt, Nat.reduceAdd, Nat.reduceMul, and_self, reduceCtorEq, List.size_toArray, List.all_cons, List.all_nil, Value.oneCell', List.set_cons_zero, List.set_cons_succ, sets, fillL, Nat.reduceLeDiff, List.drop_succ_cons, List.drop_zero, List.take_succ_cons, List.take_zero, List.toList_toArray, argsE, Array.append_empty, Array.empty_append, List.getElem?_toArray, Int.reduceLT, Int.reduceLE, Int.reduceToNat, Int.reduceEq, Nat.reduceLT, d3, undef_eq]
  refine loop_for (J := fun i e τ => i ≤ B.L.length ∧ e = [(2, .pointer (some ⟨σ.size, 0, none⟩)), (3, .pointer (some ⟨σ.size + 1, 0, none⟩)), (4, .pointer (some ⟨σ.size + 2, 0, none⟩)), (5, .pointer (some ⟨σ.size + 3, 0, none⟩)), (6, .bool (decide (p < i))), (7, .int .i64 i)] ∧
      Old σ τ ∧ σ.size + 4 ≤ τ.size ∧ τ[σ.size]? = some (.cells 0 [.int .i64 B.st, .int .i64 B.pg, .slice base B.L.length cap] (0, 0)) ∧ τ[σ.size + 1]? = some (.cells 0 (tenV t) (0, 0)) ∧ τ[σ.size + 2]? = some (.cells 0 [.int .i64 0, .int .i64 0, .slice none 0 0, .int .i64 0] (0, 0)) ∧ (isF B.L t.m = true → i ≤ p) ∧
      ∃ v ver, τ[σ.size + 3]? = some (.cells ver [.int .i64 B.st, .int .i64 B.pg, v] (0, 0)) ∧ Grown (sized (σ.size + 4)) τ 7 v ((oF B.L t p i).map tenV).flatten (oF B.L t p i).length) B.L.length
    ⟨by omega, rfl, .ap, by rw [ap_size]; exact Nat.le_refl _, ap_new0, ap_new, ap_new, fun _ => Nat.zero_le _, _, 1, ap_new, by rw [oF, if_pos (Nat.zero_le _)]; exact Grown.nil⟩ ?_
  rintro i e τ hi ⟨_, rfl, ho, hsz, q0, q1, q2, hfi, v, ver, q3, hg⟩
  have z0 := (Array.getElem?_eq_some_iff.1 q0).1
  have z1 := (Array.getElem?_eq_some_iff.1 q1).1
  have z2 := (Array.getElem?_eq_some_iff.1 q2).1
  have z3 := (Array.getElem?_eq_some_iff.1 q3).1
  have r0 : ∀ L, rd1 (ap τ L) ⟨σ.size, 2, none⟩ = some (.slice base B.L.length cap) := fun L => by rw [rd1_eq, ap_old z0, q0]; rfl
  have f0 : ∀ L, rdN (ap τ L) ⟨σ.size, 0, none⟩ 3 = some [.int .i64 B.st, .int .i64 B.pg, .slice base B.L.length cap] := fun L => rdN_all ((ap_old z0).trans q0) rfl
  have r1 : ∀ L, rd1 (ap τ L) ⟨σ.size + 1, 0, none⟩ = some (.int .i64 t.m) := fun L => by rw [rd1_eq, ap_old z1, q1]; rfl
  have f1 : ∀ L, rdN (ap τ L) ⟨σ.size + 1, 0, none⟩ 7 = some (tenV t) := fun L => rdN_all ((ap_old z1).trans q1) rfl
  have r3 : ∀ L, rd1 (ap τ L) ⟨σ.size + 3, 2, none⟩ = some v := fun L => by rw [rd1_eq, ap_old z3, q3]; rfl
  have w2 : ∀ L a b c d e f, wrN (ap τ L) ⟨σ.size + 2, 0, none⟩ [.int .i64 a, .int .i64 b, .slice c d e, .int .i64 f] = some ((ap τ L).setIfInBounds (σ.size + 2) (.cells 1 [.int .i64 a, .int .i64 b, .slice c d e, .int .i64 f] (0, 0))) := fun L a b c d e f => by
    rw [wrN_eq, if_neg (by simp), ap_old z2, q2, wrc_cells]; rfl
  have fr : ∀ L a b c d e f, rdN ((ap τ L).setIfInBounds (σ.size + 2) (.cells 1 [.int .i64 a, .int .i64 b, .slice c d e, .int .i64 f] (0, 0))) ⟨σ.size + 2, 0, none⟩ 4 = some [.int .i64 a, .int .i64 b, .slice c d e, .int .i64 f] := fun L a b c d e f => rdN_all (get_set ((ap_old z2).trans q2)) rfl
  have hol := oF_len (L := B.L) (t := t) (p := p) (i := i)
  rw [← ap_nil (σ := τ)]
  by_cases hlt : i < B.L.length
  · have dl : decide ((i:Int) < (B.L.length : Int)) = true := by simpa using hlt
    have hx : (B.L.map tenV)[i]? = some (tenV B.L[i]) := by simp [hlt]
    obtain ⟨b1, off, rfl, h1⟩ := hr.at hx
    have g3 : ∀ {ρ : H}, Old σ ρ → rdN ρ ⟨b1, off + i * 7, none⟩ 7 = some (tenV B.L[i]) := fun ho => rdN_Old ho h1
    have g3' : ∀ L, rdN (ap τ L) ⟨b1, off + i * 7, none⟩ 7 = some (tenV B.L[i]) := fun L => g3 (ho.trans .ap)
    have g4 : ∀ L, rd1 (ap τ L) ⟨b1, off + i * 7, none⟩ = some (.int .i64 B.L[i].m) := fun L => rd1_row (g3' L) (j := 0) rfl
    have hb1 : (0:Int) ≤ (i:Int) ∧ (i:Int) < (B.L.length : Int) := by omega
    have hw : IntKind.wrap .i64 ((i:Int) + 1) = ((i + 1 : Nat) : Int) := by rw [wrap64 (by omega) (by omega)]; omega
    by_cases he : B.L[i].m = t.m
    · have de : decide (B.L[i].m = t.m) = true := by simpa using he
      have hi6 := ((hep i hlt).1 he).2
      rw [hadm, if_pos hi6]
      simp only [↓eD0, ↓eD1, eC0, eC1, eC2, eC3, eC4, eC5, eC6, wantedE, ↓reduceIte, Nat.reduceEqDiff, Option.map_some, Option.map_none, reread, List.nil_append, List.cons_append, List.map_cons, List.map_nil, List.length_nil, List.length_cons, Value.cells, List.getElem?_cons_zero, List.getElem?_cons_succ, outE, lks, lkR, rdV, neg1, evs, opt, Nat.reduceAdd, Nat.reduceMul, and_self, reduceCtorEq, List.size_toArray, List.all_cons, List.all_nil, Value.oneCell', List.set_cons_zero, List.set_cons_succ, sets, fillL, Nat.reduceLeDiff, List.drop_succ_cons, List.drop_zero, List.take_succ_cons, List.take_zero, List.toList_toArray, argsE, Array.append_empty, Array.empty_append, List.getElem?_toArray, Int.reduceLT, Int.reduceLE, Int.reduceToNat, Int.reduceEq, Nat.reduceLT, r0, r1, dl, hb1, Int.toNat_natCast, g4, de, f0, w2, fr, tenV]
      exact ⟨(ho.trans .ap).set (by omega), budV B _ cap, rfl, hB.Old ((ho.trans .ap).set (by omega)), .inl rfl⟩
    · have de : decide (B.L[i].m = t.m) = false := by simpa using he
      have hgt := hgp i hlt he
      have hnp : isF B.L t.m = true → i + 1 ≤ p := fun hf => by
        have h4 := hfi hf
        by_cases hip : i = p
        · exact absurd ((hep i hlt).2 ⟨hip, hf⟩) he
        · omega
      by_cases hip : i = p
      · have dd : decide (p < i) = false := by rw [decide_eq_false]; omega
        have dd1 : decide (p < i + 1) = true := by rw [decide_eq_true]; omega
        have dg : decide (t.m < B.L[i].m) = true := by rw [decide_eq_true]; exact hgt.2 (by omega)
        obtain ⟨bs, cp, τ', τ'', a1, a2, a3, a4, a5, a6, a7⟩ := push_step t (Nat.lt_succ_self (σ.size + 3)) hsz q3 hg (by omega)
        have o2 := a7 _ (by omega) ho
        have u0 := a5 _ _ (by omega) (by omega) q0
        have u1 := a5 _ _ (by omega) (by omega) q1
        have u2 := a5 _ _ (by omega) (by omega) q2
        have s0 : rd1 τ'' ⟨σ.size, 2, none⟩ = some (.slice (some ⟨b1, off, none⟩) B.L.length cap) := by rw [rd1_eq, u0]; rfl
        have s3 : rd1 τ'' ⟨σ.size + 3, 2, none⟩ = some (.slice bs (oF B.L t p i ++ [t]).length cp) := by rw [rd1_eq, a3]; rfl
        have s7 := g3 o2
        have hpush : ∀ k, τ''.push k = ap τ'' [k] := fun k => by simp [ap]
        obtain ⟨bs2, cp2, ρ', ρ'', c1, c2, c3, c4, c5, c6, c7⟩ := push_step B.L[i] (Nat.lt_succ_self (σ.size + 3)) a6 a3 a4 (by simp; omega)
        have hof : oF B.L t p (i + 1) = (oF B.L t p i ++ [t]) ++ [B.L[i]] := by subst hip; exact oF_p hlt
        simp only [↓eD0, ↓eD1, eC0, eC1, eC2, eC3, eC4, eC5, eC6, wantedE, ↓reduceIte, Nat.reduceEqDiff, Option.map_some, Option.map_none, reread, List.nil_append, List.cons_append, List.map_cons, List.map_nil, List.length_nil, List.length_cons, Value.cells, List.getElem?_cons_zero, List.getElem?_cons_succ, outE, lks, lkR, rdV, neg1, evs, opt, Nat.reduceAdd, Nat.reduceMul, and_self, reduceCtorEq, List.size_toArray, List.all_cons, List.all_nil, Value.oneCell', List.set_cons_zero, List.set_cons_succ, sets, fillL, Nat.reduceLeDiff, List.drop_succ_cons, List.drop_zero, List.take_succ_cons, List.take_zero, List.toList_toArray, argsE, Array.append_empty, Array.empty_append, List.getElem?_toArray, Int.reduceLT, Int.reduceLE, Int.reduceToNat, Int.reduceEq, Nat.reduceLT, r0, r1, r3, f1, dl, hb1, Int.toNat_natCast, g4, de, dd, dg, undef_eq, tenV, rep7]
        refine onV_of a1 ?_
        simp only [↓eD0, ↓eD1, eC0, eC1, eC2, eC3, eC4, eC5, eC6, wantedE, ↓reduceIte, Nat.reduceEqDiff, Option.map_some, Option.map_none, reread, List.nil_append, List.cons_append, List.map_cons, List.map_nil, List.length_nil, List.length_cons, Value.cells, List.getElem?_cons_zero, List.getElem?_cons_succ, outE, lks, lkR, rdV, neg1, evs, opt, Nat.reduceAdd, Nat.reduceMul, and_self, reduceCtorEq, List.size_toArray, List.all_cons, List.all_nil, Value.oneCell', List.set_cons_zero, List.set_cons_succ, sets, fillL, Nat.reduceLeDiff, List.drop_succ_cons, List.drop_zero, List.take_succ_cons, List.take_zero, List.toList_toArray, argsE, Array.append_empty, Array.empty_append, List.getElem?_toArray, Int.reduceLT, Int.reduceLE, Int.reduceToNat, Int.reduceEq, Nat.reduceLT, a2, s0, s3, s7, hb1, Int.toNat_natCast, tenV, rep7, hpush]
        refine onV_of c1 ?_
        simp only [↓eD0, ↓eD1, eC0, eC1, eC2, eC3, eC4, eC5, eC6, wantedE, ↓reduceIte, Nat.reduceEqDiff, Option.map_some, Option.map_none, reread, List.nil_append, List.cons_append, List.map_cons, List.map_nil, List.length_nil, List.length_cons, Value.cells, List.getElem?_cons_zero, List.getElem?_cons_succ, outE, lks, lkR, rdV, neg1, evs, opt, Nat.reduceAdd, Nat.reduceMul, and_self, reduceCtorEq, List.size_toArray, List.all_cons, List.all_nil, Value.oneCell', List.set_cons_zero, List.set_cons_succ, sets, fillL, Nat.reduceLeDiff, List.drop_succ_cons, List.drop_zero, List.take_succ_cons, List.take_zero, List.toList_toArray, argsE, Array.append_empty, Array.empty_append, List.getElem?_toArray, Int.reduceLT, Int.reduceLE, Int.reduceToNat, Int.reduceEq, Nat.reduceLT, c2, hw, dd1]
        rw [hof]
        exact ⟨hlt, by omega, c7 _ (by omega) o2, c6, c5 _ _ (by omega) (by omega) u0, c5 _ _ (by omega) (by omega) u1, c5 _ _ (by omega) (by omega) u2, hnp, _, _, c3, c4⟩
      · obtain ⟨bs, cp, τ', τ'', a1, a2, a3, a4, a5, a6, a7⟩ := push_step B.L[i] (Nat.lt_succ_self (σ.size + 3)) hsz q3 hg (by omega)
        have o2 := a7 _ (by omega) ho
        have u0 := a5 _ _ (by omega) (by omega) q0
        have u1 := a5 _ _ (by omega) (by omega) q1
        have u2 := a5 _ _ (by omega) (by omega) q2
        have hof : oF B.L t p (i + 1) = oF B.L t p i ++ [B.L[i]] := by
          by_cases hh : i < p
          · exact oF_lt hh hlt
          · exact oF_ge (by omega) hlt
        by_cases hh : p < i
        · have dd : decide (p < i) = true := by rw [decide_eq_true]; omega
          have dd1 : decide (p < i + 1) = true := by rw [decide_eq_true]; omega
          simp only [↓eD0, ↓eD1, eC0, eC1, eC2, eC3, eC4, eC5, eC6, wantedE, ↓reduceIte, Nat.reduceEqDiff, Option.map_some, Option.map_none, reread, List.nil_append, List.cons_append, List.map_cons, List.map_nil, List.length_nil, List.length_cons, Value.cells, List.getElem?_cons_zero, List.getElem?_cons_succ, outE, lks, lkR, rdV, neg1, evs, opt, Nat.reduceAdd, Nat.reduceMul, and_self, reduceCtorEq, List.size_toArray, List.all_cons, List.all_nil, Value.oneCell', List.set_cons_zero, List.set_cons_succ, sets, fillL, Nat.reduceLeDiff, List.drop_succ_cons, List.drop_zero, List.take_succ_cons, List.take_zero, List.toList_toArray, argsE, Array.append_empty, Array.empty_append, List.getElem?_toArray, Int.reduceLT, Int.reduceLE, Int.reduceToNat, Int.reduceEq, Nat.reduceLT, r0, r1, r3, f1, dl, hb1, Int.toNat_natCast, g3', g4, de, dd, undef_eq, tenV, rep7]
          refine onV_of a1 ?_
          simp only [↓eD0, ↓eD1, eC0, eC1, eC2, eC3, eC4, eC5, eC6, wantedE, ↓reduceIte, Nat.reduceEqDiff, Option.map_some, Option.map_none, reread, List.nil_append, List.cons_append, List.map_cons, List.map_nil, List.length_nil, List.length_cons, Value.cells, List.getElem?_cons_zero, List.getElem?_cons_succ, outE, lks, lkR, rdV, neg1, evs, opt, Nat.reduceAdd, Nat.reduceMul, and_self, reduceCtorEq, List.size_toArray, List.all_cons, List.all_nil, Value.oneCell', List.set_cons_zero, List.set_cons_succ, sets, fillL, Nat.reduceLeDiff, List.drop_succ_cons, List.drop_zero, List.take_succ_cons, List.take_zero, List.toList_toArray, argsE, Array.append_empty, Array.empty_append, List.getElem?_toArray, Int.reduceLT, Int.reduceLE, Int.reduceToNat, Int.reduceEq, Nat.reduceLT, a2, hw, dd, dd1]
          rw [hof]
          exact ⟨hlt, by omega, o2, a6, u0, u1, u2, hnp, _, _, a3, a4⟩
        · have dd : decide (p < i) = false := by rw [decide_eq_false]; omega
          have dd1 : decide (p < i + 1) = false := by rw [decide_eq_false]; omega
          have dg : decide (t.m < B.L[i].m) = false := by rw [decide_eq_false]; intro h; have := hgt.1 h; omega
          simp only [↓eD0, ↓eD1, eC0, eC1, eC2, eC3, eC4, eC5, eC6, wantedE, ↓reduceIte, Nat.reduceEqDiff, Option.map_some, Option.map_none, reread, List.nil_append, List.cons_append, List.map_cons, List.map_nil, List.length_nil, List.length_cons, Value.cells, List.getElem?_cons_zero, List.getElem?_cons_succ, outE, lks, lkR, rdV, neg1, evs, opt, Nat.reduceAdd, Nat.reduceMul, and_self, reduceCtorEq, List.size_toArray, List.all_cons, List.all_nil, Value.oneCell', List.set_cons_zero, List.set_cons_succ, sets, fillL, Nat.reduceLeDiff, List.drop_succ_cons, List.drop_zero, List.take_succ_cons, List.take_zero, List.toList_toArray, argsE, Array.append_empty, Array.empty_append, List.getElem?_toArray, Int.reduceLT, Int.reduceLE, Int.reduceToNat, Int.reduceEq, Nat.reduceLT, r0, r1, r3, f1, dl, hb1, Int.toNat_natCast, g3', g4, de, dd, dg, undef_eq, tenV, rep7]
          refine onV_of a1 ?_
          simp only [↓eD0, ↓eD1, eC0, eC1, eC2, eC3, eC4, eC5, eC6, wantedE, ↓reduceIte, Nat.reduceEqDiff, Option.map_some, Option.map_none, reread, List.nil_append, List.cons_append, List.map_cons, List.map_nil, List.length_nil, List.length_cons, Value.cells, List.getElem?_cons_zero, List.getElem?_cons_succ, outE, lks, lkR, rdV, neg1, evs, opt, Nat.reduceAdd, Nat.reduceMul, and_self, reduceCtorEq, List.size_toArray, List.all_cons, List.all_nil, Value.oneCell', List.set_cons_zero, List.set_cons_succ, sets, fillL, Nat.reduceLeDiff, List.drop_succ_cons, List.drop_zero, List.take_succ_cons, List.take_zero, List.toList_toArray, argsE, Array.append_empty, Array.empty_append, List.getElem?_toArray, Int.reduceLT, Int.reduceLE, Int.reduceToNat, Int.reduceEq, Nat.reduceLT, a2, hw, dd, dd1]
          rw [hof]
          exact ⟨hlt, by omega, o2, a6, u0, u1, u2, hnp, _, _, a3, a4⟩
  · have : i = B.L.length := by omega
    subst this
    have dl : decide ((B.L.length:Int) < (B.L.length : Int)) = false := by simp
    have hnf : isF B.L t.m = false := by
      cases hf : isF B.L t.m
      · rfl
      · have := isF_lt hf; rw [hpl] at this; have := hfi hf; omega
    rw [hadm, hnf, if_neg (by simp)]
    -- the list is whole
    have whole : ∀ (ρ : H) (bs : Option Addr) (cp ver : Nat), Old σ ρ → ρ[σ.size]? = some (.cells 0 [.int .i64 B.st, .int .i64 B.pg, .slice base B.L.length cap] (0, 0)) → ρ[σ.size + 2]? = some (.cells 0 [.int .i64 0, .int .i64 0, .slice none 0 0, .int .i64 0] (0, 0)) →
        ρ[σ.size + 3]? = some (.cells ver [.int .i64 B.st, .int .i64 B.pg, .slice bs (putT B t).L.length cp] (0, 0)) → Grown (sized (σ.size + 4)) ρ 7 (.slice bs (putT B t).L.length cp) ((putT B t).L.map tenV).flatten (putT B t).L.length →
        (rdN ρ ⟨σ.size, 0, none⟩ 3 = some [.int .i64 B.st, .int .i64 B.pg, .slice base B.L.length cap] ∧ rdN ρ ⟨σ.size + 3, 0, none⟩ 3 = some [.int .i64 B.st, .int .i64 B.pg, .slice bs (putT B t).L.length cp]) ∧
        (∀ a b c d e f, wrN ρ ⟨σ.size + 2, 0, none⟩ [.int .i64 a, .int .i64 b, .slice c d e, .int .i64 f] = some (ρ.setIfInBounds (σ.size + 2) (.cells 1 [.int .i64 a, .int .i64 b, .slice c d e, .int .i64 f] (0, 0)))) ∧
        (∀ a b c d e f, rdN (ρ.setIfInBounds (σ.size + 2) (.cells 1 [.int .i64 a, .int .i64 b, .slice c d e, .int .i64 f] (0, 0))) ⟨σ.size + 2, 0, none⟩ 4 = some [.int .i64 a, .int .i64 b, .slice c d e, .int .i64 f]) ∧
        IsB ρ [.int .i64 B.st, .int .i64 B.pg, .slice bs (putT B t).L.length cp] (putT B t) ∧
        (∀ k, Old σ (ρ.setIfInBounds (σ.size + 2) k) ∧ IsB (ρ.setIfInBounds (σ.size + 2) k) (budV (putT B t) bs cp) (putT B t) ∧ Fresh σ.size (budV (putT B t) bs cp)) := by
      intro ρ bs cp ver oρ m0 m2 m3 gρ
      refine ⟨⟨rdN_all m0 rfl, rdN_all m3 rfl⟩, fun a b c d e f => ?_, fun a b c d e f => rdN_all (get_set m2) rfl, (flatten_isB gρ).1, fun k => ?_⟩
      · rw [wrN_eq, if_neg (by simp), m2, wrc_cells]; rfl
      · obtain ⟨x1, x2⟩ := flatten_isB (ρ := ρ.setIfInBounds (σ.size + 2) k) (X := putT B t) (gρ.set (by rw [sized_size]; omega))
        exact ⟨oρ.set (by omega), x1, fun c v hv hb => by have := x2 c v hv hb; omega⟩
    by_cases hpe : p < B.L.length
    · have dd : decide (p < B.L.length) = true := by rw [decide_eq_true]; exact hpe
      rw [oF_end hpl hpe] at hg
      obtain ⟨bs, cp, rfl⟩ := hg.slice
      obtain ⟨⟨y0, y3⟩, y2, yr, yB, yk⟩ := whole (ap τ []) bs cp ver (ho.trans .ap) ((ap_old z0).trans q0) ((ap_old z2).trans q2) ((ap_old z3).trans q3) (hg.old .ap)
      simp only [↓eD0, ↓eD1, eC0, eC1, eC2, eC3, eC4, eC5, eC6, wantedE, ↓reduceIte, Nat.reduceEqDiff, Option.map_some, Option.map_none, reread, List.nil_append, List.cons_append, List.map_cons, List.map_nil, List.length_nil, List.length_cons, Value.cells, List.getElem?_cons_zero, List.getElem?_cons_succ, outE, lks, lkR, rdV, neg1, evs, opt, Nat.reduceAdd, Nat.reduceMul, and_self, reduceCtorEq, List.size_toArray, List.all_cons, List.all_nil, Value.oneCell', List.set_cons_zero, List.set_cons_succ, sets, fillL, Nat.reduceLeDiff, List.drop_succ_cons, List.drop_zero, List.take_succ_cons, List.take_zero, List.toList_toArray, argsE, Array.append_empty, Array.empty_append, List.getElem?_toArray, Int.reduceLT, Int.reduceLE, Int.reduceToNat, Int.reduceEq, Nat.reduceLT, r0, dl, dd, y3]
      refine appK_of (rvalid_app yB) ?_
      rintro _ _ ⟨e2, rfl⟩
      rw [e2]
      clear e2
      cases hv : validF (putT B t)
      · rw [if_neg (by simp)]
        simp only [↓eD0, ↓eD1, eC0, eC1, eC2, eC3, eC4, eC5, eC6, wantedE, ↓reduceIte, Nat.reduceEqDiff, Option.map_some, Option.map_none, reread, List.nil_append, List.cons_append, List.map_cons, List.map_nil, List.length_nil, List.length_cons, Value.cells, List.getElem?_cons_zero, List.getElem?_cons_succ, outE, lks, lkR, rdV, neg1, evs, opt, Nat.reduceAdd, Nat.reduceMul, and_self, reduceCtorEq, List.size_toArray, List.all_cons, List.all_nil, Value.oneCell', List.set_cons_zero, List.set_cons_succ, sets, fillL, Nat.reduceLeDiff, List.drop_succ_cons, List.drop_zero, List.take_succ_cons, List.take_zero, List.toList_toArray, argsE, Array.append_empty, Array.empty_append, List.getElem?_toArray, Int.reduceLT, Int.reduceLE, Int.reduceToNat, Int.reduceEq, Nat.reduceLT, y0, y2, yr]
        exact ⟨(yk _).1, budV B base cap, rfl, hB.Old (yk _).1, .inl rfl⟩
      · rw [if_pos rfl]
        simp only [↓eD0, ↓eD1, eC0, eC1, eC2, eC3, eC4, eC5, eC6, wantedE, ↓reduceIte, Nat.reduceEqDiff, Option.map_some, Option.map_none, reread, List.nil_append, List.cons_append, List.map_cons, List.map_nil, List.length_nil, List.length_cons, Value.cells, List.getElem?_cons_zero, List.getElem?_cons_succ, outE, lks, lkR, rdV, neg1, evs, opt, Nat.reduceAdd, Nat.reduceMul, and_self, reduceCtorEq, List.size_toArray, List.all_cons, List.all_nil, Value.oneCell', List.set_cons_zero, List.set_cons_succ, sets, fillL, Nat.reduceLeDiff, List.drop_succ_cons, List.drop_zero, List.take_succ_cons, List.take_zero, List.toList_toArray, argsE, Array.append_empty, Array.empty_append, List.getElem?_toArray, Int.reduceLT, Int.reduceLE, Int.reduceToNat, Int.reduceEq, Nat.reduceLT, y3, y2, yr]
        exact ⟨(yk _).1, budV (putT B t) bs cp, rfl, (yk _).2.1, .inr (yk .dead).2.2⟩
    · have hpe : p = B.L.length := by omega
      have dd : decide (p < B.L.length) = false := by rw [decide_eq_false]; omega
      obtain ⟨bs, cp, τ', τ'', a1, a2, a3, a4, a5, a6, a7⟩ := push_step t (Nat.lt_succ_self (σ.size + 3)) hsz q3 hg (by omega)
      rw [oF_end' hpl hpe] at a1 a2 a3 a4
      obtain ⟨⟨y0, y3⟩, y2, yr, yB, yk⟩ := whole τ'' bs cp _ (a7 _ (by omega) ho) (a5 _ _ (by omega) (by omega) q0) (a5 _ _ (by omega) (by omega) q2) a3 a4
      simp only [↓eD0, ↓eD1, eC0, eC1, eC2, eC3, eC4, eC5, eC6, wantedE, ↓reduceIte, Nat.reduceEqDiff, Option.map_some, Option.map_none, reread, List.nil_append, List.cons_append, List.map_cons, List.map_nil, List.length_nil, List.length_cons, Value.cells, List.getElem?_cons_zero, List.getElem?_cons_succ, outE, lks, lkR, rdV, neg1, evs, opt, Nat.reduceAdd, Nat.reduceMul, and_self, reduceCtorEq, List.size_toArray, List.all_cons, List.all_nil, Value.oneCell', List.set_cons_zero, List.set_cons_succ, sets, fillL, Nat.reduceLeDiff, List.drop_succ_cons, List.drop_zero, List.take_succ_cons, List.take_zero, List.toList_toArray, argsE, Array.append_empty, Array.empty_append, List.getElem?_toArray, Int.reduceLT, Int.reduceLE, Int.reduceToNat, Int.reduceEq, Nat.reduceLT, r0, r3, f1, dl, dd, tenV, rep7]
      refine onV_of a1 ?_
      simp only [↓eD0, ↓eD1, eC0, eC1, eC2, eC3, eC4, eC5, eC6, wantedE, ↓reduceIte, Nat.reduceEqDiff, Option.map_some, Option.map_none, reread, List.nil_append, List.cons_append, List.map_cons, List.map_nil, List.length_nil, List.length_cons, Value.cells, List.getElem?_cons_zero, List.getElem?_cons_succ, outE, lks, lkR, rdV, neg1, evs, opt, Nat.reduceAdd, Nat.reduceMul, and_self, reduceCtorEq, List.size_toArray, List.all_cons, List.all_nil, Value.oneCell', List.set_cons_zero, List.set_cons_succ, sets, fillL, Nat.reduceLeDiff, List.drop_succ_cons, List.drop_zero, List.take_succ_cons, List.take_zero, List.toList_toArray, argsE, Array.append_empty, Array.empty_append, List.getElem?_toArray, Int.reduceLT, Int.reduceLE, Int.reduceToNat, Int.reduceEq, Nat.reduceLT, a2, y3]
      refine appK_of (rvalid_app yB) ?_
      rintro _ _ ⟨e2, rfl⟩
      rw [e2]
      clear e2
      cases hv : validF (putT B t)
      · rw [if_neg (by simp)]
        simp only [↓eD0, ↓eD1, eC0, eC1, eC2, eC3, eC4, eC5, eC6, wantedE, ↓reduceIte, Nat.reduceEqDiff, Option.map_some, Option.map_none, reread, List.nil_append, List.cons_append, List.map_cons, List.map_nil, List.length_nil, List.length_cons, Value.cells, List.getElem?_cons_zero, List.getElem?_cons_succ, outE, lks, lkR, rdV, neg1, evs, opt, Nat.reduceAdd, Nat.reduceMul, and_self, reduceCtorEq, List.size_toArray, List.all_cons, List.all_nil, Value.oneCell', List.set_cons_zero, List.set_cons_succ, sets, fillL, Nat.reduceLeDiff, List.drop_succ_cons, List.drop_zero, List.take_succ_cons, List.take_zero, List.toList_toArray, argsE, Array.append_empty, Array.empty_append, List.getElem?_toArray, Int.reduceLT, Int.reduceLE, Int.reduceToNat, Int.reduceEq, Nat.reduceLT, y0, y2, yr]
        exact ⟨(yk _).1, budV B base cap, rfl, hB.Old (yk _).1, .inl rfl⟩
      · rw [if_pos rfl]
        simp only [↓eD0, ↓eD1, eC0, eC1, eC2, eC3, eC4, eC5, eC6, wantedE, ↓reduceIte, Nat.reduceEqDiff, Option.map_some, Option.map_none, reread, List.nil_append, List.cons_append, List.map_cons, List.map_nil, List.length_nil, List.length_cons, Value.cells, List.getElem?_cons_zero, List.getElem?_cons_succ, outE, lks, lkR, rdV, neg1, evs, opt, Nat.reduceAdd, Nat.reduceMul, and_self, reduceCtorEq, List.size_toArray, List.all_cons, List.all_nil, Value.oneCell', List.set_cons_zero, List.set_cons_succ, sets, fillL, Nat.reduceLeDiff, List.drop_succ_cons, List.drop_zero, List.take_succ_cons, List.take_zero, List.toList_toArray, argsE, Array.append_empty, Array.empty_append, List.getElem?_toArray, Int.reduceLT, Int.reduceLE, Int.reduceToNat, Int.reduceEq, Nat.reduceLT, y3, y2, yr]
        exact ⟨(yk _).1, budV (putT B t) bs cp, rfl, (yk _).2.1, .inr (yk .dead).2.2⟩
end Go.Proofs.Ytimcgoghjebalaa

set_option linter.unusedSimpArgs false
set_option linter.unusedVariables false
set_option maxRecDepth 10000
set_option maxHeartbeats 1000000
namespace Go.Proofs.Ytimcgoghjebalaa
open Go Go.Cn Go.RowKit

theorem valid_admit {B : Bud} {t : Ten} (h : validF B = true) : validF (admitF B t).1 = true := by
  unfold admitF
  split
  · exact h
  · split
    · exact h
    · split
      · assumption
      · exact h
theorem valid_leave {B : Bud} {m : Int} (h : validF B = true) : validF (leaveF B m).1 = true := by
  unfold leaveF
  split
  · rename_i hi; exact valid_iff.2 (valid_cut (valid_iff.1 h) hi)
  · exact h
theorem admit_few {B : Bud} {t : Ten} (h : validF B = true) : (admitF B t).1.L.length ≤ 32 := (valid_iff.1 (valid_admit h)).few
theorem leave_few {B : Bud} {m : Int} (h : validF B = true) : (leaveF B m).1.L.length ≤ 32 := (valid_iff.1 (valid_leave h)).few

theorem law7 {σ : H} {l : List Value} {B : Bud} {t : Ten} {m : Int} (h : IsB σ l B) :
    App Try.prog (.func 7) #[] #[.agg l.toArray, .agg (tenV t).toArray, .int .i64 m] σ fun v σ' => Old σ σ' ∧ v = .bool true := by
  refine App.of_sem mixed Try.func7 t7 k7 r7 (Nat.le_of_ble_eq_true rfl) ?_
  have hB := h
  obtain ⟨base, cap, rfl, hr, hcap⟩ := h
  rw [← ap_nil (σ := σ)]
  unfold s7
  by_cases h40 : B.L.length ≤ 40
  case neg =>
    have d0 : decide ((40:Int) < (B.L.length:Int)) = true := by rw [decide_eq_true]; omega
    simp only [↓eD0, ↓eD1, eC0, eC1, eC2, eC3, eC4, eC5, eC6, wantedE, ↓reduceIte, Nat.reduceEqDiff, Option.map_some, Option.map_none, reread, List.nil_append, List.cons_append, List.map_cons, List.map_nil, List.length_nil, List.length_cons, Value.cells, List.getElem?_cons_zero, List.getElem?_cons_succ, outE, lks, lkR, rdV, neg1, evs, opt, Nat.reduceAdd, Nat.reduceMul, and_self, reduceCtorEq, List.size_toArray, List.all_cons, List.all_nil, Value.oneCell', List.set_cons_zero, List.set_cons_succ, sets, fillL, Nat.reduceLeDiff, List.drop_succ_cons, List.drop_zero, List.take_succ_cons, List.take_zero, List.toList_toArray, argsE, Array.append_empty, Array.empty_append, List.getElem?_toArray, Int.reduceLT, Int.reduceLE, Int.reduceToNat, Int.reduceEq, Nat.reduceLT, budV, tenV, d0]
    refine appK_of sanity_app ?_
    rintro _ _ ⟨e2, rfl⟩
    rw [e2]
    clear e2
    simp only [↓eD0, ↓eD1, eC0, eC1, eC2, eC3, eC4, eC5, eC6, wantedE, ↓reduceIte, Nat.reduceEqDiff, Option.map_some, Option.map_none, reread, List.nil_append, List.cons_append, List.map_cons, List.map_nil, List.length_nil, List.length_cons, Value.cells, List.getElem?_cons_zero, List.getElem?_cons_succ, outE, lks, lkR, rdV, neg1, evs, opt, Nat.reduceAdd, Nat.reduceMul, and_self, reduceCtorEq, List.size_toArray, List.all_cons, List.all_nil, Value.oneCell', List.set_cons_zero, List.set_cons_succ, sets, fillL, Nat.reduceLeDiff, List.drop_succ_cons, List.drop_zero, List.take_succ_cons, List.take_zero, List.toList_toArray, argsE, Array.append_empty, Array.empty_append, List.getElem?_toArray, Int.reduceLT, Int.reduceLE, Int.reduceToNat, Int.reduceEq, Nat.reduceLT]
    exact .ap
  have d0 : decide ((40:Int) < (B.L.length:Int)) = false := by rw [decide_eq_false]; omega
  simp only [↓eD0, ↓eD1, eC0, eC1, eC2, eC3, eC4, eC5, eC6, wantedE, ↓reduceIte, Nat.reduceEqDiff, Option.map_some, Option.map_none, reread, List.nil_append, List.cons_append, List.map_cons, List.map_nil, List.length_nil, List.length_cons, Value.cells, List.getElem?_cons_zero, List.getElem?_cons_succ, outE, lks, lkR, rdV, neg1, evs, opt, Nat.reduceAdd, Nat.reduceMul, and_self, reduceCtorEq, List.size_toArray, List.all_cons, List.all_nil, Value.oneCell', List.set_cons_zero, List.set_cons_succ, sets, fillL, Nat.reduceLeDiff, List.drop_succ_cons, List.drop_zero, List.take_succ_cons, List.take_zero, List.toList_toArray, argsE, Array.append_empty, Array.empty_append, List.getElem?_toArray, Int.reduceLT, Int.reduceLE, Int.reduceToNat, Int.reduceEq, Nat.reduceLT, budV, tenV, d0]
  refine appK_of (right_app (c := t.st)) ?_
  rintro _ _ ⟨e2, rfl⟩
  rw [e2]
  clear e2
  simp only [↓eD0, ↓eD1, eC0, eC1, eC2, eC3, eC4, eC5, eC6, wantedE, ↓reduceIte, Nat.reduceEqDiff, Option.map_some, Option.map_none, reread, List.nil_append, List.cons_append, List.map_cons, List.map_nil, List.length_nil, List.length_cons, Value.cells, List.getElem?_cons_zero, List.getElem?_cons_succ, outE, lks, lkR, rdV, neg1, evs, opt, Nat.reduceAdd, Nat.reduceMul, and_self, reduceCtorEq, List.size_toArray, List.all_cons, List.all_nil, Value.oneCell', List.set_cons_zero, List.set_cons_succ, sets, fillL, Nat.reduceLeDiff, List.drop_succ_cons, List.drop_zero, List.take_succ_cons, List.take_zero, List.toList_toArray, argsE, Array.append_empty, Array.empty_append, List.getElem?_toArray, Int.reduceLT, Int.reduceLE, Int.reduceToNat, Int.reduceEq, Nat.reduceLT, undef_eq]
  refine appK_of (rright_app (c := t.st)) ?_
  rintro _ _ ⟨e2, rfl⟩
  rw [e2]
  clear e2
  generalize decide t.st.Ok = q
  simp only [↓eD0, ↓eD1, eC0, eC1, eC2, eC3, eC4, eC5, eC6, wantedE, ↓reduceIte, Nat.reduceEqDiff, Option.map_some, Option.map_none, reread, List.nil_append, List.cons_append, List.map_cons, List.map_nil, List.length_nil, List.length_cons, Value.cells, List.getElem?_cons_zero, List.getElem?_cons_succ, outE, lks, lkR, rdV, neg1, evs, opt, Nat.reduceAdd, Nat.reduceMul, and_self, reduceCtorEq, List.size_toArray, List.all_cons, List.all_nil, Value.oneCell', List.set_cons_zero, List.set_cons_succ, sets, fillL, Nat.reduceLeDiff, List.drop_succ_cons, List.drop_zero, List.take_succ_cons, List.take_zero, List.toList_toArray, argsE, Array.append_empty, Array.empty_append, List.getElem?_toArray, Int.reduceLT, Int.reduceLE, Int.reduceToNat, Int.reduceEq, Nat.reduceLT, undef_eq]
  refine appK_of (valid_app (hB.Old .ap)) ?_
  rintro _ _ ⟨e2, rfl⟩
  rw [e2]
  clear e2
  simp only [↓eD0, ↓eD1, eC0, eC1, eC2, eC3, eC4, eC5, eC6, wantedE, ↓reduceIte, Nat.reduceEqDiff, Option.map_some, Option.map_none, reread, List.nil_append, List.cons_append, List.map_cons, List.map_nil, List.length_nil, List.length_cons, Value.cells, List.getElem?_cons_zero, List.getElem?_cons_succ, outE, lks, lkR, rdV, neg1, evs, opt, Nat.reduceAdd, Nat.reduceMul, and_self, reduceCtorEq, List.size_toArray, List.all_cons, List.all_nil, Value.oneCell', List.set_cons_zero, List.set_cons_succ, sets, fillL, Nat.reduceLeDiff, List.drop_succ_cons, List.drop_zero, List.take_succ_cons, List.take_zero, List.toList_toArray, argsE, Array.append_empty, Array.empty_append, List.getElem?_toArray, Int.reduceLT, Int.reduceLE, Int.reduceToNat, Int.reduceEq, Nat.reduceLT, undef_eq]
  refine appK_of (rvalid_app (hB.Old .ap)) ?_
  rintro _ _ ⟨e2, rfl⟩
  rw [e2]
  clear e2
  cases hv : validF B
  · simp only [↓eD0, ↓eD1, eC0, eC1, eC2, eC3, eC4, eC5, eC6, wantedE, ↓reduceIte, Nat.reduceEqDiff, Option.map_some, Option.map_none, reread, List.nil_append, List.cons_append, List.map_cons, List.map_nil, List.length_nil, List.length_cons, Value.cells, List.getElem?_cons_zero, List.getElem?_cons_succ, outE, lks, lkR, rdV, neg1, evs, opt, Nat.reduceAdd, Nat.reduceMul, and_self, reduceCtorEq, List.size_toArray, List.all_cons, List.all_nil, Value.oneCell', List.set_cons_zero, List.set_cons_succ, sets, fillL, Nat.reduceLeDiff, List.drop_succ_cons, List.drop_zero, List.take_succ_cons, List.take_zero, List.toList_toArray, argsE, Array.append_empty, Array.empty_append, List.getElem?_toArray, Int.reduceLT, Int.reduceLE, Int.reduceToNat, Int.reduceEq, Nat.reduceLT, undef_eq]
    refine appK_of (rvalid_app (hB.Old .ap)) ?_
    rintro _ _ ⟨e2, rfl⟩
    rw [e2, hv]
    clear e2
    simp only [↓eD0, ↓eD1, eC0, eC1, eC2, eC3, eC4, eC5, eC6, wantedE, ↓reduceIte, Nat.reduceEqDiff, Option.map_some, Option.map_none, reread, List.nil_append, List.cons_append, List.map_cons, List.map_nil, List.length_nil, List.length_cons, Value.cells, List.getElem?_cons_zero, List.getElem?_cons_succ, outE, lks, lkR, rdV, neg1, evs, opt, Nat.reduceAdd, Nat.reduceMul, and_self, reduceCtorEq, List.size_toArray, List.all_cons, List.all_nil, Value.oneCell', List.set_cons_zero, List.set_cons_succ, sets, fillL, Nat.reduceLeDiff, List.drop_succ_cons, List.drop_zero, List.take_succ_cons, List.take_zero, List.toList_toArray, argsE, Array.append_empty, Array.empty_append, List.getElem?_toArray, Int.reduceLT, Int.reduceLE, Int.reduceToNat, Int.reduceEq, Nat.reduceLT, undef_eq]
    refine appK_of sanity_app ?_
    rintro _ _ ⟨e2, rfl⟩
    rw [e2]
    clear e2
    simp only [↓eD0, ↓eD1, eC0, eC1, eC2, eC3, eC4, eC5, eC6, wantedE, ↓reduceIte, Nat.reduceEqDiff, Option.map_some, Option.map_none, reread, List.nil_append, List.cons_append, List.map_cons, List.map_nil, List.length_nil, List.length_cons, Value.cells, List.getElem?_cons_zero, List.getElem?_cons_succ, outE, lks, lkR, rdV, neg1, evs, opt, Nat.reduceAdd, Nat.reduceMul, and_self, reduceCtorEq, List.size_toArray, List.all_cons, List.all_nil, Value.oneCell', List.set_cons_zero, List.set_cons_succ, sets, fillL, Nat.reduceLeDiff, List.drop_succ_cons, List.drop_zero, List.take_succ_cons, List.take_zero, List.toList_toArray, argsE, Array.append_empty, Array.empty_append, List.getElem?_toArray, Int.reduceLT, Int.reduceLE, Int.reduceToNat, Int.reduceEq, Nat.reduceLT]
    exact .ap
  have hV := valid_iff.1 hv
  have hsrt := hV.srt
  simp only [↓eD0, ↓eD1, eC0, eC1, eC2, eC3, eC4, eC5, eC6, wantedE, ↓reduceIte, Nat.reduceEqDiff, Option.map_some, Option.map_none, reread, List.nil_append, List.cons_append, List.map_cons, List.map_nil, List.length_nil, List.length_cons, Value.cells, List.getElem?_cons_zero, List.getElem?_cons_succ, outE, lks, lkR, rdV, neg1, evs, opt, Nat.reduceAdd, Nat.reduceMul, and_self, reduceCtorEq, List.size_toArray, List.all_cons, List.all_nil, Value.oneCell', List.set_cons_zero, List.set_cons_succ, sets, fillL, Nat.reduceLeDiff, List.drop_succ_cons, List.drop_zero, List.take_succ_cons, List.take_zero, List.toList_toArray, argsE, Array.append_empty, Array.empty_append, List.getElem?_toArray, Int.reduceLT, Int.reduceLE, Int.reduceToNat, Int.reduceEq, Nat.reduceLT, undef_eq]
  refine appK_of (rvalid_app (hB.Old .ap)) ?_
  rintro _ _ ⟨e2, rfl⟩
  rw [e2, hv]
  clear e2
  simp only [↓eD0, ↓eD1, eC0, eC1, eC2, eC3, eC4, eC5, eC6, wantedE, ↓reduceIte, Nat.reduceEqDiff, Option.map_some, Option.map_none, reread, List.nil_append, List.cons_append, List.map_cons, List.map_nil, List.length_nil, List.length_cons, Value.cells, List.getElem?_cons_zero, List.getElem?_cons_succ, outE, lks, lkR, rdV, neg1, evs, opt, Nat.reduceAdd, Nat.reduceMul, and_self, reduceCtorEq, List.size_toArray, List.all_cons, List.all_nil, Value.oneCell', List.set_cons_zero, List.set_cons_succ, sets, fillL, Nat.reduceLeDiff, List.drop_succ_cons, List.drop_zero, List.take_succ_cons, List.take_zero, List.toList_toArray, argsE, Array.append_empty, Array.empty_append, List.getElem?_toArray, Int.reduceLT, Int.reduceLE, Int.reduceToNat, Int.reduceEq, Nat.reduceLT, undef_eq]
  generalize hT : ap σ [.cells 0 [.int .i64 B.st, .int .i64 B.pg, .slice base B.L.length cap] (0, 0), .cells 0 [.int .i64 t.m, .int .i64 t.st.r, .int .i64 t.st.l, .int .i64 t.st.s, .int .i64 t.pg.r, .int .i64 t.pg.l, .int .i64 t.pg.s] (0, 0)] = T
  have hoT : Old σ T := hT ▸ .ap
  have q0 : T[σ.size]? = some (.cells 0 [.int .i64 B.st, .int .i64 B.pg, .slice base B.L.length cap] (0, 0)) := by rw [← hT]; exact ap_new0
  have q1 : T[σ.size + 1]? = some (.cells 0 (tenV t) (0, 0)) := by rw [← hT]; exact ap_new
  have F0 : ∀ τ, Old T τ → rdN τ ⟨σ.size, 0, none⟩ 3 = some [.int .i64 B.st, .int .i64 B.pg, .slice base B.L.length cap] := fun τ ho => rdN_all ((ho.2 _ (Array.getElem?_eq_some_iff.1 q0).1).trans q0) rfl
  have F1 : ∀ τ, Old T τ → rdN τ ⟨σ.size + 1, 0, none⟩ 7 = some (tenV t) := fun τ ho => rdN_all ((ho.2 _ (Array.getElem?_eq_some_iff.1 q1).1).trans q1) rfl
  refine appK_of (admit_app (B := B) (t := t) (hB.Old hoT) hsrt (by omega)) ?_
  rintro _ τ1 ⟨ho1, lx, rfl, hx, _⟩
  obtain ⟨bx, cx, rfl, rx, kx⟩ := hx
  have hx : IsB τ1 (budV (admitF B t).1 bx cx) (admitF B t).1 := ⟨bx, cx, rfl, rx, kx⟩
  have f0 := fun L => F0 (ap τ1 L) (ho1.trans .ap)
  rw [← ap_nil (σ := τ1)]
  simp only [↓eD0, ↓eD1, eC0, eC1, eC2, eC3, eC4, eC5, eC6, wantedE, ↓reduceIte, Nat.reduceEqDiff, Option.map_some, Option.map_none, reread, List.nil_append, List.cons_append, List.map_cons, List.map_nil, List.length_nil, List.length_cons, Value.cells, List.getElem?_cons_zero, List.getElem?_cons_succ, outE, lks, lkR, rdV, neg1, evs, opt, Nat.reduceAdd, Nat.reduceMul, and_self, reduceCtorEq, List.size_toArray, List.all_cons, List.all_nil, Value.oneCell', List.set_cons_zero, List.set_cons_succ, sets, fillL, Nat.reduceLeDiff, List.drop_succ_cons, List.drop_zero, List.take_succ_cons, List.take_zero, List.toList_toArray, argsE, Array.append_empty, Array.empty_append, List.getElem?_toArray, Int.reduceLT, Int.reduceLE, Int.reduceToNat, Int.reduceEq, Nat.reduceLT, budV, f0]
  refine appK_of (leave_app (B := B) (m := m) (hB.Old (hoT.trans (ho1.trans .ap))) hsrt (by omega)) ?_
  rintro _ τ2 ⟨ho2, ly, rfl, hy, _⟩
  obtain ⟨b_y, cy, rfl, ry, ky⟩ := hy
  have hy : IsB τ2 (budV (leaveF B m).1 b_y cy) (leaveF B m).1 := ⟨b_y, cy, rfl, ry, ky⟩
  have ho12 : Old τ1 τ2 := Old.ap.trans ho2
  have px : τ2[τ1.size]? = some (.cells 1 (budV (admitF B t).1 bx cx) (0, 0)) := (ho2.2 _ (by simp [ap_size])).trans ap_new0
  have hoT2 : Old T τ2 := ho1.trans ho12
  have f0 := fun L => F0 (ap τ2 L) (hoT2.trans .ap)
  have f1 := fun L => F1 (ap τ2 L) (hoT2.trans .ap)
  rw [← ap_nil (σ := τ2)]
  simp only [↓eD0, ↓eD1, eC0, eC1, eC2, eC3, eC4, eC5, eC6, wantedE, ↓reduceIte, Nat.reduceEqDiff, Option.map_some, Option.map_none, reread, List.nil_append, List.cons_append, List.map_cons, List.map_nil, List.length_nil, List.length_cons, Value.cells, List.getElem?_cons_zero, List.getElem?_cons_succ, outE, lks, lkR, rdV, neg1, evs, opt, Nat.reduceAdd, Nat.reduceMul, and_self, reduceCtorEq, List.size_toArray, List.all_cons, List.all_nil, Value.oneCell', List.set_cons_zero, List.set_cons_succ, sets, fillL, Nat.reduceLeDiff, List.drop_succ_cons, List.drop_zero, List.take_succ_cons, List.take_zero, List.toList_toArray, argsE, Array.append_empty, Array.empty_append, List.getElem?_toArray, Int.reduceLT, Int.reduceLE, Int.reduceToNat, Int.reduceEq, Nat.reduceLT, budV, f0, f1, tenV]
  refine appK_of (radmit_app (B := B) (t := t) (hB.Old (hoT.trans (hoT2.trans .ap))) hsrt (by omega)) ?_
  rintro _ τ3 ⟨ho3, lo, rfl, ho, fo⟩
  obtain ⟨bo, co, rfl, ro, ko⟩ := ho
  have ho : IsB τ3 (budV (admitF B t).1 bo co) (admitF B t).1 := ⟨bo, co, rfl, ro, ko⟩
  have hoT3 : Old T τ3 := (hoT2.trans .ap).trans ho3
  have f0 := F0 τ3 hoT3
  simp only [↓eD0, ↓eD1, eC0, eC1, eC2, eC3, eC4, eC5, eC6, wantedE, ↓reduceIte, Nat.reduceEqDiff, Option.map_some, Option.map_none, reread, List.nil_append, List.cons_append, List.map_cons, List.map_nil, List.length_nil, List.length_cons, Value.cells, List.getElem?_cons_zero, List.getElem?_cons_succ, outE, lks, lkR, rdV, neg1, evs, opt, Nat.reduceAdd, Nat.reduceMul, and_self, reduceCtorEq, List.size_toArray, List.all_cons, List.all_nil, Value.oneCell', List.set_cons_zero, List.set_cons_succ, sets, fillL, Nat.reduceLeDiff, List.drop_succ_cons, List.drop_zero, List.take_succ_cons, List.take_zero, List.toList_toArray, argsE, Array.append_empty, Array.empty_append, List.getElem?_toArray, Int.reduceLT, Int.reduceLE, Int.reduceToNat, Int.reduceEq, Nat.reduceLT, f0, undef_eq]
  refine appK_of (rleave_app (B := B) (m := m) (hB.Old (hoT.trans hoT3)) hsrt (by omega)) ?_
  rintro _ τ4 ⟨ho4, lp, rfl, hp, fp⟩
  obtain ⟨bp, cp, rfl, rp, kp⟩ := hp
  have hp : IsB τ4 (budV (leaveF B m).1 bp cp) (leaveF B m).1 := ⟨bp, cp, rfl, rp, kp⟩
  rw [ap_size] at fo
  have hz3 : τ2.size + 3 ≤ τ3.size := by have := ho3.1; rwa [ap_size] at this
  have py : τ3[τ2.size]? = some (.cells 1 (budV (leaveF B m).1 b_y cy) (0, 0)) := (ho3.2 _ (by simp [ap_size])).trans ap_new0
  have p11 : τ3[τ2.size + 1]? = some (.cells 0 [.int .i64 0, .int .i64 0, .slice none 0 0, .int .i64 0] (0, 0)) := (ho3.2 _ (by simp [ap_size])).trans ap_new
  have p12 : τ3[τ2.size + 2]? = some (.cells 0 [.int .i64 0, .int .i64 0, .slice none 0 0, .int .i64 0] (0, 0)) := (ho3.2 _ (by simp [ap_size])).trans ap_new
  have r11 : τ4[τ2.size + 1]? = some (.cells 0 [.int .i64 0, .int .i64 0, .slice none 0 0, .int .i64 0] (0, 0)) := (ho4.2 _ (by omega)).trans p11
  have r12 : τ4[τ2.size + 2]? = some (.cells 0 [.int .i64 0, .int .i64 0, .slice none 0 0, .int .i64 0] (0, 0)) := (ho4.2 _ (by omega)).trans p12
  have w11 : ∀ a b c d e f, wrN τ4 ⟨τ2.size + 1, 0, none⟩ [.int .i64 a, .int .i64 b, .slice c d e, .int .i64 f] = some (τ4.setIfInBounds (τ2.size + 1) (.cells 1 [.int .i64 a, .int .i64 b, .slice c d e, .int .i64 f] (0, 0))) := fun a b c d e f => by
    rw [wrN_eq, if_neg (by simp), r11, wrc_cells]; rfl
  have w12 : ∀ k a b c d e f, wrN (τ4.setIfInBounds (τ2.size + 1) k) ⟨τ2.size + 2, 0, none⟩ [.int .i64 a, .int .i64 b, .slice c d e, .int .i64 f] = some ((τ4.setIfInBounds (τ2.size + 1) k).setIfInBounds (τ2.size + 2) (.cells 1 [.int .i64 a, .int .i64 b, .slice c d e, .int .i64 f] (0, 0))) := fun k a b c d e f => by
    rw [wrN_eq, if_neg (by simp), get_set_ne (by show τ2.size + 1 ≠ τ2.size + 2; omega), r12, wrc_cells]; rfl
  have hz2 := hoT2.1
  have hzT := hoT.1
  have old5 : ∀ k k', Old τ2 ((τ4.setIfInBounds (τ2.size + 1) k).setIfInBounds (τ2.size + 2) k') := fun k k' => (((Old.ap.trans ho3).trans ho4).set (by omega)).set (by omega)
  have hBo : ∀ k k', IsB ((τ4.setIfInBounds (τ2.size + 1) k).setIfInBounds (τ2.size + 2) k') (budV (admitF B t).1 bo co) (admitF B t).1 := fun k k' => by
    rcases fo with ⟨fo, fo2⟩ | fo
    · rw [fo, fo2]
      exact hB.Old ((hoT.trans hoT2).trans (old5 k k'))
    · refine isB_set (isB_set (ho.Old ho4) fun c v hv hb => ?_) fun c v hv hb => ?_
      · have := fo c v hv hb; simp at this; omega
      · have := fo c v hv hb; simp at this; omega
  have hBp : ∀ k k', IsB ((τ4.setIfInBounds (τ2.size + 1) k).setIfInBounds (τ2.size + 2) k') (budV (leaveF B m).1 bp cp) (leaveF B m).1 := fun k k' => by
    rcases fp with ⟨fp, fp2⟩ | fp
    · rw [fp, fp2]
      exact hB.Old ((hoT.trans hoT2).trans (old5 k k'))
    · refine isB_set (isB_set hp fun c v hv hb => ?_) fun c v hv hb => ?_
      · have := fp c v hv hb; omega
      · have := fp c v hv hb; omega
  have g11 : ∀ k k', ((τ4.setIfInBounds (τ2.size + 1) k).setIfInBounds (τ2.size + 2) k')[τ2.size + 1]? = some k := fun k k' => by
    rw [get_set_ne (by omega)]; exact get_set r11
  have g12 : ∀ k k', ((τ4.setIfInBounds (τ2.size + 1) k).setIfInBounds (τ2.size + 2) k')[τ2.size + 2]? = some k' := fun k k' =>
    get_set ((get_set_ne (by omega)).trans r12)
  have gy : ∀ k k', ((τ4.setIfInBounds (τ2.size + 1) k).setIfInBounds (τ2.size + 2) k')[τ2.size]? = some (.cells 1 (budV (leaveF B m).1 b_y cy) (0, 0)) := fun k k' => by
    rw [get_set_ne (by omega), get_set_ne (by omega)]
    exact (ho4.2 _ (by omega)).trans py
  simp only [↓eD0, ↓eD1, eC0, eC1, eC2, eC3, eC4, eC5, eC6, wantedE, ↓reduceIte, Nat.reduceEqDiff, Option.map_some, Option.map_none, reread, List.nil_append, List.cons_append, List.map_cons, List.map_nil, List.length_nil, List.length_cons, Value.cells, List.getElem?_cons_zero, List.getElem?_cons_succ, outE, lks, lkR, rdV, neg1, evs, opt, Nat.reduceAdd, Nat.reduceMul, and_self, reduceCtorEq, List.size_toArray, List.all_cons, List.all_nil, Value.oneCell', List.set_cons_zero, List.set_cons_succ, sets, fillL, Nat.reduceLeDiff, List.drop_succ_cons, List.drop_zero, List.take_succ_cons, List.take_zero, List.toList_toArray, argsE, Array.append_empty, Array.empty_append, List.getElem?_toArray, Int.reduceLT, Int.reduceLE, Int.reduceToNat, Int.reduceEq, Nat.reduceLT, budV, w11, w12]
  have O5 := old5 (.cells 1 [.int .i64 (admitF B t).1.st, .int .i64 (admitF B t).1.pg, .slice bo (admitF B t).1.L.length co, .int .i64 (admitF B t).2] (0, 0)) (.cells 1 [.int .i64 (leaveF B m).1.st, .int .i64 (leaveF B m).1.pg, .slice bp (leaveF B m).1.L.length cp, .int .i64 (leaveF B m).2] (0, 0))
  have HO := hBo (.cells 1 [.int .i64 (admitF B t).1.st, .int .i64 (admitF B t).1.pg, .slice bo (admitF B t).1.L.length co, .int .i64 (admitF B t).2] (0, 0)) (.cells 1 [.int .i64 (leaveF B m).1.st, .int .i64 (leaveF B m).1.pg, .slice bp (leaveF B m).1.L.length cp, .int .i64 (leaveF B m).2] (0, 0))
  have HP := hBp (.cells 1 [.int .i64 (admitF B t).1.st, .int .i64 (admitF B t).1.pg, .slice bo (admitF B t).1.L.length co, .int .i64 (admitF B t).2] (0, 0)) (.cells 1 [.int .i64 (leaveF B m).1.st, .int .i64 (leaveF B m).1.pg, .slice bp (leaveF B m).1.L.length cp, .int .i64 (leaveF B m).2] (0, 0))
  have G11 := g11 (.cells 1 [.int .i64 (admitF B t).1.st, .int .i64 (admitF B t).1.pg, .slice bo (admitF B t).1.L.length co, .int .i64 (admitF B t).2] (0, 0)) (.cells 1 [.int .i64 (leaveF B m).1.st, .int .i64 (leaveF B m).1.pg, .slice bp (leaveF B m).1.L.length cp, .int .i64 (leaveF B m).2] (0, 0))
  have G12 := g12 (.cells 1 [.int .i64 (admitF B t).1.st, .int .i64 (admitF B t).1.pg, .slice bo (admitF B t).1.L.length co, .int .i64 (admitF B t).2] (0, 0)) (.cells 1 [.int .i64 (leaveF B m).1.st, .int .i64 (leaveF B m).1.pg, .slice bp (leaveF B m).1.L.length cp, .int .i64 (leaveF B m).2] (0, 0))
  have GY := gy (.cells 1 [.int .i64 (admitF B t).1.st, .int .i64 (admitF B t).1.pg, .slice bo (admitF B t).1.L.length co, .int .i64 (admitF B t).2] (0, 0)) (.cells 1 [.int .i64 (leaveF B m).1.st, .int .i64 (leaveF B m).1.pg, .slice bp (leaveF B m).1.L.length cp, .int .i64 (leaveF B m).2] (0, 0))
  generalize (τ4.setIfInBounds (τ2.size + 1) (.cells 1 [.int .i64 (admitF B t).1.st, .int .i64 (admitF B t).1.pg, .slice bo (admitF B t).1.L.length co, .int .i64 (admitF B t).2] (0, 0))).setIfInBounds (τ2.size + 2) (.cells 1 [.int .i64 (leaveF B m).1.st, .int .i64 (leaveF B m).1.pg, .slice bp (leaveF B m).1.L.length cp, .int .i64 (leaveF B m).2] (0, 0)) = τ5 at O5 HO HP G11 G12 GY ⊢
  have GX := (O5.2 _ (Array.getElem?_eq_some_iff.1 px).1).trans px
  have hvx := valid_admit (t := t) hv
  have hvy := valid_leave (m := m) hv
  have hfx := admit_few (t := t) hv
  have hfy := leave_few (m := m) hv
  have hX5 := hx.Old (ho12.trans O5)
  have hY5 := hy.Old O5
  clear w11 w12 g11 g12 gy hBo hBp old5 r11 r12 p11 p12 ho hp hx hy
  generalize (admitF B t).1 = X at *
  generalize (admitF B t).2 = ex at *
  generalize (leaveF B m).1 = Y at *
  generalize (leaveF B m).2 = ey at *
  have es : ∀ x : Int, decide (x = x) = true := fun x => by simp
  have ux : ∀ L, rdN (ap τ5 L) ⟨τ1.size, 0, none⟩ 3 = some [.int .i64 X.st, .int .i64 X.pg, .slice bx X.L.length cx] := fun L => rdN_all ((ap_old (Array.getElem?_eq_some_iff.1 GX).1).trans GX) rfl
  have uy : ∀ L, rdN (ap τ5 L) ⟨τ2.size, 0, none⟩ 3 = some [.int .i64 Y.st, .int .i64 Y.pg, .slice b_y Y.L.length cy] := fun L => rdN_all ((ap_old (Array.getElem?_eq_some_iff.1 GY).1).trans GY) rfl
  have uo : ∀ L, rdN (ap τ5 L) ⟨τ2.size + 1, 0, none⟩ 3 = some [.int .i64 X.st, .int .i64 X.pg, .slice bo X.L.length co] := fun L => by rw [rdN_eq, if_neg (by omega), ap_old (Array.getElem?_eq_some_iff.1 G11).1, G11]; rfl
  have up : ∀ L, rdN (ap τ5 L) ⟨τ2.size + 2, 0, none⟩ 3 = some [.int .i64 Y.st, .int .i64 Y.pg, .slice bp Y.L.length cp] := fun L => by rw [rdN_eq, if_neg (by omega), ap_old (Array.getElem?_eq_some_iff.1 G12).1, G12]; rfl
  have vo : ∀ L, rd1 (ap τ5 L) ⟨τ2.size + 1, 3, none⟩ = some (.int .i64 ex) := fun L => by rw [rd1_eq, ap_old (Array.getElem?_eq_some_iff.1 G11).1, G11]; rfl
  have vp : ∀ L, rd1 (ap τ5 L) ⟨τ2.size + 2, 3, none⟩ = some (.int .i64 ey) := fun L => by rw [rd1_eq, ap_old (Array.getElem?_eq_some_iff.1 G12).1, G12]; rfl
  rw [← ap_nil (σ := τ5)]
  refine appK_of sanity_app ?_
  rintro _ _ ⟨e2, rfl⟩
  rw [e2]
  clear e2
  simp only [↓eD0, ↓eD1, eC0, eC1, eC2, eC3, eC4, eC5, eC6, wantedE, ↓reduceIte, Nat.reduceEqDiff, Option.map_some, Option.map_none, reread, List.nil_append, List.cons_append, List.map_cons, List.map_nil, List.length_nil, List.length_cons, Value.cells, List.getElem?_cons_zero, List.getElem?_cons_succ, outE, lks, lkR, rdV, neg1, evs, opt, Nat.reduceAdd, Nat.reduceMul, and_self, reduceCtorEq, List.size_toArray, List.all_cons, List.all_nil, Value.oneCell', List.set_cons_zero, List.set_cons_succ, sets, fillL, Nat.reduceLeDiff, List.drop_succ_cons, List.drop_zero, List.take_succ_cons, List.take_zero, List.toList_toArray, argsE, Array.append_empty, Array.empty_append, List.getElem?_toArray, Int.reduceLT, Int.reduceLE, Int.reduceToNat, Int.reduceEq, Nat.reduceLT, ux, uo, undef_eq]
  refine appK_of (same_app (B := X) (hX5.Old .ap) (HO.Old .ap) (by omega)) ?_
  rintro _ _ ⟨e2, rfl⟩
  rw [e2]
  clear e2
  simp only [↓eD0, ↓eD1, eC0, eC1, eC2, eC3, eC4, eC5, eC6, wantedE, ↓reduceIte, Nat.reduceEqDiff, Option.map_some, Option.map_none, reread, List.nil_append, List.cons_append, List.map_cons, List.map_nil, List.length_nil, List.length_cons, Value.cells, List.getElem?_cons_zero, List.getElem?_cons_succ, outE, lks, lkR, rdV, neg1, evs, opt, Nat.reduceAdd, Nat.reduceMul, and_self, reduceCtorEq, List.size_toArray, List.all_cons, List.all_nil, Value.oneCell', List.set_cons_zero, List.set_cons_succ, sets, fillL, Nat.reduceLeDiff, List.drop_succ_cons, List.drop_zero, List.take_succ_cons, List.take_zero, List.toList_toArray, argsE, Array.append_empty, Array.empty_append, List.getElem?_toArray, Int.reduceLT, Int.reduceLE, Int.reduceToNat, Int.reduceEq, Nat.reduceLT, vo, es, uy, up, undef_eq]
  refine appK_of (same_app (B := Y) (hY5.Old .ap) (HP.Old .ap) (by omega)) ?_
  rintro _ _ ⟨e2, rfl⟩
  rw [e2]
  clear e2
  simp only [↓eD0, ↓eD1, eC0, eC1, eC2, eC3, eC4, eC5, eC6, wantedE, ↓reduceIte, Nat.reduceEqDiff, Option.map_some, Option.map_none, reread, List.nil_append, List.cons_append, List.map_cons, List.map_nil, List.length_nil, List.length_cons, Value.cells, List.getElem?_cons_zero, List.getElem?_cons_succ, outE, lks, lkR, rdV, neg1, evs, opt, Nat.reduceAdd, Nat.reduceMul, and_self, reduceCtorEq, List.size_toArray, List.all_cons, List.all_nil, Value.oneCell', List.set_cons_zero, List.set_cons_succ, sets, fillL, Nat.reduceLeDiff, List.drop_succ_cons, List.drop_zero, List.take_succ_cons, List.take_zero, List.toList_toArray, argsE, Array.append_empty, Array.empty_append, List.getElem?_toArray, Int.reduceLT, Int.reduceLE, Int.reduceToNat, Int.reduceEq, Nat.reduceLT, vp, es, ux, undef_eq]
  refine appK_of (valid_app (B := X) (hX5.Old .ap)) ?_
  rintro _ _ ⟨e2, rfl⟩
  rw [e2, hvx]
  clear e2
  simp only [↓eD0, ↓eD1, eC0, eC1, eC2, eC3, eC4, eC5, eC6, wantedE, ↓reduceIte, Nat.reduceEqDiff, Option.map_some, Option.map_none, reread, List.nil_append, List.cons_append, List.map_cons, List.map_nil, List.length_nil, List.length_cons, Value.cells, List.getElem?_cons_zero, List.getElem?_cons_succ, outE, lks, lkR, rdV, neg1, evs, opt, Nat.reduceAdd, Nat.reduceMul, and_self, reduceCtorEq, List.size_toArray, List.all_cons, List.all_nil, Value.oneCell', List.set_cons_zero, List.set_cons_succ, sets, fillL, Nat.reduceLeDiff, List.drop_succ_cons, List.drop_zero, List.take_succ_cons, List.take_zero, List.toList_toArray, argsE, Array.append_empty, Array.empty_append, List.getElem?_toArray, Int.reduceLT, Int.reduceLE, Int.reduceToNat, Int.reduceEq, Nat.reduceLT, uy, undef_eq]
  refine appK_of (valid_app (B := Y) (hY5.Old .ap)) ?_
  rintro _ _ ⟨e2, rfl⟩
  rw [e2, hvy]
  clear e2
  simp only [↓eD0, ↓eD1, eC0, eC1, eC2, eC3, eC4, eC5, eC6, wantedE, ↓reduceIte, Nat.reduceEqDiff, Option.map_some, Option.map_none, reread, List.nil_append, List.cons_append, List.map_cons, List.map_nil, List.length_nil, List.length_cons, Value.cells, List.getElem?_cons_zero, List.getElem?_cons_succ, outE, lks, lkR, rdV, neg1, evs, opt, Nat.reduceAdd, Nat.reduceMul, and_self, reduceCtorEq, List.size_toArray, List.all_cons, List.all_nil, Value.oneCell', List.set_cons_zero, List.set_cons_succ, sets, fillL, Nat.reduceLeDiff, List.drop_succ_cons, List.drop_zero, List.take_succ_cons, List.take_zero, List.toList_toArray, argsE, Array.append_empty, Array.empty_append, List.getElem?_toArray, Int.reduceLT, Int.reduceLE, Int.reduceToNat, Int.reduceEq, Nat.reduceLT, undef_eq]
  exact ((hoT.trans hoT2).trans O5).trans .ap
end Go.Proofs.Ytimcgoghjebalaa
