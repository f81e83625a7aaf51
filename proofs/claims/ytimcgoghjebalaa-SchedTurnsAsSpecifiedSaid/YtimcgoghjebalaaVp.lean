/- Walks and plain laws. Conditions: none. -/
import Derived.Test.YtimcgoghjebalaaVn
set_option linter.all false
set_option linter.unusedSimpArgs false
set_option linter.unusedVariables false
set_option maxRecDepth 10000
set_option maxHeartbeats 1000000
namespace Go.Proofs.Ytimcgoghjebalaa
open Go Go.Cn Go.RowKit

/-! ### Maps from integers, with their number of entries -/
structure MapN (es : Array MapEntry) (f : Int → Option Value) (n : Nat) : Prop where
  m : IntMap es f
  nd : es.toList.Pairwise fun a b => a.key ≠ b.key
  n : es.size = n
theorem mapN_empty : MapN #[] (fun _ => none) 0 := ⟨intMap_empty, by simp, rfl⟩
theorem findK_shift {k : Value} : ∀ {es : List MapEntry} {j j' : Nat}, (findK k es j).map (Option.map Prod.snd) = (findK k es j').map (Option.map Prod.snd)
  | [], _, _ => rfl
  | e :: es, j, j' => by
    simp only [findK]
    split
    · rfl
    · exact findK_shift
    · rfl
theorem findK_absent {k : Int} : ∀ {es : List MapEntry} {j : Nat}, IntKeys es → (∀ e ∈ es, e.key ≠ .int .i64 k) → findK (.int .i64 k) es j = some none
  | [], _, _, _ => rfl
  | e :: es, j, h, ha => by
    obtain ⟨n, hn⟩ := h e (by simp)
    have hne : k ≠ n := fun h => ha e (by simp) (by rw [hn, h])
    simp only [findK, hn, leaf_int, hne, decide_false]
    exact findK_absent (fun x hx => h x (by simp [hx])) fun x hx => ha x (by simp [hx])
theorem absent_findK {k : Int} : ∀ {es : List MapEntry} {j : Nat}, IntKeys es → findK (.int .i64 k) es j = some none → ∀ e ∈ es, e.key ≠ .int .i64 k
  | [], _, _, _ => by simp
  | e :: es, j, h, ha => by
    obtain ⟨n, hn⟩ := h e (by simp)
    simp only [findK, hn, leaf_int] at ha
    by_cases hk : k = n
    · simp [hk] at ha
    · simp only [hk, decide_false] at ha
      have ih := absent_findK (fun x hx => h x (by simp [hx])) ha
      intro x hx
      rcases List.mem_cons.1 hx with rfl | hx
      · rw [hn]; intro he; injection he with _ he; exact hk he.symm
      · exact ih x hx
theorem findK_le {k : Value} : ∀ {es : List MapEntry} {j i : Nat} {w : Value}, findK k es j = some (some (i, w)) → j ≤ i ∧ i < j + es.length
  | [], _, _, _, h => by simp [findK] at h
  | e :: es, j, i, w, h => by
    simp only [findK] at h
    split at h
    · injection h with h; injection h with h; injection h with h _
      simp only [List.length_cons]; omega
    · have := findK_le h
      simp only [List.length_cons]; omega
    · cases h
theorem findK_erase {k k' : Int} {v0 : Value} : ∀ {es : List MapEntry} {j i : Nat}, IntKeys es → (es.Pairwise fun a b => a.key ≠ b.key) → findK (.int .i64 k) es j = some (some (j + i, v0)) →
    (findK (.int .i64 k') (es.eraseIdx i) j).map (Option.map Prod.snd) = if k' = k then some none else (findK (.int .i64 k') es j).map (Option.map Prod.snd)
  | [], _, _, _, _, h => by simp [findK] at h
  | e :: es, j, i, hk, hn, h => by
    obtain ⟨m, hm⟩ := hk e (by simp)
    have hk' : IntKeys es := fun x hx => hk x (by simp [hx])
    obtain ⟨hn1, hn2⟩ := List.pairwise_cons.1 hn
    simp only [findK, hm, leaf_int] at h
    by_cases hkm : k = m
    · simp only [hkm, decide_true, Option.some.injEq, Prod.mk.injEq] at h
      have : i = 0 := by omega
      subst this
      rw [List.eraseIdx_zero, List.tail_cons]
      by_cases h' : k' = k
      · rw [if_pos h', findK_absent hk']
        · rfl
        · intro x hx he
          exact hn1 x hx (by rw [hm, he, h', hkm])
      · rw [if_neg h']
        have h2 : ¬ k' = m := by omega
        simp only [findK, hm, leaf_int, h2, decide_false]
        exact findK_shift
    · simp only [hkm, decide_false] at h
      have hji := (findK_le h).1
      obtain ⟨i', rfl⟩ : ∃ i', i = i' + 1 := ⟨i - 1, by omega⟩
      have ih := findK_erase (k := k) (k' := k') (v0 := v0) (es := es) (j := j + 1) (i := i') hk' hn2 (by rw [h]; congr 3; omega)
      rw [List.eraseIdx_cons_succ]
      by_cases h' : k' = m
      · have : ¬ k' = k := by omega
        rw [if_neg this]
        simp only [findK, hm, leaf_int, h', decide_true]
      · simp only [findK, hm, leaf_int, h', decide_false]
        exact ih
theorem mapN_push {σ : H} {b ver clock : Nat} {es : Array MapEntry} {f : Int → Option Value} {n : Nat} {k : Int} {v : Value} (hm : MapN es f n) (hf : f k = none) (hb : σ[b]? = some (.map ver es clock)) :
    ∃ es' clock', mapPut (.int .i64) (.map (some b)) (.int .i64 k) v σ = some (σ.setIfInBounds b (.map (ver + 1) es' clock')) ∧ MapN es' (fun k' => if k' = k then some v else f k') (n + 1) := by
  obtain ⟨es', clock', h1, h2⟩ := map_put (k := k) (v := v) hm.m hb
  obtain ⟨r, g1, g2⟩ := hm.m.2 k
  rw [hf] at g2
  have fits : Leaf.fits (.int .i64) (.int .i64 k) = true := by simp [Leaf.fits]
  cases r with
  | some q => cases g2
  | none =>
    have h1' := h1
    simp only [mapPut, hb, fits, if_true, g1, Option.some.injEq] at h1'
    have hlt := (Array.getElem?_eq_some_iff.1 hb).1
    have he := congrArg (fun τ : H => τ[b]?) h1'
    simp only [Array.getElem?_setIfInBounds, hlt, if_true, Option.some.injEq, Blk.map.injEq] at he
    obtain ⟨_, he, _⟩ := he
    refine ⟨es', clock', h1, h2, ?_, ?_⟩
    · rw [← he, Array.toList_push, List.pairwise_append]
      refine ⟨hm.nd, by simp, fun a ha c hc => ?_⟩
      rw [List.mem_singleton] at hc
      rw [hc]
      exact absent_findK hm.m.1 g1 a ha
    · rw [← he, Array.size_push, hm.n]
theorem mapN_del {σ : H} {b ver clock : Nat} {es : Array MapEntry} {f : Int → Option Value} {n : Nat} {k : Int} {v : Value} (hm : MapN es f (n + 1)) (hf : f k = some v) (hb : σ[b]? = some (.map ver es clock)) :
    ∃ es', mapDel (.int .i64) (.map (some b)) (.int .i64 k) σ = some (σ.setIfInBounds b (.map (ver + 1) es' clock)) ∧ MapN es' (fun k' => if k' = k then none else f k') n := by
  obtain ⟨r, g1, g2⟩ := hm.m.2 k
  have fits : Leaf.fits (.int .i64) (.int .i64 k) = true := by simp [Leaf.fits]
  rw [hf] at g2
  cases r with
  | none => cases g2
  | some q =>
    obtain ⟨i, v0⟩ := q
    have hi := findK_le g1
    refine ⟨es.eraseIdxIfInBounds i, by simp only [mapDel, hb, fits, if_true, g1], ⟨?_, fun k' => ?_⟩, ?_, ?_⟩
    · intro e he
      rw [Array.toList_eraseIdxIfInBounds] at he
      exact hm.m.1 e (List.mem_of_mem_eraseIdx he)
    · obtain ⟨r', p1, p2⟩ := hm.m.2 k'
      have h := findK_erase (k := k) (k' := k') (v0 := v0) (j := 0) (i := i) hm.m.1 hm.nd (by rw [g1, Nat.zero_add])
      rw [Array.toList_eraseIdxIfInBounds]
      cases hx : findK (.int .i64 k') (es.toList.eraseIdx i) 0 with
      | none =>
        rw [hx, p1] at h
        split at h <;> cases h
      | some w =>
        refine ⟨w, rfl, ?_⟩
        rw [hx, p1] at h
        show _ = (if k' = k then none else f k')
        by_cases hkk : k' = k
        · rw [if_pos hkk] at h ⊢
          exact Option.some.inj h
        · rw [if_neg hkk] at h ⊢
          rw [← p2]
          exact Option.some.inj h
    · rw [Array.toList_eraseIdxIfInBounds]
      exact hm.nd.sublist (List.eraseIdx_sublist _ _)
    · rw [← Array.length_toList, Array.toList_eraseIdxIfInBounds, List.length_eraseIdx]
      have := hm.n
      rw [if_pos (by omega)]
      simp; omega

/-! ### The tenants by machine -/
def tenA (t : Ten) : Value := .agg (tenV t).toArray
def tenF (L : List Ten) (k : Int) : Option Value := (L.find? fun t => decide (t.m = k)).map tenA
theorem tenF_none {L : List Ten} {k : Int} (h : ∀ t ∈ L, t.m ≠ k) : tenF L k = none := by
  unfold tenF
  rw [List.find?_eq_none.2 fun t ht => by simpa using h t ht]
  rfl
theorem tenF_get {L : List Ten} (hs : Srt L) {i : Nat} (h : i < L.length) : tenF L L[i].m = some (tenA L[i]) := by
  unfold tenF
  have : (L.find? fun t => decide (t.m = L[i].m)) = some L[i] := by
    rw [List.find?_eq_some_iff_getElem]
    refine ⟨by simp, i, h, rfl, fun j hj => ?_⟩
    have := List.pairwise_iff_getElem.1 hs j i (by omega) h hj
    simp; omega
  rw [this]
  rfl
theorem tenF_mid {A C : List Ten} {t : Ten} (h : ∀ x ∈ A ++ C, x.m ≠ t.m) : tenF (A ++ [t] ++ C) = fun k => if k = t.m then some (tenA t) else tenF (A ++ C) k := by
  funext k
  unfold tenF
  by_cases hk : k = t.m
  · rw [if_pos hk]
    rw [List.append_assoc, List.find?_append, List.find?_eq_none.2 fun x hx => by simpa [hk] using h x (by simp [hx])]
    simp [hk]
  · rw [if_neg hk]
    have hk' : ¬ t.m = k := fun h => hk h.symm
    simp [List.find?_append, hk']
theorem not_isF {L : List Ten} {m : Int} (hs : Srt L) (h : isF L m = false) : ∀ x ∈ L, x.m ≠ m := by
  intro x hx he
  obtain ⟨i, hi, rfl⟩ := List.getElem_of_mem hx
  have := (eq_place hs hi).1 he
  rw [this.2] at h
  cases h
theorem tenF_put {B : Bud} {t : Ten} (hs : Srt B.L) (h : isF B.L t.m = false) : tenF (putT B t).L = fun k => if k = t.m then some (tenA t) else tenF B.L k := by
  have := tenF_mid (A := B.L.take (placeF B.L t.m)) (C := B.L.drop (placeF B.L t.m)) (t := t) (by rw [List.take_append_drop]; exact not_isF hs h)
  rw [List.take_append_drop] at this
  exact this
theorem tenF_take {L : List Ten} {i : Nat} (hs : Srt L) (h : i < L.length) : tenF (L.take (i + 1)) = fun k => if k = L[i].m then some (tenA L[i]) else tenF (L.take i) k := by
  have hne : ∀ x ∈ L.take i, x.m ≠ L[i].m := by
    intro x hx
    obtain ⟨j, hj, rfl⟩ := List.getElem_of_mem hx
    rw [List.getElem_take]
    have := List.pairwise_iff_getElem.1 hs j i (by simp at hj; omega) h (by simp at hj; omega)
    omega
  have := tenF_mid (A := L.take i) (C := []) (t := L[i]) (by simpa using hne)
  rw [List.append_nil, List.append_nil] at this
  rw [List.take_succ_eq_append_getElem h]
  exact this
theorem tenF_fresh {L : List Ten} {i : Nat} (hs : Srt L) (h : i < L.length) : tenF (L.take i) L[i].m = none := by
  refine tenF_none fun x hx => ?_
  obtain ⟨j, hj, rfl⟩ := List.getElem_of_mem hx
  rw [List.getElem_take]
  have := List.pairwise_iff_getElem.1 hs j i (by simp at hj; omega) h (by simp at hj; omega)
  omega
theorem tenF_cut {B : Bud} {m : Int} (hs : Srt B.L) (h : isF B.L m = true) : tenF (cutT B m).L = fun k => if k = m then none else tenF B.L k := by
  have hf := filter_srt (m := m) hs
  rw [if_pos h] at hf
  funext k
  unfold tenF
  have : (cutT B m).L = B.L.filter (fun t => !decide (t.m = m)) := hf.symm
  rw [this, List.find?_filter]
  by_cases hk : k = m
  · rw [if_pos hk, List.find?_eq_none.2 fun x hx => by simp [hk]]
    rfl
  · rw [if_neg hk]
    congr 2
    funext t
    by_cases ht : t.m = k
    · have : ¬ t.m = m := by omega
      simp [ht, this]; omega
    · simp [ht]
theorem isF_get {L : List Ten} {i : Nat} (hs : Srt L) (h : i < L.length) : isF L L[i].m = true := ((eq_place hs h).1 rfl).2
theorem admit_ok {B : Bud} {t : Ten} (h : (admitF B t).2 = 0) : (admitF B t).1 = putT B t ∧ isF B.L t.m = false := by
  unfold admitF at h ⊢
  split at h
  · simp at h
  · rename_i h1
    rw [if_neg h1]
    split at h
    · simp at h
    · rename_i h2
      rw [if_neg h2]
      split at h
      · rename_i h3
        rw [if_pos h3]
        exact ⟨rfl, by simpa using h2⟩
      · simp at h
theorem put_len {B : Bud} {t : Ten} : (putT B t).L.length = B.L.length + 1 := by
  have := place_le (L := B.L) (m := t.m)
  simp [putT]; omega
theorem leave_in {B : Bud} {i : Nat} (hs : Srt B.L) (h : i < B.L.length) : leaveF B B.L[i].m = (cutT B B.L[i].m, 0) := by
  unfold leaveF; rw [if_pos (isF_get hs h)]

/-! ### The demands of all tenants: their reservations -/
def dmd (t : Ten) : Por := ⟨t.m, t.st.r, 1073741824⟩
def dmds (B : Bud) : List Por := B.L.map dmd
theorem findP_dmds {B : Bud} (hs : Srt B.L) {i : Nat} (h : i < B.L.length) : findP (dmds B) B.L[i].m = dmd B.L[i] := by
  unfold findP dmds
  have : ((B.L.map dmd).find? fun p => decide (p.m = B.L[i].m)) = some (dmd B.L[i]) := by
    rw [List.find?_eq_some_iff_getElem]
    refine ⟨by simp [dmd], i, by simpa using h, by simp, fun j hj => ?_⟩
    have := List.pairwise_iff_getElem.1 hs j i (by omega) h hj
    simp [dmd]; omega
  rw [this]
  rfl
theorem clip_id {n : Int} (h : Amt n) : clip n = n := by
  have := h.1
  have := h.2
  unfold clip mx mn
  split <;> split <;> omega
theorem ep_stays {B : Bud} (hV : ValidB B) {i : Nat} (h : i < B.L.length) (h1 : i < (epX B (dmds B)).length) (h2 : i < (epY B (dmds B)).length) :
    (epX B (dmds B))[i] = B.L[i].st.r ∧ B.L[i].pg.r ≤ (epY B (dmds B))[i] := by
  have hf1 := filled_st (l := dmds B) hV
  have hf2 := filled_pg (l := dmds B) hV
  have ok1 := claims_ok hf1.ok hf1.am
  have ok2 := claims_ok hf2.ok hf2.am
  have L1 := level_ok hf1.le
  have L2 := level_ok hf2.le
  have l1 := claims_len hf1.len
  have l2 := claims_len hf2.len
  simp only [List.length_map] at l1 l2
  have g1 := fill_get ok1 L1 (i := i) (by omega) h1
  have g2 := fill_get ok2 L2 (i := i) (by omega) h2
  have hfp := findP_dmds hV.srt h
  have ha := (hV.all B.L[i] (by simp)).2
  obtain ⟨⟨a1, a2, a3, _⟩, b1, b2, b3, _⟩ := ha
  have e1 : (claimsF (B.L.map ctSt) (B.L.map (stD (dmds B))))[i]'(by omega) = ⟨B.L[i].st.r, B.L[i].st.r, B.L[i].st.s⟩ := by
    simp only [claimsF, List.getElem_zipWith, List.getElem_map, stD, hfp, ctSt, clF, dmd]
    rw [clip_id ⟨a1, by omega⟩]
    congr 1
    · unfold mn; split <;> omega
    · unfold mn; split <;> omega
  have e2 : (claimsF (B.L.map ctPg) (B.L.map (pgD (dmds B))))[i]'(by omega) = ⟨B.L[i].pg.r, B.L[i].pg.l, B.L[i].pg.s⟩ := by
    simp only [claimsF, List.getElem_zipWith, List.getElem_map, pgD, hfp, ctPg, clF, dmd]
    rw [clip_id ⟨by omega, by omega⟩]
    congr 1
    · unfold mn; split <;> omega
    · unfold mn; split <;> omega
  rw [e1] at g1
  rw [e2] at g2
  obtain ⟨_, _, g3, g4⟩ := g1
  obtain ⟨_, _, g5, _⟩ := g2
  exact ⟨Int.le_antisymm g4 g3, g5⟩
end Go.Proofs.Ytimcgoghjebalaa

set_option linter.unusedSimpArgs false
set_option linter.unusedVariables false
set_option maxRecDepth 10000
set_option maxHeartbeats 1000000
namespace Go.Proofs.Ytimcgoghjebalaa
open Go Go.Cn Go.RowKit

theorem isB_clear {σ : H} {base : Option Addr} {cap : Nat} {B : Bud} (h : IsB σ (budV B base cap) B) (hne : B.L ≠ []) {c : Nat} (hc : baseOf (.slice base B.L.length cap) = some c) : c < σ.size := by
  obtain ⟨b', c', h1, ⟨b2, c2, h2, h3⟩, _⟩ := h
  have hl : 0 < B.L.length := List.length_pos_iff.2 hne
  obtain ⟨b, off, h4, h5⟩ := h3 0 (tenV B.L[0]) (by simp [hl])
  have e1 : b' = base := by
    have := congrArg (fun l : List Value => l[2]?) h1
    simp [budV] at this
    exact this.1.symm
  subst e1
  have e2 : b' = b2 := by injection h2
  subst e2
  subst h4
  have : c = b := by injection hc with hc; exact hc.symm
  subst this
  rw [rdN_eq, if_neg (by omega)] at h5
  simp only at h5
  refine Nat.lt_of_not_le fun hle => ?_
  rw [Array.getElem?_eq_none hle] at h5
  cases h5

/-- A budget in a box, and the map of its tenants behind it. -/
structure St (σ τ : H) (C : Bud) (base : Option Addr) (cap : Nat) : Prop where
  old : Old σ τ
  sz : σ.size + 2 ≤ τ.size
  box : ∃ ver, τ[σ.size]? = some (.cells ver (budV C base cap) (0, 0))
  isb : IsB τ (budV C base cap) C
  clr : C.L ≠ [] → ∀ c, baseOf (.slice base C.L.length cap) = some c → c < σ.size ∨ σ.size + 2 ≤ c
  val : ValidB C
  map : ∃ ver es clock, τ[σ.size + 1]? = some (.map ver es clock) ∧ MapN es (tenF C.L) C.L.length
theorem St.Old' {σ τ τ' : H} {C : Bud} {base : Option Addr} {cap : Nat} (h : St σ τ C base cap) (ho : Old τ τ') : St σ τ' C base cap := by
  obtain ⟨h1, h2, ⟨v, h3⟩, h4, h5, h6, v2, es, cl, h7, h8⟩ := h
  exact ⟨h1.trans ho, Nat.le_trans h2 ho.1, ⟨v, (ho.2 _ (by omega)).trans h3⟩, h4.Old ho, h5, h6, v2, es, cl, (ho.2 _ (by omega)).trans h7, h8⟩
theorem St.upd {σ τ1 : H} {D : Bud} {bs : Option Addr} {cp ver : Nat} {x : List Value} {k : Blk} (ho : Old σ τ1) (hsz : σ.size + 2 ≤ τ1.size) (hbox : τ1[σ.size]? = some (.cells ver x (0, 0))) (hx : x.length = 3) (hd : IsB τ1 (budV D bs cp) D) (hV : ValidB D)
    (hf : ∀ c, baseOf (.slice bs D.L.length cp) = some c → σ.size + 2 ≤ c) (hk : ∃ ver es clock, k = .map ver es clock ∧ MapN es (tenF D.L) D.L.length) (hmap : ∃ k0, τ1[σ.size + 1]? = some k0) :
    ∃ τ3, wrN (τ1.setIfInBounds (σ.size + 1) k) ⟨σ.size, 0, none⟩ (budV D bs cp) = some τ3 ∧ St σ τ3 D bs cp := by
  obtain ⟨v2, es, cl, rfl, hm⟩ := hk
  obtain ⟨k0, hmap⟩ := hmap
  have hb2 : (τ1.setIfInBounds (σ.size + 1) (.map v2 es cl))[σ.size]? = some (.cells ver x (0, 0)) := (get_set_ne (by omega)).trans hbox
  have hl2 : (budV D bs cp).length = 3 := rfl
  have hw : wrN (τ1.setIfInBounds (σ.size + 1) (.map v2 es cl)) ⟨σ.size, 0, none⟩ (budV D bs cp) = some ((τ1.setIfInBounds (σ.size + 1) (.map v2 es cl)).setIfInBounds σ.size (.cells (ver + 1) (budV D bs cp) (0, 0))) := by
    rw [wrN_eq, if_neg (by simp [budV]), hb2, wrc_cells, if_pos ⟨by simp [hl2, hx], by simp [budV, Value.oneCell']⟩]
    have : sets x 0 (budV D bs cp) = budV D bs cp := by
      match x, hx with
      | [a, b, c], _ => rfl
    rw [this]
    rfl
  refine ⟨_, hw, ⟨(ho.set (by omega)).set (Nat.le_refl _), by simpa using hsz, ⟨ver + 1, get_set hb2⟩, ?_, fun _ c hc => .inr (hf c hc), hV, v2, es, cl, ?_, hm⟩⟩
  · refine isB_set (isB_set hd fun c v hv hb => ?_) fun c v hv hb => ?_
    · injection hv with hv; subst hv; have := hf c hb; omega
    · injection hv with hv; subst hv; have := hf c hb; omega
  · rw [get_set_ne (by omega)]
    exact get_set hmap
theorem St.admit {σ τ τ1 : H} {C : Bud} {base : Option Addr} {cap : Nat} {t : Ten} {bs : Option Addr} {cp : Nat} (h : St σ τ C base cap) (ho : Old τ τ1) (hc : (admitF C t).2 = 0) (hd : IsB τ1 (budV (admitF C t).1 bs cp) (admitF C t).1)
    (hf : ∀ c, baseOf (.slice bs (admitF C t).1.L.length cp) = some c → τ.size ≤ c) :
    ∃ τ2 τ3, mapPut (.int .i64) (.map (some (σ.size + 1))) (.int .i64 t.m) (.agg #[.int .i64 t.m, .int .i64 t.st.r, .int .i64 t.st.l, .int .i64 t.st.s, .int .i64 t.pg.r, .int .i64 t.pg.l, .int .i64 t.pg.s]) τ1 = some τ2 ∧
      wrN τ2 ⟨σ.size, 0, none⟩ (budV (admitF C t).1 bs cp) = some τ3 ∧ St σ τ3 (admitF C t).1 bs cp ∧ (∀ c k, c ≠ σ.size + 1 → τ1[c]? = some k → τ2[c]? = some k) ∧ (∀ c k, c ≠ σ.size + 1 → c ≠ σ.size → τ1[c]? = some k → τ3[c]? = some k) := by
  have h1 := h.Old' ho
  obtain ⟨o1, o2, ⟨v, o3⟩, o4, o5, o6, v2, es, cl, o7, o8⟩ := h1
  obtain ⟨e1, e2⟩ := admit_ok hc
  have hput := tenF_put (B := C) (t := t) o6.srt e2
  obtain ⟨es', cl', p1, p2⟩ := mapN_push (k := t.m) (v := tenA t) o8 (tenF_none (not_isF o6.srt e2)) o7
  have hV : ValidB (admitF C t).1 := valid_iff.1 (valid_admit (valid_iff.2 o6))
  have hmn : MapN es' (tenF (admitF C t).1.L) (admitF C t).1.L.length := by
    rw [e1, hput, put_len]; exact p2
  obtain ⟨τ3, q1, q2⟩ := St.upd (k := .map (v2 + 1) es' cl') o1 o2 o3 rfl hd hV (fun c hc => by have := hf c hc; have := h.sz; omega) ⟨_, _, _, rfl, hmn⟩ ⟨_, o7⟩
  refine ⟨_, τ3, p1, q1, q2, fun c k hc hk => (get_set_ne (Ne.symm hc)).trans hk, fun c k hc hc2 hk => ?_⟩
  rw [wrN_eq, if_neg (by simp [budV])] at q1
  cases hx : wrc (τ1.setIfInBounds (σ.size + 1) (.map (v2 + 1) es' cl'))[σ.size]? 0 (budV (admitF C t).1 bs cp) with
  | none => simp only [hx] at q1; cases q1
  | some k' =>
    simp only [hx, Option.map_some, Option.some.injEq] at q1
    rw [← q1, get_set_ne (Ne.symm hc2), get_set_ne (Ne.symm hc)]
    exact hk
theorem St.leave {σ τ τ1 : H} {C : Bud} {base : Option Addr} {cap : Nat} {bs : Option Addr} {cp i : Nat} (h : St σ τ C base cap) (ho : Old τ τ1) (hi : i < C.L.length) (hd : IsB τ1 (budV (cutT C C.L[i].m) bs cp) (cutT C C.L[i].m))
    (hf : ∀ c, baseOf (.slice bs (cutT C C.L[i].m).L.length cp) = some c → τ.size ≤ c) :
    ∃ τ2 τ3, mapDel (.int .i64) (.map (some (σ.size + 1))) (.int .i64 C.L[i].m) τ1 = some τ2 ∧
      wrN τ2 ⟨σ.size, 0, none⟩ (budV (cutT C C.L[i].m) bs cp) = some τ3 ∧ St σ τ3 (cutT C C.L[i].m) bs cp ∧ (∀ c k, c ≠ σ.size + 1 → τ1[c]? = some k → τ2[c]? = some k) := by
  have h1 := h.Old' ho
  obtain ⟨o1, o2, ⟨v, o3⟩, o4, o5, o6, v2, es, cl, o7, o8⟩ := h1
  have hisF := isF_get o6.srt hi
  have hcl := cut_len hisF
  obtain ⟨n, hn⟩ : ∃ n, C.L.length = n + 1 := ⟨C.L.length - 1, by omega⟩
  rw [hn] at o8
  obtain ⟨es', p1, p2⟩ := mapN_del (k := C.L[i].m) o8 (tenF_get o6.srt hi) o7
  have hV := valid_cut o6 hisF
  have hmn : MapN es' (tenF (cutT C C.L[i].m).L) (cutT C C.L[i].m).L.length := by
    rw [tenF_cut o6.srt hisF, hcl, hn]; exact p2
  obtain ⟨τ3, q1, q2⟩ := St.upd (k := .map (v2 + 1) es' cl) o1 o2 o3 rfl hd hV (fun c hc => by have := hf c hc; have := h.sz; omega) ⟨_, _, _, rfl, hmn⟩ ⟨_, o7⟩
  exact ⟨_, τ3, p1, q1, q2, fun c k hc hk => (get_set_ne (Ne.symm hc)).trans hk⟩
end Go.Proofs.Ytimcgoghjebalaa
