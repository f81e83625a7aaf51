/- Walks and plain laws. Conditions: none. -/
import Derived.Test.YtimcgoghjebalaaVr
set_option linter.all false
set_option linter.unusedSimpArgs false
set_option linter.unusedVariables false
set_option maxRecDepth 10000
set_option maxHeartbeats 1000000
namespace Go.Proofs.Ytimcgoghjebalaa
open Go Go.Cn Go.RowKit

/-! ### What is left to each machine, turn after turn -/
def stF (L : List Por) (k : Int) : Option Int := (L.find? fun p => decide (p.m = k)).map Por.st
def updF (F : Int → Option Int) (x : Trn) (k : Int) : Option Int := if k = x.m then some ((F x.m).getD 0 - x.n) else F k
def Dis (L : List Por) : Prop := L.Pairwise fun a b => a.m ≠ b.m
/-- The turns that are still to come, from what is left, and the machine that had the last turn. -/
def Good (F : Int → Option Int) (pre : Option Int) : List Trn → Prop
  | [] => ∀ k v, F k = some v → v = 0
  | x :: T => (pre = some x.m → ∀ k v, k ≠ x.m → F k = some v → v ≤ 0) ∧ (∃ v, F x.m = some v ∧ 0 ≤ x.n ∧ x.n ≤ v ∧ v ≤ 1073741824) ∧ Good (updF F x) (some x.m) T

theorem stF_mem {L : List Por} (hd : Dis L) {p : Por} (hp : p ∈ L) : stF L p.m = some p.st := by
  unfold stF
  obtain ⟨i, h, rfl⟩ := List.getElem_of_mem hp
  have : (L.find? fun p => decide (p.m = L[i].m)) = some L[i] := by
    rw [List.find?_eq_some_iff_getElem]
    refine ⟨by simp, i, h, rfl, fun j hj => ?_⟩
    have := List.pairwise_iff_getElem.1 hd j i (by omega) h hj
    simpa using this
  rw [this]
  rfl
theorem stF_some {L : List Por} {k v : Int} (h : stF L k = some v) : ∃ p ∈ L, p.m = k ∧ p.st = v := by
  unfold stF at h
  cases hf : L.find? fun p => decide (p.m = k) with
  | none => rw [hf] at h; cases h
  | some p =>
    rw [hf] at h
    injection h with h
    exact ⟨p, List.mem_of_find?_eq_some hf, by simpa using List.find?_some hf, h⟩
theorem stF_mid {A B : List Por} {p : Por} {st : Int} (hd : Dis (A ++ p :: B)) : stF (A ++ ⟨p.m, st, p.pg⟩ :: B) = fun k => if k = p.m then some st else stF (A ++ p :: B) k := by
  funext k
  unfold stF
  have hA : ∀ a ∈ A, a.m ≠ p.m := fun a ha => (List.pairwise_append.1 hd).2.2 a ha p (by simp)
  by_cases hk : k = p.m
  · rw [if_pos hk, List.find?_append, List.find?_eq_none.2 fun a ha => by simpa [hk] using hA a ha]
    simp [hk]
  · rw [if_neg hk]
    have : ¬ p.m = k := fun h => hk h.symm
    simp [List.find?_append, this]
theorem dis_step {q : Int} {A B : List Por} {p : Por} : Dis (A.map (stepP q) ++ p :: B) ↔ Dis (A ++ p :: B) := by
  unfold Dis
  simp only [List.pairwise_append, List.pairwise_map, List.mem_map, List.pairwise_cons, List.mem_cons]
  constructor
  · rintro ⟨h1, h2, h3⟩
    exact ⟨h1, h2, fun a ha b hb => h3 (stepP q a) ⟨a, ha, rfl⟩ b hb⟩
  · rintro ⟨h1, h2, h3⟩
    refine ⟨h1, h2, fun a ha b hb => ?_⟩
    obtain ⟨a0, ha0, rfl⟩ := ha
    exact h3 a0 ha0 b hb
theorem dis_round {q : Int} {L : List Por} (h : Dis L) : Dis (roundL q L) := by
  unfold Dis roundL
  rw [List.pairwise_map]
  exact h

/-- A round is done: what it began with was A ++ B, and A has had its turns. -/
theorem good_part {q : Int} (hq : 1 ≤ q) {T' : List Trn} : ∀ (B A : List Por) (pre : Option Int), Dis (A ++ B) → (∀ p ∈ A ++ B, 0 ≤ p.st ∧ p.st ≤ 1073741824) →
    (∀ m, pre = some m → (∃ A1 p A2, A = A1 ++ p :: A2 ∧ p.m = m ∧ ∀ a ∈ A2, a.st = 0) ∨ ((∀ a ∈ A, a.st = 0) ∧ ∀ A' p B', A ++ B = A' ++ p :: B' → p.m = m → ∀ b ∈ B', b.st = 0)) →
    (∀ pre', (∀ m, pre' = some m → ∀ A' p B', roundL q (A ++ B) = A' ++ p :: B' → p.m = m → ∀ b ∈ B', b.st = 0) → Good (stF (roundL q (A ++ B))) pre' T') →
    Good (stF (A.map (stepP q) ++ B)) pre (roundO q B ++ T')
  | [], A, pre, hd, hs, hp, hT => by
    simp only [List.append_nil] at hd hs hp hT ⊢
    refine hT pre fun m hm A' p B' he hpm b hb => ?_
    have z0 : ∀ a : Por, 0 ≤ a.st → a.st = 0 → (stepP q a).st = 0 := fun a h0 ha => by
      have := step_st hq h0
      omega
    unfold roundL at he
    obtain ⟨X, Y, rfl, rfl, hY⟩ := List.map_eq_append_iff.1 he
    obtain ⟨p0, Z, rfl, rfl, rfl⟩ := List.map_eq_cons_iff.1 hY
    obtain ⟨b0, hb0, rfl⟩ := List.mem_map.1 hb
    have hb0s := (hs b0 (by simp [hb0])).1
    refine z0 b0 hb0s ?_
    rcases hp m hm with ⟨A1, p1, A2, h1, h2, h3⟩ | ⟨h1, _⟩
    · have hpp : p0.m = p1.m := by rw [h2]; exact hpm
      -- the two cuts are one
      have hlen : X.length = A1.length := by
        have g1 : (X ++ p0 :: Z)[X.length]? = some p0 := by simp
        have g2 : (X ++ p0 :: Z)[A1.length]? = some p1 := by rw [h1]; simp
        obtain ⟨l1, e1⟩ := List.getElem?_eq_some_iff.1 g1
        obtain ⟨l2, e2⟩ := List.getElem?_eq_some_iff.1 g2
        rcases Nat.lt_trichotomy X.length A1.length with h | h | h
        · exact absurd (by rw [e1, e2]; exact hpp) (List.pairwise_iff_getElem.1 hd _ _ l1 l2 h)
        · exact h
        · exact absurd (by rw [e1, e2]; exact hpp.symm) (List.pairwise_iff_getElem.1 hd _ _ l2 l1 h)
      have := List.append_inj h1 hlen
      have h4 := this.2
      injection h4 with h4 h5
      exact h3 b0 (h5 ▸ hb0)
    · exact h1 b0 (by simp [hb0])
  | p :: B, A, pre, hd, hs, hp, hT => by
    have e1 : A ++ p :: B = (A ++ [p]) ++ B := by simp
    have hps := hs p (by simp)
    have hmn := mn_le p.st q
    have hmid : (A ++ [p]).map (stepP q) ++ B = A.map (stepP q) ++ stepP q p :: B := by simp
    have hro : roundO q (p :: B) = emitP q p ++ roundO q B := by simp [roundO]
    rw [hro]
    by_cases hz : mn p.st q = 0
    · have hst : p.st = 0 := by omega
      have hsp : stepP q p = p := by unfold stepP; rw [hz, Int.sub_zero]
      rw [emitP, if_pos hz, List.nil_append]
      have := good_part hq B (A ++ [p]) pre (by rwa [← e1]) (by rwa [← e1]) (fun m hm => ?_) (by rwa [← e1])
      · rwa [hmid, hsp] at this
      · rcases hp m hm with ⟨A1, p1, A2, h1, h2, h3⟩ | ⟨h1, h2⟩
        · refine .inl ⟨A1, p1, A2 ++ [p], by rw [h1]; simp, h2, fun a ha => ?_⟩
          rcases List.mem_append.1 ha with ha | ha
          · exact h3 a ha
          · rw [List.mem_singleton] at ha; rw [ha]; exact hst
        · refine .inr ⟨fun a ha => ?_, by rw [← e1]; exact h2⟩
          rcases List.mem_append.1 ha with ha | ha
          · exact h1 a ha
          · rw [List.mem_singleton] at ha; rw [ha]; exact hst
    · rw [emitP, if_neg hz]
      have hd2 : Dis (A.map (stepP q) ++ p :: B) := dis_step.2 hd
      have hF : stF (A.map (stepP q) ++ p :: B) p.m = some p.st := stF_mem hd2 (by simp)
      refine ⟨fun hpre k v hk hv => ?_, ⟨p.st, hF, ?_, ?_, hps.2⟩, ?_⟩
      · rcases hp p.m hpre with ⟨A1, p1, A2, h1, h2, h3⟩ | ⟨h1, h2⟩
        · exact absurd h2 ((List.pairwise_append.1 hd).2.2 p1 (by rw [h1]; simp) p (by simp))
        · obtain ⟨p', hp', hm', hv'⟩ := stF_some hv
          rcases List.mem_append.1 hp' with hp' | hp'
          · obtain ⟨a, ha, rfl⟩ := List.mem_map.1 hp'
            have := h1 a ha
            have := step_st hq (hs a (by simp [ha])).1
            omega
          · rcases List.mem_cons.1 hp' with rfl | hp'
            · exact absurd hm'.symm hk
            · have := h2 A p B rfl rfl p' hp'
              omega
      · show 0 ≤ mn p.st q; omega
      · show mn p.st q ≤ p.st; omega
      · have hupd : updF (stF (A.map (stepP q) ++ p :: B)) ⟨p.m, mn p.st q⟩ = stF ((A ++ [p]).map (stepP q) ++ B) := by
          rw [hmid]
          have hm2 : stF (A.map (stepP q) ++ stepP q p :: B) = _ := stF_mid (st := p.st - mn p.st q) hd2
          rw [hm2]
          funext k
          show (if k = p.m then some (((stF (A.map (stepP q) ++ p :: B)) p.m).getD 0 - mn p.st q) else stF (A.map (stepP q) ++ p :: B) k) = _
          rw [hF]
          rfl
        show Good (updF (stF (A.map (stepP q) ++ p :: B)) ⟨p.m, mn p.st q⟩) (some p.m) (roundO q B ++ T')
        rw [hupd]
        refine good_part hq B (A ++ [p]) (some p.m) (by rwa [← e1]) (by rwa [← e1]) (fun m hm => ?_) (by rwa [← e1])
        injection hm with hm
        exact .inl ⟨A, p, [], rfl, hm, by simp⟩
theorem good_turns {q : Int} (hq : 1 ≤ q) : ∀ (f : Nat) (L : List Por) (pre : Option Int), Dis L → (∀ p ∈ L, 0 ≤ p.st ∧ p.st ≤ 1073741824) → cnt q L < f →
    (∀ m, pre = some m → ∀ A' p B', L = A' ++ p :: B' → p.m = m → ∀ b ∈ B', b.st = 0) → Good (stF L) pre (turnsG q f L [])
  | 0, _, _, _, _, h, _ => by omega
  | f + 1, L, pre, hd, hs, hf, hp => by
    have hs0 : ∀ p ∈ L, 0 ≤ p.st := fun p hp => (hs p hp).1
    have hcr := cnt_round hq hs0
    have hO : ∀ (f : Nat) (L : List Por) (O : List Trn), turnsG q f L O = O ++ turnsG q f L [] := by
      intro f
      induction f with
      | zero => intro L O; simp [turnsG]
      | succ f ih =>
        intro L O
        simp only [turnsG]
        split
        · simp
        · rw [ih _ (O ++ roundO q L), ih _ ([] ++ roundO q L)]; simp
    rw [turnsG]
    split
    · rename_i hemp
      have hnil : roundO q L = [] := by simpa using hemp
      intro k v hv
      obtain ⟨p, hp, _, rfl⟩ := stF_some hv
      have : emitP q p = [] := by
        unfold roundO at hnil
        exact List.flatMap_eq_nil_iff.1 hnil p hp
      have hmn := mn_le p.st q
      have h9 := hs p (by assumption)
      unfold emitP at this
      split at this
      · omega
      · cases this
    · rename_i hemp
      have hne : roundO q L ≠ [] := by simpa using hemp
      have hpos : 0 < (roundO q L).length := List.length_pos_iff.2 hne
      rw [hO, List.nil_append]
      have := good_part (T' := turnsG q f (roundL q L) []) hq L [] pre (by simpa using hd) (by simpa using hs) (fun m hm => .inr ⟨by simp, by simpa using hp m hm⟩) (fun pre' hp' => ?_)
      · simpa using this
      · simp only [List.nil_append] at hp' ⊢
        refine good_turns hq f (roundL q L) pre' (dis_round hd) (fun p hpm => ?_) (by omega) hp'
        obtain ⟨p0, hp0, rfl⟩ := List.mem_map.1 hpm
        have h1 := hs p0 hp0
        have := step_st hq h1.1
        omega
theorem good_all {q : Int} (hq : 1 ≤ q) {L : List Por} (hd : Dis L) (hs : ∀ p ∈ L, 0 ≤ p.st ∧ p.st ≤ 1073741824) : Good (stF L) none (turnsF q L) :=
  good_turns hq _ L none hd hs (Nat.lt_succ_self _) fun m hm => by cases hm
end Go.Proofs.Ytimcgoghjebalaa

set_option linter.unusedSimpArgs false
set_option linter.unusedVariables false
set_option maxRecDepth 10000
set_option maxHeartbeats 1000000
namespace Go.Proofs.Ytimcgoghjebalaa
open Go Go.Cn Go.RowKit

/-! ### Maps that are ranged over -/
structure MapB (es : Array MapEntry) (clock : Nat) (f : Int → Option Value) : Prop where
  m : IntMap es f
  nd : es.toList.Pairwise fun a b => a.key ≠ b.key
  born : ∀ e ∈ es.toList, e.born < clock
theorem mapB_empty : MapB #[] 0 fun _ => none := ⟨intMap_empty, by simp, by simp⟩
theorem findK_mem {k : Int} : ∀ {es : List MapEntry} {j : Nat} {e : MapEntry}, IntKeys es → (es.Pairwise fun a b => a.key ≠ b.key) → e ∈ es → e.key = .int .i64 k → ∃ i, findK (.int .i64 k) es j = some (some (i, e.val))
  | [], _, _, _, _, h, _ => by simp at h
  | x :: es, j, e, hk, hn, he, hek => by
    obtain ⟨n, hx⟩ := hk x (by simp)
    obtain ⟨h1, h2⟩ := List.pairwise_cons.1 hn
    rcases List.mem_cons.1 he with rfl | he
    · exact ⟨j, by simp [findK, hek, leaf_int]⟩
    · have hne : ¬ k = n := fun h => h1 e he (by rw [hx, hek, h])
      obtain ⟨i, hi⟩ := findK_mem (k := k) (es := es) (j := j + 1) (fun y hy => hk y (by simp [hy])) h2 he hek
      exact ⟨i, by simp only [findK, hx, leaf_int, hne, decide_false]; exact hi⟩
theorem MapB.at {es : Array MapEntry} {clock : Nat} {f : Int → Option Value} (h : MapB es clock f) {e : MapEntry} (he : e ∈ es.toList) : ∃ k, e.key = .int .i64 k ∧ f k = some e.val := by
  obtain ⟨k, hk⟩ := h.m.1 e he
  obtain ⟨i, hi⟩ := findK_mem (j := 0) h.m.1 h.nd he hk
  obtain ⟨r, h1, h2⟩ := h.m.2 k
  rw [hi] at h1
  injection h1 with h1
  subst h1
  exact ⟨k, hk, h2.symm⟩
theorem findK_key {k : Int} : ∀ {es : List MapEntry} {j i : Nat} {v : Value}, IntKeys es → findK (.int .i64 k) es j = some (some (j + i, v)) → ∃ e, es[i]? = some e ∧ e.key = .int .i64 k
  | [], _, _, _, _, h => by simp [findK] at h
  | x :: es, j, i, v, hk, h => by
    obtain ⟨n, hx⟩ := hk x (by simp)
    simp only [findK, hx, leaf_int] at h
    by_cases hkn : k = n
    · simp only [hkn, decide_true, Option.some.injEq, Prod.mk.injEq] at h
      have : i = 0 := by omega
      subst this
      exact ⟨x, rfl, by rw [hx, hkn]⟩
    · simp only [hkn, decide_false] at h
      have hji := (findK_le h).1
      obtain ⟨i', rfl⟩ : ∃ i', i = i' + 1 := ⟨i - 1, by omega⟩
      obtain ⟨e, h1, h2⟩ := findK_key (es := es) (j := j + 1) (i := i') (v := v) (fun y hy => hk y (by simp [hy])) (by rw [h]; congr 3; omega)
      exact ⟨e, by simpa using h1, h2⟩
theorem mapB_put {σ : H} {b ver clock : Nat} {es : Array MapEntry} {f : Int → Option Value} {k : Int} {v : Value} (hm : MapB es clock f) (hb : σ[b]? = some (.map ver es clock)) :
    ∃ es' clock', mapPut (.int .i64) (.map (some b)) (.int .i64 k) v σ = some (σ.setIfInBounds b (.map (ver + 1) es' clock')) ∧ MapB es' clock' fun k' => if k' = k then some v else f k' := by
  obtain ⟨es', clock', h1, h2⟩ := map_put (k := k) (v := v) hm.m hb
  obtain ⟨r, g1, g2⟩ := hm.m.2 k
  have fits : Leaf.fits (.int .i64) (.int .i64 k) = true := by simp [Leaf.fits]
  have hlt := (Array.getElem?_eq_some_iff.1 hb).1
  have h1' := h1
  suffices h : (es'.toList.Pairwise fun a b => a.key ≠ b.key) ∧ ∀ e ∈ es'.toList, e.born < clock' from ⟨es', clock', h1, h2, h.1, h.2⟩
  cases r with
  | none =>
    simp only [mapPut, hb, fits, if_true, g1, Option.some.injEq] at h1'
    have he := congrArg (fun τ : H => τ[b]?) h1'
    simp only [Array.getElem?_setIfInBounds, hlt, if_true, Option.some.injEq, Blk.map.injEq] at he
    obtain ⟨_, he, hc⟩ := he
    rw [← he, ← hc]
    constructor
    · rw [Array.toList_push, List.pairwise_append]
      refine ⟨hm.nd, by simp, fun a ha c hc => ?_⟩
      rw [List.mem_singleton] at hc
      rw [hc]
      exact absent_findK hm.m.1 g1 a ha
    · intro e he
      rw [Array.toList_push] at he
      rcases List.mem_append.1 he with he | he
      · have := hm.born e he; omega
      · rw [List.mem_singleton] at he; rw [he]; exact Nat.lt_succ_self _
  | some q =>
    obtain ⟨i, v0⟩ := q
    obtain ⟨e0, k1, k2⟩ := findK_key (j := 0) (i := i) hm.m.1 (by rw [Nat.zero_add]; exact g1)
    simp only [mapPut, hb, fits, if_true, g1, Option.some.injEq] at h1'
    have he := congrArg (fun τ : H => τ[b]?) h1'
    simp only [Array.getElem?_setIfInBounds, hlt, if_true, Option.some.injEq, Blk.map.injEq] at he
    obtain ⟨_, he, hc⟩ := he
    rw [← he, ← hc, Array.toList_modify]
    have hkeys : ∀ (l : List MapEntry) (i : Nat), (∃ e0, l[i]? = some e0 ∧ e0.key = .int .i64 k) → (l.modify i fun e => { e with key := .int .i64 k, val := v }).map MapEntry.key = l.map MapEntry.key := by
      intro l
      induction l with
      | nil => intro i ⟨e0, h, _⟩; simp at h
      | cons x l ih =>
        intro i ⟨e0, h, hk⟩
        cases i with
        | zero => simp at h; subst h; simp [hk]
        | succ i => simp only [List.modify_succ_cons, List.map_cons]; rw [ih i ⟨e0, by simpa using h, hk⟩]
    have hborn : ∀ (l : List MapEntry) (i : Nat), (l.modify i fun e => { e with key := .int .i64 k, val := v }).map MapEntry.born = l.map MapEntry.born := by
      intro l
      induction l with
      | nil => intro i; simp
      | cons x l ih =>
        intro i
        cases i with
        | zero => simp
        | succ i => simp only [List.modify_succ_cons, List.map_cons]; rw [ih i]
    constructor
    · have h3 : ((es.toList.modify i fun e => { e with key := .int .i64 k, val := v }).map MapEntry.key).Pairwise (· ≠ ·) := by
        rw [hkeys _ _ ⟨e0, k1, k2⟩, List.pairwise_map]; exact hm.nd
      rwa [List.pairwise_map] at h3
    · intro e he
      have : e.born ∈ (es.toList.modify i fun e => { e with key := .int .i64 k, val := v }).map MapEntry.born := List.mem_map.2 ⟨e, he, rfl⟩
      rw [hborn] at this
      obtain ⟨e1, h5, h6⟩ := List.mem_map.1 this
      rw [← h6]
      exact hm.born e1 h5
theorem left_lt {es : Array MapEntry} {seen : Array Nat} {e : MapEntry} (he : e ∈ (leftV es seen).toList) : e ∈ es.toList ∧ (leftV es (seen.push e.born)).size < (leftV es seen).size := by
  have h0 : e ∈ es ∧ ¬ e.born ∈ seen := by simpa [leftV] using he
  refine ⟨by simpa using h0.1, ?_⟩
  have e1 : (leftV es (seen.push e.born)).toList = (leftV es seen).toList.filter fun x => !decide (x.born = e.born) := by
    unfold leftV
    rw [Array.toList_filter, Array.toList_filter, List.filter_filter]
    congr 1
    funext x
    by_cases h1 : x.born ∈ seen <;> by_cases h2 : x.born = e.born <;> simp [h1, h2]
  rw [← Array.length_toList, e1, ← Array.length_toList, List.length_filter_lt_length_iff_exists]
  exact ⟨e, he, by simp⟩
/-- A step of a loop over a map. -/
theorem next_step {σ : H} {r ver b since stepped ver2 clock : Nat} {seen : Array Nat} {es : Array MapEntry} (h1 : σ[r]? = some (.miter ver (some b) since seen stepped)) (h2 : σ[b]? = some (.map ver2 es clock)) (hb : ∀ e ∈ es.toList, e.born < since) (hs : since ≤ stepped) :
    ∃ l, nextV (.pointer (some ⟨r, 0, none⟩)) σ = some l ∧ ∀ x ∈ l, x = (.tuple #[.bool false], σ) ∨ ∃ e ∈ es.toList, (leftV es (seen.push e.born)).size < (leftV es seen).size ∧ x = (.tuple #[.bool true, e.key, e.val], σ.setIfInBounds r (.miter (ver + 1) (some b) since (seen.push e.born) clock)) := by
  simp only [nextV, h1, h2]
  rw [if_pos ⟨hb, hs⟩]
  by_cases h0 : (leftV es seen).size = 0
  · exact ⟨_, if_pos h0, fun x hx => .inl (List.mem_singleton.1 hx)⟩
  · refine ⟨_, if_neg h0, fun x hx => .inr ?_⟩
    obtain ⟨e, he, rfl⟩ := List.mem_map.1 hx
    obtain ⟨g1, g2⟩ := left_lt he
    exact ⟨e, g1, g2, rfl⟩
theorem entry_step {σ : H} {r ver b since ver2 clock n : Nat} {seen : Array Nat} {es : Array MapEntry} {e : MapEntry} (h1 : σ[r]? = some (.miter ver (some b) since (seen.push n) clock)) (h2 : σ[b]? = some (.map ver2 es clock)) (he : e ∈ es.toList) (hn : e.born = n) :
    ∃ e' ∈ es.toList, entryV (.pointer (some ⟨r, 0, none⟩)) σ = some (.tuple #[e'.key, e'.val]) := by
  simp only [entryV, h1, h2, Array.back?_push, if_true]
  cases hf : es.toList.find? (·.born == n) with
  | none =>
    have := List.find?_eq_none.1 hf e he
    simp [hn] at this
  | some e' => exact ⟨e', List.mem_of_find?_eq_some hf, rfl⟩
theorem range_step {σ : H} {b ver clock : Nat} {es : Array MapEntry} (h : σ[b]? = some (.map ver es clock)) : rangeV (.map (some b)) σ = some (.pointer (some ⟨σ.size, 0, none⟩), σ.push (.miter 0 (some b) clock #[] clock)) := by
  simp only [rangeV, h]
theorem map_get2 {σ : H} {b ver clock : Nat} {es : Array MapEntry} {f : Int → Option Value} {k : Int} {z : Value} (hm : IntMap es f) (hb : σ[b]? = some (.map ver es clock)) :
    lookupV (.int .i64) z true (.map (some b)) (.int .i64 k) σ = some (.tuple #[(f k).getD z, .bool (f k).isSome]) := by
  obtain ⟨r, h1, h2⟩ := hm.2 k
  have fits : Leaf.fits (.int .i64) (.int .i64 k) = true := by simp [Leaf.fits]
  simp only [lookupV, mapOf, hb, fits, if_true, h1]
  cases r with
  | none => rw [← h2]; rfl
  | some q => rw [← h2]; rfl
end Go.Proofs.Ytimcgoghjebalaa
