/- Walks and plain laws. Conditions: none. -/
import Derived.Test.YtljmjkpmkpchoaaDoorWm
set_option linter.all false
set_option linter.unusedSimpArgs false
namespace Go.Proofs.YtljmjkpmkpchoaaDoor
open Go Go.Cn Go.RowKit

/-- The steps of entries. -/
def stepsF : List Ent → Int
  | [] => 0
  | e :: E => (if e.kind = 1 then e.n else 0) + stepsF E
theorem steps_app' {A B : List Ent} : stepsF (A ++ B) = stepsF A + stepsF B := by
  induction A with
  | nil => simp [stepsF]
  | cons x A ih => rw [List.cons_append, stepsF, stepsF, ih]; omega
theorem steps_bounds : ∀ {E : List Ent}, Sized E → 0 ≤ stepsF E ∧ stepsF E ≤ (E.length : Int) * 1099511627776
  | [], _ => by simp [stepsF]
  | e :: E, h => by
    have ih := steps_bounds (E := E) fun x hx => h x (List.mem_cons_of_mem _ hx)
    have h1 := h e (by simp)
    rw [stepsF, List.length_cons]
    split
    · have := h1 (by assumption); omega
    · omega
theorem steps_take {E : List Ent} {i : Nat} (h : i < E.length) : stepsF (E.take (i + 1)) = stepsF (E.take i) + (if E[i].kind = 1 then E[i].n else 0) := by
  rw [List.take_succ_eq_append_getElem h, steps_app', stepsF, stepsF]; omega
theorem steps_mono {E : List Ent} (h : Sized E) {i k : Nat} (hik : i ≤ k) : stepsF (E.take i) ≤ stepsF (E.take k) := by
  have : E.take k = E.take i ++ (E.take k).drop i := by
    have := (List.take_append_drop i (E.take k)).symm
    rwa [List.take_take, Nat.min_eq_left hik] at this
  rw [this, steps_app']
  have := (steps_bounds (E := (E.take k).drop i) fun x hx => h x (List.mem_of_mem_take (List.mem_of_mem_drop hx))).1
  omega

theorem filt_keep {α : Type} {p : Nat → α → Bool} : ∀ {l : List α} {n : Nat}, (∀ k x, n ≤ k → k < n + l.length → p k x = true) → ((l.zipIdx n).filter fun q => p q.2 q.1).map (·.1) = l
  | [], n, _ => rfl
  | x :: l, n, h => by
    rw [List.zipIdx_cons, List.filter_cons, if_pos (h n x (by omega) (by simp)), List.map_cons, filt_keep (l := l) (n := n + 1) fun k y h1 h2 => h k y (by omega) (by simp; omega)]
theorem filt_erase {E : List Ent} {i : Nat} (hi : i < E.length) : filt (fun k _ => !decide ((k : Int) = (i : Int))) E = E.take i ++ E.drop (i + 1) := by
  unfold filt
  conv => lhs; rw [← List.take_append_drop i E, List.drop_eq_getElem_cons hi]
  rw [List.zipIdx_append, List.filter_append, List.map_append, List.zipIdx_cons, List.filter_cons]
  rw [filt_keep (p := fun k _ => !decide ((k : Int) = (i : Int))) (fun k x _ h => by simp at h ⊢; omega)]
  have hl : (E.take i).length = i := by simp; omega
  rw [if_neg (by simp [hl]), filt_keep (p := fun k _ => !decide ((k : Int) = (i : Int))) (fun k x h _ => by simp [hl] at h ⊢; omega)]
theorem filt_const {α : Type} {p : α → Bool} : ∀ {l : List α} {n : Nat}, ((l.zipIdx n).filter fun q => p q.1).map (·.1) = l.filter p
  | [], n => rfl
  | x :: l, n => by
    rw [List.zipIdx_cons, List.filter_cons, List.filter_cons]
    split
    · rw [List.map_cons, filt_const]
    · rw [filt_const]

theorem chkS_mono {n : Nat} {S : List Sea} {e e' : Int} (h : chkS n S e = true) (he : e' ≤ e) : chkS n S e' = true := by
  cases S with
  | nil => rfl
  | cons s r =>
    rw [chkS] at h ⊢
    split at h
    · cases h
    · rw [if_neg (by omega)]; exact h
theorem chkS_filter {n m : Nat} {i : Int} (hm : i ≤ m) : ∀ {S : List Sea} {e : Int}, chkS n S e = true → chkS m (S.filter fun s => decide (s.end_ ≤ i)) e = true
  | [], _, _ => rfl
  | s :: r, e, h => by
    rw [chkS] at h
    split at h
    · cases h
    · have ih := chkS_filter hm (S := r) h
      rw [List.filter_cons]
      split
      · rename_i h1
        have h1 : s.end_ ≤ i := by simpa using h1
        rw [chkS, if_neg (by omega)]
        exact ih
      · exact chkS_mono ih (by omega)
theorem chkD_filter {A D : Lg} {i : Nat} (hd : D.d = A.d) (hc : D.c = A.c) (hE : ∀ n, n ≤ i → D.E.take n = A.E.take n) : ∀ {S : List Sea}, chkD A S = true → chkD D (S.filter fun s => decide (s.end_ ≤ (i : Int))) = true
  | [], _ => rfl
  | s :: r, h => by
    rw [chkD] at h
    split at h
    · rename_i h1
      have ih := chkD_filter hd hc hE (S := r) h
      rw [List.filter_cons]
      split
      · rename_i h2
        have h2 : s.end_ ≤ (i : Int) := by simpa using h2
        rw [chkD, if_pos]
        · exact ih
        · rw [h1]
          unfold chainF
          rw [hE _ (by omega), hd, hc]
      · exact ih
    · cases h
theorem chkE_of {L : Lg} : ∀ {f k : Nat}, k + f = L.E.length → (∀ j, ∀ hj : j < L.E.length, rightF L.E[j] L.c = true ∧ L.E[j].count = countF (L.E.take j) L.E[j].cpu) → chkE L f k = true
  | 0, _, _, _ => rfl
  | f + 1, k, hk, h => by
    rw [chkE, List.getElem?_eq_getElem (by omega)]
    simp only
    rw [if_pos (h k (by omega))]
    exact chkE_of (by omega) h
theorem count_skip {X Z : List Ent} {a : Ent} {cpu : Int} (h : a.kind ≠ 1) : countF (X ++ a :: Z) cpu = countF (X ++ Z) cpu := by
  unfold countF
  rw [List.foldl_append, List.foldl_append, List.foldl_cons]
  congr 1
  unfold countS
  rw [if_neg (by simp [h])]

theorem drop_right {A : Lg} {i : Nat} {a : Ent} (hf : fewF A = true) (ha : A.E[i]? = some a) (hk : a.kind ≠ 1) :
    dropF A i = (⟨A.d, A.c, A.E.take i ++ A.E.drop (i + 1), A.S.filter fun s => decide (s.end_ ≤ (i : Int))⟩, 0) ∧
    checkF ⟨A.d, A.c, A.E.take i ++ A.E.drop (i + 1), A.S.filter fun s => decide (s.end_ ≤ (i : Int))⟩ = 0 := by
  have hi := (List.getElem?_eq_some_iff.1 ha).1
  have hx := (List.getElem?_eq_some_iff.1 ha).2
  constructor
  · unfold dropF
    rw [if_neg, filt_erase hi]
    · congr 2
      exact filt_const (p := fun s : Sea => decide (s.end_ ≤ (i : Int)))
    · rw [Int.toNat_natCast, List.getD_eq_getElem?_getD, ha]
      simp only [Option.getD_some]
      omega
  · obtain ⟨h1, h2, h3, h4⟩ := few_of hf
    unfold checkF at h4 ⊢
    split at h4
    · cases h4
    rename_i g1
    split at h4
    · cases h4
    split at h4
    · cases h4
    split at h4
    · cases h4
    rename_i g3 g4
    split at h4
    · cases h4
    rename_i g5
    have hlen : (A.E.take i ++ A.E.drop (i + 1)).length = A.E.length - 1 := by simp; omega
    have hS : (A.S.filter fun s => decide (s.end_ ≤ (i : Int))).length ≤ A.S.length := List.length_filter_le _ _
    rw [if_neg g1, if_neg (by simp only [hlen]; omega), if_neg, if_neg, if_neg]
    · have := chkD_filter (A := A) (D := ⟨A.d, A.c, A.E.take i ++ A.E.drop (i + 1), A.S.filter fun s => decide (s.end_ ≤ (i : Int))⟩) (i := i) rfl rfl (fun n hn => by
        simp only
        rw [List.take_append_of_le_length (by simp; omega), List.take_take, Nat.min_eq_left hn]) (S := A.S) (by simpa using g5)
      simp only [this]
      simp
    · rw [chkS_filter (n := A.E.length)]
      · simp
      · simp only [hlen]; omega
      · simpa using g4
    · rw [chkE_of (by simp)]
      · simp
      · intro j hj
        simp only at hj ⊢
        rw [hlen] at hj
        by_cases hji : j < i
        · have := h3 j (by omega)
          have e1 : (A.E.take i ++ A.E.drop (i + 1))[j]'(by rw [hlen]; omega) = A.E[j] := by
            rw [List.getElem_append_left (by simp; omega), List.getElem_take]
          have e2 : (A.E.take i ++ A.E.drop (i + 1)).take j = A.E.take j := by
            rw [List.take_append_of_le_length (by simp; omega), List.take_take, Nat.min_eq_left (by omega)]
          rw [e1, e2]
          exact this
        · have := h3 (j + 1) (by omega)
          have e1 : (A.E.take i ++ A.E.drop (i + 1))[j]'(by rw [hlen]; omega) = A.E[j + 1] := by
            rw [List.getElem_append_right (by simp; omega), List.getElem_drop]
            congr 1
            simp; omega
          obtain ⟨t, rfl⟩ : ∃ t, j = i + t := ⟨j - i, by omega⟩
          have hl : (A.E.take i).length = i := by simp; omega
          have e2 : (A.E.take i ++ A.E.drop (i + 1)).take (i + t) = A.E.take i ++ (A.E.drop (i + 1)).take t := by
            rw [List.take_append, hl, Nat.add_sub_cancel_left, List.take_of_length_le (by omega)]
          have e3 : A.E.take (i + t + 1) = A.E.take i ++ a :: (A.E.drop (i + 1)).take t := by
            conv => lhs; rw [← List.take_append_drop i A.E, List.drop_eq_getElem_cons hi, hx]
            rw [List.take_append, hl, List.take_of_length_le (by omega), show i + t + 1 - i = t + 1 by omega, List.take_succ_cons]
          rw [e3, count_skip hk] at this
          rw [e1, e2]
          exact this

theorem cont_mono {A B : List Ent} : ∀ (f i k : Nat) (da db : Int) {i' k' : Nat} {e : Ent} {x : Bool}, contF A B f i k da db = .stop i' k' e x → i ≤ i' ∧ k ≤ k' := by
  intro f
  induction f with
  | zero => intro i k da db i' k' e x h; cases h
  | succ f ih =>
    intro i k da db i' k' e x h
    rw [contF] at h
    cases hx : A[i]? with
    | none => rw [hx] at h; cases h
    | some a =>
      cases hy : B[k]? with
      | none =>
        rw [hx, hy] at h
        simp only at h
        injection h with h1 h2 h3 h4
        omega
      | some b =>
        rw [hx, hy] at h
        simp only at h
        split at h
        · split at h
          · have := ih _ _ _ _ h; omega
          · split at h
            · have := ih _ _ _ _ h; omega
            · have := ih _ _ _ _ h; omega
        · split at h
          · have := ih _ _ _ _ h; omega
          · split at h
            · injection h with h1 h2 h3 h4; omega
            · injection h with h1 h2 h3 h4; omega

/-- Without the input that stops it, a comparison comes as far at least. -/
theorem cont_further {A D B : List Ent} {i k p q : Nat} {e e2 : Ent} {x x2 : Bool} {a : Ent} (ha : A[i]? = some a) (hk : a.kind ≠ 1) (hD : ∀ j, j < i → D[j]? = A[j]?) : ∀ (f g j l : Nat) (da db : Int), j ≤ i →
    contF A B f j l da db = .stop i k e x → contF D B g j l da db = .stop p q e2 x2 → i ≤ p ∧ k ≤ q := by
  intro f
  induction f with
  | zero => intro g j l da db _ h; cases h
  | succ f ih =>
    intro g j l da db hj h h'
    by_cases hji : j < i
    · cases g with
      | zero => cases h'
      | succ g =>
        rw [contF] at h h'
        rw [hD j hji] at h'
        cases hx : A[j]? with
        | none => rw [hx] at h; cases h
        | some b =>
          cases hy : B[l]? with
          | none =>
            rw [hx, hy] at h
            simp only at h
            injection h with h1 h2 h3 h4
            omega
          | some c =>
            rw [hx, hy] at h h'
            simp only at h h'
            split at h
            · rename_i c1
              rw [if_pos c1] at h'
              split at h
              · rename_i c2
                rw [if_pos c2] at h'
                exact ih _ _ _ _ _ (by omega) h h'
              · rename_i c2
                rw [if_neg c2] at h'
                split at h
                · rename_i c3
                  rw [if_pos c3] at h'
                  exact ih _ _ _ _ _ (by omega) h h'
                · rename_i c3
                  rw [if_neg c3] at h'
                  exact ih _ _ _ _ _ (by omega) h h'
            · rename_i c1
              rw [if_neg c1] at h'
              split at h
              · rename_i c2
                rw [if_pos c2] at h'
                exact ih _ _ _ _ _ (by omega) h h'
              · split at h
                · injection h with h1 h2 h3 h4; omega
                · injection h with h1 h2 h3 h4; omega
    · have : j = i := by omega
      subst this
      have hm := cont_mono _ _ _ _ _ h'
      refine ⟨hm.1, ?_⟩
      rw [contF, ha] at h
      cases hy : B[l]? with
      | none =>
        rw [hy] at h
        simp only at h
        injection h with h1 h2 h3 h4
        omega
      | some c =>
        rw [hy] at h
        simp only at h
        rw [if_neg (by simp [hk])] at h
        split at h
        · have := cont_mono _ _ _ _ _ h; omega
        · split at h
          · injection h with h1 h2 h3 h4; omega
          · injection h with h1 h2 h3 h4; omega

theorem cont_first {A B : List Ent} : ∀ (f i k : Nat) (da db : Int) {i' k' : Nat} {e : Ent} {x : Bool}, contF A B f i k da db = .stop i' k' e x → i' < A.length := by
  intro f
  induction f with
  | zero => intro i k da db i' k' e x h; cases h
  | succ f ih =>
    intro i k da db i' k' e x h
    rw [contF] at h
    cases hx : A[i]? with
    | none => rw [hx] at h; cases h
    | some a =>
      have hlt := (List.getElem?_eq_some_iff.1 hx).1
      cases hy : B[k]? with
      | none =>
        rw [hx, hy] at h
        simp only at h
        injection h with h1 h2 h3 h4
        omega
      | some b =>
        rw [hx, hy] at h
        simp only at h
        split at h
        · split at h
          · exact ih _ _ _ _ h
          · split at h
            · exact ih _ _ _ _ h
            · exact ih _ _ _ _ h
        · split at h
          · exact ih _ _ _ _ h
          · split at h
            · injection h with h1 h2 h3 h4; omega
            · injection h with h1 h2 h3 h4; omega

theorem drop_is {A : Lg} {i : Nat} {a : Ent} (hf : fewF A = true) (ha : A.E[i]? = some a) (hk : a.kind ≠ 1) :
    ∃ D : Lg, dropF A i = (D, 0) ∧ D.d = A.d ∧ D.c = A.c ∧ D.E = A.E.take i ++ A.E.drop (i + 1) ∧ checkF D = 0 :=
  ⟨_, (drop_right hf ha hk).1, rfl, rfl, rfl, (drop_right hf ha hk).2⟩

/-- The law: without the input that is the obstacle, the second log goes on, or stops no earlier. -/
theorem further {A D B : List Ent} (sa : Sized A) {i k p q : Nat} {e e2 : Ent} {x2 : Bool} (hE : D = A.take i ++ A.drop (i + 1)) (hs : Stops A B i k e false) (hk : e.kind ≠ 1)
    (h : contF A B (A.length + B.length + 1) 0 0 0 0 = .stop i k e false) (h' : contF D B (D.length + B.length + 1) 0 0 0 0 = .stop p q e2 x2) :
    i ≤ p ∧ k ≤ q ∧ p ≤ D.length ∧ i ≤ A.length ∧ stepsF (A.take i) ≤ stepsF (D.take p) := by
  obtain ⟨a, ha, hs⟩ := hs
  have hae : e = a := by
    rcases hs with ⟨_, h1, _⟩ | ⟨b, _, _, _, ⟨_, _, _, h1⟩ | ⟨_, h1, _⟩⟩
    · exact h1
    · cases h1
    · exact h1
  subst hae
  have hi := (List.getElem?_eq_some_iff.1 ha).1
  have hD : ∀ j, j < i → D[j]? = A[j]? := fun j hj => by
    rw [hE, List.getElem?_append_left (by simp; omega), List.getElem?_take, if_pos hj]
  obtain ⟨h1, h2⟩ := cont_further ha hk hD _ _ 0 0 0 0 (Nat.zero_le _) h h'
  have sd : Sized D := fun x hx => sa x (by
    rw [hE] at hx
    rcases List.mem_append.1 hx with hx | hx
    · exact List.mem_of_mem_take hx
    · exact List.mem_of_mem_drop hx)
  have hp : p < D.length := cont_first _ _ _ _ _ h'
  refine ⟨h1, h2, by omega, by omega, ?_⟩
  have : A.take i = D.take i := by
    rw [hE, List.take_append_of_le_length (by simp; omega), List.take_take, Nat.min_self]
  rw [this]
  exact steps_mono sd h1
end Go.Proofs.YtljmjkpmkpchoaaDoor

set_option linter.unusedSimpArgs false
set_option maxRecDepth 10000
set_option maxHeartbeats 1000000
namespace Go.Proofs.YtljmjkpmkpchoaaDoor
open Go Go.Cn Go.RowKit

theorem steps_app {σ : H} {l : List Value} {L : Lg} {n : Nat} (h : IsLg σ l L) (hn : n ≤ L.E.length) (hs : Sized L.E) (hl : L.E.length ≤ 100) :
    App Tryd.prog (.func 21) #[] #[.agg l.toArray, .int .i64 n] σ fun v σ' => σ' = σ ∧ v = .int .i64 (stepsF (L.E.take n)) := by
  refine App.forget (App.of_sem mixed Tryd.func21 t21 k21 r21 (Nat.le_of_ble_eq_true rfl) ?_)
  obtain ⟨a1, b1, a2, b2, rfl, rA, _, _⟩ := h.recs
  have hd := h.log.d16
  unfold s21
  have e0 : ap σ [] = σ := ap_nil
  rw [← e0]
  simp only [↓eD0, ↓eD1, eC0, eC1, eC2, eC3, eC4, eC5, eC6, wantedE, ↓reduceIte, Nat.reduceEqDiff, Option.map_some, Option.map_none, reread, List.nil_append, List.cons_append, List.map_cons, List.map_nil, List.length_nil, List.length_cons, Value.cells, List.getElem?_cons_zero, List.getElem?_cons_succ, outE, lks, lkR, rdV, neg1, evs, opt, Nat.reduceAdd, Nat.reduceMul, and_self, reduceCtorEq, List.size_toArray, List.all_cons, List.all_nil, Value.oneCell', List.set_cons_zero, List.set_cons_succ, sets, fillL, Nat.reduceLeDiff, List.drop_succ_cons, List.drop_zero, List.take_succ_cons, List.take_zero, List.toList_toArray, argsE, Array.append_empty, Array.empty_append, List.getElem?_toArray, Int.reduceLT, Int.reduceLE, Int.reduceToNat, Int.reduceEq, Nat.reduceLT]
  generalize hT : ap σ [.cells 0 (recC L.d L.c (.slice a1 L.E.length b1) (.slice a2 L.S.length b2)) (0, 0)] = T
  have ho : Old σ T := hT ▸ .ap
  have tA : rd1 T ⟨σ.size, 17, none⟩ = some (.slice a1 L.E.length b1) := by rw [← hT, rd1_ap0]; exact rec17 hd
  refine loop_for (J := fun i e τ => i ≤ n ∧ τ = T ∧ e = [(1, .int .i64 n), (2, .pointer (some ⟨σ.size, 0, none⟩)), (5, .int .i64 (stepsF (L.E.take i))), (6, .int .i64 i)]) n
    ⟨by omega, rfl, rfl⟩ ?_
  rintro i e τ hi ⟨_, rfl, rfl⟩
  by_cases hlt : i < n
  · have hlt2 : i < L.E.length := by omega
    have d1 : decide ((i:Int) < (n:Int)) = true := by simpa using hlt
    have d2 : decide ((i:Int) < (L.E.length:Int)) = true := by simpa using hlt2
    obtain ⟨ba, oa, rfl, ha5⟩ := rA.at (i := i) (x := entV L.E[i]) (by simp [hlt2])
    have ha5 : rdN τ ⟨ba, oa + i * 5, none⟩ 5 = some (entV L.E[i]) := rdN_Old ho ha5
    have hak : rd1 τ ⟨ba, oa + i * 5, none⟩ = some (.int .i64 L.E[i].kind) := rd1_row ha5 (j := 0) rfl
    have han : rd1 τ ⟨ba, oa + i * 5 + 3, none⟩ = some (.int .i64 L.E[i].n) := rd1_row ha5 (j := 3) rfl
    have bi : (0:Int) ≤ (i:Int) ∧ (i:Int) < (L.E.length : Int) := by omega
    have wi : IntKind.wrap .i64 ((i:Int) + 1) = ((i + 1 : Nat) : Int) := by rw [wrap64 (by omega) (by omega)]; omega
    have st := steps_take hlt2
    have b1 := steps_bounds (sized_take hs i)
    have b2 := steps_bounds (sized_take hs (i + 1))
    simp only [List.length_take] at b1 b2
    simp only [↓eD0, ↓eD1, eC0, eC1, eC2, eC3, eC4, eC5, eC6, wantedE, ↓reduceIte, Nat.reduceEqDiff, Option.map_some, Option.map_none, reread, List.nil_append, List.cons_append, List.map_cons, List.map_nil, List.length_nil, List.length_cons, Value.cells, List.getElem?_cons_zero, List.getElem?_cons_succ, outE, lks, lkR, rdV, neg1, evs, opt, Nat.reduceAdd, Nat.reduceMul, and_self, reduceCtorEq, List.size_toArray, List.all_cons, List.all_nil, Value.oneCell', List.set_cons_zero, List.set_cons_succ, sets, fillL, Nat.reduceLeDiff, List.drop_succ_cons, List.drop_zero, List.take_succ_cons, List.take_zero, List.toList_toArray, argsE, Array.append_empty, Array.empty_append, List.getElem?_toArray, Int.reduceLT, Int.reduceLE, Int.reduceToNat, Int.reduceEq, Nat.reduceLT, tA, d1, d2, bi, Int.toNat_natCast, hak]
    by_cases hk : L.E[i].kind = 1
    · have dk : decide (L.E[i].kind = 1) = true := by simpa using hk
      rw [if_pos hk] at st
      have ws : IntKind.wrap .i64 (stepsF (L.E.take i) + L.E[i].n) = stepsF (L.E.take (i + 1)) := by rw [wrap64 (by omega) (by omega), st]
      simp only [↓eD0, ↓eD1, eC0, eC1, eC2, eC3, eC4, eC5, eC6, wantedE, ↓reduceIte, Nat.reduceEqDiff, Option.map_some, Option.map_none, reread, List.nil_append, List.cons_append, List.map_cons, List.map_nil, List.length_nil, List.length_cons, Value.cells, List.getElem?_cons_zero, List.getElem?_cons_succ, outE, lks, lkR, rdV, neg1, evs, opt, Nat.reduceAdd, Nat.reduceMul, and_self, reduceCtorEq, List.size_toArray, List.all_cons, List.all_nil, Value.oneCell', List.set_cons_zero, List.set_cons_succ, sets, fillL, Nat.reduceLeDiff, List.drop_succ_cons, List.drop_zero, List.take_succ_cons, List.take_zero, List.toList_toArray, argsE, Array.append_empty, Array.empty_append, List.getElem?_toArray, Int.reduceLT, Int.reduceLE, Int.reduceToNat, Int.reduceEq, Nat.reduceLT, tA, dk, bi, Int.toNat_natCast, hak, han, wi, ws]
      exact ⟨hlt, by omega⟩
    · have dk : decide (L.E[i].kind = 1) = false := by simpa using hk
      rw [if_neg hk, Int.add_zero] at st
      simp only [↓eD0, ↓eD1, eC0, eC1, eC2, eC3, eC4, eC5, eC6, wantedE, ↓reduceIte, Nat.reduceEqDiff, Option.map_some, Option.map_none, reread, List.nil_append, List.cons_append, List.map_cons, List.map_nil, List.length_nil, List.length_cons, Value.cells, List.getElem?_cons_zero, List.getElem?_cons_succ, outE, lks, lkR, rdV, neg1, evs, opt, Nat.reduceAdd, Nat.reduceMul, and_self, reduceCtorEq, List.size_toArray, List.all_cons, List.all_nil, Value.oneCell', List.set_cons_zero, List.set_cons_succ, sets, fillL, Nat.reduceLeDiff, List.drop_succ_cons, List.drop_zero, List.take_succ_cons, List.take_zero, List.toList_toArray, argsE, Array.append_empty, Array.empty_append, List.getElem?_toArray, Int.reduceLT, Int.reduceLE, Int.reduceToNat, Int.reduceEq, Nat.reduceLT, tA, dk, bi, Int.toNat_natCast, hak, han, wi]
      exact ⟨hlt, by omega, by rw [st]⟩
  · have : i = n := by omega
    subst this
    have d1 : decide ((i:Int) < (i:Int)) = false := by simp
    simp only [↓eD0, ↓eD1, eC0, eC1, eC2, eC3, eC4, eC5, eC6, wantedE, ↓reduceIte, Nat.reduceEqDiff, Option.map_some, Option.map_none, reread, List.nil_append, List.cons_append, List.map_cons, List.map_nil, List.length_nil, List.length_cons, Value.cells, List.getElem?_cons_zero, List.getElem?_cons_succ, outE, lks, lkR, rdV, neg1, evs, opt, Nat.reduceAdd, Nat.reduceMul, and_self, reduceCtorEq, List.size_toArray, List.all_cons, List.all_nil, Value.oneCell', List.set_cons_zero, List.set_cons_succ, sets, fillL, Nat.reduceLeDiff, List.drop_succ_cons, List.drop_zero, List.take_succ_cons, List.take_zero, List.toList_toArray, argsE, Array.append_empty, Array.empty_append, List.getElem?_toArray, Int.reduceLT, Int.reduceLE, Int.reduceToNat, Int.reduceEq, Nat.reduceLT, d1]
    exact ⟨ho, by simp [flat]⟩
end Go.Proofs.YtljmjkpmkpchoaaDoor

set_option linter.unusedSimpArgs false
set_option linter.unusedVariables false
set_option maxRecDepth 10000
set_option maxHeartbeats 1000000
namespace Go.Proofs.YtljmjkpmkpchoaaDoor
open Go Go.Cn Go.RowKit

theorem law7 {σ : H} {la lb : List Value} {A B : Lg} (ha : RawLg σ la A) (hb : RawLg σ lb B) (hG : Glob σ) :
    App Tryd.prog (.func 7) #[] #[.agg la.toArray, .agg lb.toArray] σ fun v σ' => Old σ σ' ∧ v = .bool true := by
  refine App.of_sem mixed Tryd.func7 t7 k7 r7 (Nat.le_of_ble_eq_true rfl) ?_
  have la1 := ha.len19
  have lb1 := hb.len19
  have ta : la.take 19 = la := List.take_of_length_le (by omega)
  have tb : lb.take 19 = lb := List.take_of_length_le (by omega)
  unfold s7
  have e0 : ap σ [] = σ := ap_nil
  rw [← e0]
  simp only [↓eD0, ↓eD1, eC0, eC1, eC2, eC3, eC4, eC5, eC6, wantedE, ↓reduceIte, Nat.reduceEqDiff, Option.map_some, Option.map_none, reread, List.nil_append, List.cons_append, List.map_cons, List.map_nil, List.length_nil, List.length_cons, Value.cells, List.getElem?_cons_zero, List.getElem?_cons_succ, outE, lks, lkR, rdV, neg1, evs, opt, Nat.reduceAdd, Nat.reduceMul, and_self, reduceCtorEq, List.size_toArray, List.all_cons, List.all_nil, Value.oneCell', List.set_cons_zero, List.set_cons_succ, sets, fillL, Nat.reduceLeDiff, List.drop_succ_cons, List.drop_zero, List.take_succ_cons, List.take_zero, List.toList_toArray, argsE, Array.append_empty, Array.empty_append, List.getElem?_toArray, Int.reduceLT, Int.reduceLE, Int.reduceToNat, Int.reduceEq, Nat.reduceLT, la1, lb1, ta, tb]
  refine appK_of (few_app (ha.old .ap) (hG.Old .ap)) ?_
  rintro _ _ ⟨e2, rfl⟩
  rw [e2]
  clear e2
  cases fa : fewF A
  · simp only [↓eD0, ↓eD1, eC0, eC1, eC2, eC3, eC4, eC5, eC6, wantedE, ↓reduceIte, Nat.reduceEqDiff, Option.map_some, Option.map_none, reread, List.nil_append, List.cons_append, List.map_cons, List.map_nil, List.length_nil, List.length_cons, Value.cells, List.getElem?_cons_zero, List.getElem?_cons_succ, outE, lks, lkR, rdV, neg1, evs, opt, Nat.reduceAdd, Nat.reduceMul, and_self, reduceCtorEq, List.size_toArray, List.all_cons, List.all_nil, Value.oneCell', List.set_cons_zero, List.set_cons_succ, sets, fillL, Nat.reduceLeDiff, List.drop_succ_cons, List.drop_zero, List.take_succ_cons, List.take_zero, List.toList_toArray, argsE, Array.append_empty, Array.empty_append, List.getElem?_toArray, Int.reduceLT, Int.reduceLE, Int.reduceToNat, Int.reduceEq, Nat.reduceLT, fa, la1, lb1, ta, tb]
    refine appK_of sanity_app ?_
    rintro _ _ ⟨e2, rfl⟩
    rw [e2]
    clear e2
    simp only [↓eD0, ↓eD1, eC0, eC1, eC2, eC3, eC4, eC5, eC6, wantedE, ↓reduceIte, Nat.reduceEqDiff, Option.map_some, Option.map_none, reread, List.nil_append, List.cons_append, List.map_cons, List.map_nil, List.length_nil, List.length_cons, Value.cells, List.getElem?_cons_zero, List.getElem?_cons_succ, outE, lks, lkR, rdV, neg1, evs, opt, Nat.reduceAdd, Nat.reduceMul, and_self, reduceCtorEq, List.size_toArray, List.all_cons, List.all_nil, Value.oneCell', List.set_cons_zero, List.set_cons_succ, sets, fillL, Nat.reduceLeDiff, List.drop_succ_cons, List.drop_zero, List.take_succ_cons, List.take_zero, List.toList_toArray, argsE, Array.append_empty, Array.empty_append, List.getElem?_toArray, Int.reduceLT, Int.reduceLE, Int.reduceToNat, Int.reduceEq, Nat.reduceLT]
    exact .ap
  simp only [↓eD0, ↓eD1, eC0, eC1, eC2, eC3, eC4, eC5, eC6, wantedE, ↓reduceIte, Nat.reduceEqDiff, Option.map_some, Option.map_none, reread, List.nil_append, List.cons_append, List.map_cons, List.map_nil, List.length_nil, List.length_cons, Value.cells, List.getElem?_cons_zero, List.getElem?_cons_succ, outE, lks, lkR, rdV, neg1, evs, opt, Nat.reduceAdd, Nat.reduceMul, and_self, reduceCtorEq, List.size_toArray, List.all_cons, List.all_nil, Value.oneCell', List.set_cons_zero, List.set_cons_succ, sets, fillL, Nat.reduceLeDiff, List.drop_succ_cons, List.drop_zero, List.take_succ_cons, List.take_zero, List.toList_toArray, argsE, Array.append_empty, Array.empty_append, List.getElem?_toArray, Int.reduceLT, Int.reduceLE, Int.reduceToNat, Int.reduceEq, Nat.reduceLT, fa, la1, lb1, ta, tb]
  refine appK_of (few_app (hb.old .ap) (hG.Old .ap)) ?_
  rintro _ _ ⟨e2, rfl⟩
  rw [e2]
  clear e2
  cases fb : fewF B
  · simp only [↓eD0, ↓eD1, eC0, eC1, eC2, eC3, eC4, eC5, eC6, wantedE, ↓reduceIte, Nat.reduceEqDiff, Option.map_some, Option.map_none, reread, List.nil_append, List.cons_append, List.map_cons, List.map_nil, List.length_nil, List.length_cons, Value.cells, List.getElem?_cons_zero, List.getElem?_cons_succ, outE, lks, lkR, rdV, neg1, evs, opt, Nat.reduceAdd, Nat.reduceMul, and_self, reduceCtorEq, List.size_toArray, List.all_cons, List.all_nil, Value.oneCell', List.set_cons_zero, List.set_cons_succ, sets, fillL, Nat.reduceLeDiff, List.drop_succ_cons, List.drop_zero, List.take_succ_cons, List.take_zero, List.toList_toArray, argsE, Array.append_empty, Array.empty_append, List.getElem?_toArray, Int.reduceLT, Int.reduceLE, Int.reduceToNat, Int.reduceEq, Nat.reduceLT, fa, fb, la1, lb1, ta, tb]
    refine appK_of sanity_app ?_
    rintro _ _ ⟨e2, rfl⟩
    rw [e2]
    clear e2
    simp only [↓eD0, ↓eD1, eC0, eC1, eC2, eC3, eC4, eC5, eC6, wantedE, ↓reduceIte, Nat.reduceEqDiff, Option.map_some, Option.map_none, reread, List.nil_append, List.cons_append, List.map_cons, List.map_nil, List.length_nil, List.length_cons, Value.cells, List.getElem?_cons_zero, List.getElem?_cons_succ, outE, lks, lkR, rdV, neg1, evs, opt, Nat.reduceAdd, Nat.reduceMul, and_self, reduceCtorEq, List.size_toArray, List.all_cons, List.all_nil, Value.oneCell', List.set_cons_zero, List.set_cons_succ, sets, fillL, Nat.reduceLeDiff, List.drop_succ_cons, List.drop_zero, List.take_succ_cons, List.take_zero, List.toList_toArray, argsE, Array.append_empty, Array.empty_append, List.getElem?_toArray, Int.reduceLT, Int.reduceLE, Int.reduceToNat, Int.reduceEq, Nat.reduceLT]
    exact .ap
  have sa := few_sized fa
  have sb := few_sized fb
  have hA := ha.small fa
  have hB := hb.small fb
  have la2 := hA.log.dig
  have lb2 := hB.log.dig
  have la3 := hA.log.cpus
  have lb3 := hB.log.cpus
  have heq : aggEq (List.replicate 16 (.int .u8)) (digC A.d) (digC B.d) = some (decide (A.d = B.d)) := aggEq_dig hA.log.d16 hB.log.d16
  by_cases hd : A.d = B.d
  case neg =>
    have hdd : decide (A.d = B.d) = false := by simpa using hd
    simp only [↓eD0, ↓eD1, eC0, eC1, eC2, eC3, eC4, eC5, eC6, wantedE, ↓reduceIte, Nat.reduceEqDiff, Option.map_some, Option.map_none, reread, List.nil_append, List.cons_append, List.map_cons, List.map_nil, List.length_nil, List.length_cons, Value.cells, List.getElem?_cons_zero, List.getElem?_cons_succ, outE, lks, lkR, rdV, neg1, evs, opt, Nat.reduceAdd, Nat.reduceMul, and_self, reduceCtorEq, List.size_toArray, List.all_cons, List.all_nil, Value.oneCell', List.set_cons_zero, List.set_cons_succ, sets, fillL, Nat.reduceLeDiff, List.drop_succ_cons, List.drop_zero, List.take_succ_cons, List.take_zero, List.toList_toArray, argsE, Array.append_empty, Array.empty_append, List.getElem?_toArray, Int.reduceLT, Int.reduceLE, Int.reduceToNat, Int.reduceEq, Nat.reduceLT, fa, fb, la1, lb1, ta, tb, la2, lb2, la3, lb3, heq, hdd]
    refine appK_of sanity_app ?_
    rintro _ _ ⟨e2, rfl⟩
    rw [e2]
    clear e2
    simp only [↓eD0, ↓eD1, eC0, eC1, eC2, eC3, eC4, eC5, eC6, wantedE, ↓reduceIte, Nat.reduceEqDiff, Option.map_some, Option.map_none, reread, List.nil_append, List.cons_append, List.map_cons, List.map_nil, List.length_nil, List.length_cons, Value.cells, List.getElem?_cons_zero, List.getElem?_cons_succ, outE, lks, lkR, rdV, neg1, evs, opt, Nat.reduceAdd, Nat.reduceMul, and_self, reduceCtorEq, List.size_toArray, List.all_cons, List.all_nil, Value.oneCell', List.set_cons_zero, List.set_cons_succ, sets, fillL, Nat.reduceLeDiff, List.drop_succ_cons, List.drop_zero, List.take_succ_cons, List.take_zero, List.toList_toArray, argsE, Array.append_empty, Array.empty_append, List.getElem?_toArray, Int.reduceLT, Int.reduceLE, Int.reduceToNat, Int.reduceEq, Nat.reduceLT]
    exact .ap
  have hdd : decide (A.d = B.d) = true := by simpa using hd
  by_cases hc : A.c = B.c
  case neg =>
    have hcc : decide (A.c = B.c) = false := by simpa using hc
    simp only [↓eD0, ↓eD1, eC0, eC1, eC2, eC3, eC4, eC5, eC6, wantedE, ↓reduceIte, Nat.reduceEqDiff, Option.map_some, Option.map_none, reread, List.nil_append, List.cons_append, List.map_cons, List.map_nil, List.length_nil, List.length_cons, Value.cells, List.getElem?_cons_zero, List.getElem?_cons_succ, outE, lks, lkR, rdV, neg1, evs, opt, Nat.reduceAdd, Nat.reduceMul, and_self, reduceCtorEq, List.size_toArray, List.all_cons, List.all_nil, Value.oneCell', List.set_cons_zero, List.set_cons_succ, sets, fillL, Nat.reduceLeDiff, List.drop_succ_cons, List.drop_zero, List.take_succ_cons, List.take_zero, List.toList_toArray, argsE, Array.append_empty, Array.empty_append, List.getElem?_toArray, Int.reduceLT, Int.reduceLE, Int.reduceToNat, Int.reduceEq, Nat.reduceLT, fa, fb, la1, lb1, ta, tb, la2, lb2, la3, lb3, heq, hdd, hcc]
    refine appK_of sanity_app ?_
    rintro _ _ ⟨e2, rfl⟩
    rw [e2]
    clear e2
    simp only [↓eD0, ↓eD1, eC0, eC1, eC2, eC3, eC4, eC5, eC6, wantedE, ↓reduceIte, Nat.reduceEqDiff, Option.map_some, Option.map_none, reread, List.nil_append, List.cons_append, List.map_cons, List.map_nil, List.length_nil, List.length_cons, Value.cells, List.getElem?_cons_zero, List.getElem?_cons_succ, outE, lks, lkR, rdV, neg1, evs, opt, Nat.reduceAdd, Nat.reduceMul, and_self, reduceCtorEq, List.size_toArray, List.all_cons, List.all_nil, Value.oneCell', List.set_cons_zero, List.set_cons_succ, sets, fillL, Nat.reduceLeDiff, List.drop_succ_cons, List.drop_zero, List.take_succ_cons, List.take_zero, List.toList_toArray, argsE, Array.append_empty, Array.empty_append, List.getElem?_toArray, Int.reduceLT, Int.reduceLE, Int.reduceToNat, Int.reduceEq, Nat.reduceLT]
    exact .ap
  have hcc : decide (A.c = B.c) = true := by simpa using hc
  simp only [↓eD0, ↓eD1, eC0, eC1, eC2, eC3, eC4, eC5, eC6, wantedE, ↓reduceIte, Nat.reduceEqDiff, Option.map_some, Option.map_none, reread, List.nil_append, List.cons_append, List.map_cons, List.map_nil, List.length_nil, List.length_cons, Value.cells, List.getElem?_cons_zero, List.getElem?_cons_succ, outE, lks, lkR, rdV, neg1, evs, opt, Nat.reduceAdd, Nat.reduceMul, and_self, reduceCtorEq, List.size_toArray, List.all_cons, List.all_nil, Value.oneCell', List.set_cons_zero, List.set_cons_succ, sets, fillL, Nat.reduceLeDiff, List.drop_succ_cons, List.drop_zero, List.take_succ_cons, List.take_zero, List.toList_toArray, argsE, Array.append_empty, Array.empty_append, List.getElem?_toArray, Int.reduceLT, Int.reduceLE, Int.reduceToNat, Int.reduceEq, Nat.reduceLT, fa, fb, la1, lb1, ta, tb, la2, lb2, la3, lb3, heq, hdd, hcc]
  refine appK_of (merge_app (hA.Old .ap).log (hB.Old .ap).log sa sb) ?_
  rintro _ _ ⟨e2, rfl⟩
  rw [e2]
  clear e2
  obtain ⟨a1, b1, a2, b2, hla, rA, _, _⟩ := hA.recs
  have l17 : la[17]? = some (.slice a1 A.E.length b1) := by rw [hla]; exact rec17 hA.log.d16
  have eA := (few_of fa).1
  have hcR : contR A.d A.c A.E B.d B.c B.E = contF A.E B.E (A.E.length + B.E.length + 1) 0 0 0 0 := by
    unfold contR; rw [if_neg (by simp [hd, hc])]
  cases hr : contR A.d A.c A.E B.d B.c B.E with
  | goesOn =>
    have hv : contV CR.goesOn = .tuple #[.agg #[.int .i64 0, .int .i64 0, .int .i64 0, .int .i64 0, .int .i64 0, .int .i64 0, .int .i64 0, .string ⟨#[]⟩, .bool false], .bool true] := rfl
    simp only [↓eD0, ↓eD1, eC0, eC1, eC2, eC3, eC4, eC5, eC6, wantedE, ↓reduceIte, Nat.reduceEqDiff, Option.map_some, Option.map_none, reread, List.nil_append, List.cons_append, List.map_cons, List.map_nil, List.length_nil, List.length_cons, Value.cells, List.getElem?_cons_zero, List.getElem?_cons_succ, outE, lks, lkR, rdV, neg1, evs, opt, Nat.reduceAdd, Nat.reduceMul, and_self, reduceCtorEq, List.size_toArray, List.all_cons, List.all_nil, Value.oneCell', List.set_cons_zero, List.set_cons_succ, sets, fillL, Nat.reduceLeDiff, List.drop_succ_cons, List.drop_zero, List.take_succ_cons, List.take_zero, List.toList_toArray, argsE, Array.append_empty, Array.empty_append, List.getElem?_toArray, Int.reduceLT, Int.reduceLE, Int.reduceToNat, Int.reduceEq, Nat.reduceLT, hv]
    refine appK_of sanity_app ?_
    rintro _ _ ⟨e2, rfl⟩
    rw [e2]
    clear e2
    simp only [↓eD0, ↓eD1, eC0, eC1, eC2, eC3, eC4, eC5, eC6, wantedE, ↓reduceIte, Nat.reduceEqDiff, Option.map_some, Option.map_none, reread, List.nil_append, List.cons_append, List.map_cons, List.map_nil, List.length_nil, List.length_cons, Value.cells, List.getElem?_cons_zero, List.getElem?_cons_succ, outE, lks, lkR, rdV, neg1, evs, opt, Nat.reduceAdd, Nat.reduceMul, and_self, reduceCtorEq, List.size_toArray, List.all_cons, List.all_nil, Value.oneCell', List.set_cons_zero, List.set_cons_succ, sets, fillL, Nat.reduceLeDiff, List.drop_succ_cons, List.drop_zero, List.take_succ_cons, List.take_zero, List.toList_toArray, argsE, Array.append_empty, Array.empty_append, List.getElem?_toArray, Int.reduceLT, Int.reduceLE, Int.reduceToNat, Int.reduceEq, Nat.reduceLT]
    exact .ap
  | stop i k e x =>
    have hcont := hcR.symm.trans hr
    obtain ⟨hs, hkB, _, _, _⟩ := stop_all sa sb hcont
    have hv : contV (CR.stop i k e x) = .tuple #[.agg #[.int .i64 0, .int .i64 i, .int .i64 k, .int .i64 e.kind, .int .i64 e.cpu, .int .i64 e.count, .int .i64 e.n, .string e.data, .bool x], .bool false] := rfl
    cases x
    case true =>
      simp only [↓eD0, ↓eD1, eC0, eC1, eC2, eC3, eC4, eC5, eC6, wantedE, ↓reduceIte, Nat.reduceEqDiff, Option.map_some, Option.map_none, reread, List.nil_append, List.cons_append, List.map_cons, List.map_nil, List.length_nil, List.length_cons, Value.cells, List.getElem?_cons_zero, List.getElem?_cons_succ, outE, lks, lkR, rdV, neg1, evs, opt, Nat.reduceAdd, Nat.reduceMul, and_self, reduceCtorEq, List.size_toArray, List.all_cons, List.all_nil, Value.oneCell', List.set_cons_zero, List.set_cons_succ, sets, fillL, Nat.reduceLeDiff, List.drop_succ_cons, List.drop_zero, List.take_succ_cons, List.take_zero, List.toList_toArray, argsE, Array.append_empty, Array.empty_append, List.getElem?_toArray, Int.reduceLT, Int.reduceLE, Int.reduceToNat, Int.reduceEq, Nat.reduceLT, hv, undef_eq]
      refine appK_of sanity_app ?_
      rintro _ _ ⟨e2, rfl⟩
      rw [e2]
      clear e2
      simp only [↓eD0, ↓eD1, eC0, eC1, eC2, eC3, eC4, eC5, eC6, wantedE, ↓reduceIte, Nat.reduceEqDiff, Option.map_some, Option.map_none, reread, List.nil_append, List.cons_append, List.map_cons, List.map_nil, List.length_nil, List.length_cons, Value.cells, List.getElem?_cons_zero, List.getElem?_cons_succ, outE, lks, lkR, rdV, neg1, evs, opt, Nat.reduceAdd, Nat.reduceMul, and_self, reduceCtorEq, List.size_toArray, List.all_cons, List.all_nil, Value.oneCell', List.set_cons_zero, List.set_cons_succ, sets, fillL, Nat.reduceLeDiff, List.drop_succ_cons, List.drop_zero, List.take_succ_cons, List.take_zero, List.toList_toArray, argsE, Array.append_empty, Array.empty_append, List.getElem?_toArray, Int.reduceLT, Int.reduceLE, Int.reduceToNat, Int.reduceEq, Nat.reduceLT]
      exact .ap
    by_cases hek : e.kind = 1
    case pos =>
      have dk : decide (e.kind = 1) = true := by simpa using hek
      simp only [↓eD0, ↓eD1, eC0, eC1, eC2, eC3, eC4, eC5, eC6, wantedE, ↓reduceIte, Nat.reduceEqDiff, Option.map_some, Option.map_none, reread, List.nil_append, List.cons_append, List.map_cons, List.map_nil, List.length_nil, List.length_cons, Value.cells, List.getElem?_cons_zero, List.getElem?_cons_succ, outE, lks, lkR, rdV, neg1, evs, opt, Nat.reduceAdd, Nat.reduceMul, and_self, reduceCtorEq, List.size_toArray, List.all_cons, List.all_nil, Value.oneCell', List.set_cons_zero, List.set_cons_succ, sets, fillL, Nat.reduceLeDiff, List.drop_succ_cons, List.drop_zero, List.take_succ_cons, List.take_zero, List.toList_toArray, argsE, Array.append_empty, Array.empty_append, List.getElem?_toArray, Int.reduceLT, Int.reduceLE, Int.reduceToNat, Int.reduceEq, Nat.reduceLT, hv, undef_eq, dk]
      refine appK_of sanity_app ?_
      rintro _ _ ⟨e2, rfl⟩
      rw [e2]
      clear e2
      simp only [↓eD0, ↓eD1, eC0, eC1, eC2, eC3, eC4, eC5, eC6, wantedE, ↓reduceIte, Nat.reduceEqDiff, Option.map_some, Option.map_none, reread, List.nil_append, List.cons_append, List.map_cons, List.map_nil, List.length_nil, List.length_cons, Value.cells, List.getElem?_cons_zero, List.getElem?_cons_succ, outE, lks, lkR, rdV, neg1, evs, opt, Nat.reduceAdd, Nat.reduceMul, and_self, reduceCtorEq, List.size_toArray, List.all_cons, List.all_nil, Value.oneCell', List.set_cons_zero, List.set_cons_succ, sets, fillL, Nat.reduceLeDiff, List.drop_succ_cons, List.drop_zero, List.take_succ_cons, List.take_zero, List.toList_toArray, argsE, Array.append_empty, Array.empty_append, List.getElem?_toArray, Int.reduceLT, Int.reduceLE, Int.reduceToNat, Int.reduceEq, Nat.reduceLT]
      exact .ap
    have dk : decide (e.kind = 1) = false := by simpa using hek
    have hx : A.E[i]? = some e := by
      obtain ⟨a, hx, h1⟩ := hs
      rcases h1 with ⟨_, rfl, _⟩ | ⟨b, _, _, _, h1⟩
      · exact hx
      · rcases h1 with ⟨_, _, _, h1⟩ | ⟨_, rfl, _⟩
        · cases h1
        · exact hx
    have hiA : i < A.E.length := (List.getElem?_eq_some_iff.1 hx).1
    obtain ⟨D, hDF, hDd, hDc, hDE, hDk⟩ := drop_is fa hx hek
    have hDl : D.E.length = A.E.length - 1 := by rw [hDE]; simp; omega
    have sd : Sized D.E := fun x hx => sa x (by
      rw [hDE] at hx
      rcases List.mem_append.1 hx with hx | hx
      · exact List.mem_of_mem_take hx
      · exact List.mem_of_mem_drop hx)
    have hcD : contR D.d D.c D.E B.d B.c B.E = contF D.E B.E (D.E.length + B.E.length + 1) 0 0 0 0 := by
      unfold contR; rw [if_neg (by simp [hd, hc, hDd, hDc])]
    simp only [↓eD0, ↓eD1, eC0, eC1, eC2, eC3, eC4, eC5, eC6, wantedE, ↓reduceIte, Nat.reduceEqDiff, Option.map_some, Option.map_none, reread, List.nil_append, List.cons_append, List.map_cons, List.map_nil, List.length_nil, List.length_cons, Value.cells, List.getElem?_cons_zero, List.getElem?_cons_succ, outE, lks, lkR, rdV, neg1, evs, opt, Nat.reduceAdd, Nat.reduceMul, and_self, reduceCtorEq, List.size_toArray, List.all_cons, List.all_nil, Value.oneCell', List.set_cons_zero, List.set_cons_succ, sets, fillL, Nat.reduceLeDiff, List.drop_succ_cons, List.drop_zero, List.take_succ_cons, List.take_zero, List.toList_toArray, argsE, Array.append_empty, Array.empty_append, List.getElem?_toArray, Int.reduceLT, Int.reduceLE, Int.reduceToNat, Int.reduceEq, Nat.reduceLT, hv, undef_eq, dk, la1, lb1, ta, tb]
    refine appK_of (drop_app (i := i) (hA.Old .ap)) ?_
    rintro _ τ1 ⟨ho1, l1, rfl, hKL⟩
    rw [hDF] at hKL ⊢
    simp only at hKL
    obtain ⟨k1, k2, k3, k4, rfl, _, _, _⟩ := hKL.recs
    have hdk := hKL.log.d16
    have p0 := (ho1.2 σ.size (by simp [ap_size])).trans ap_new0
    have p1 := (ho1.2 (σ.size + 1) (by simp [ap_size])).trans ap_new
    have p2 := (ho1.2 (σ.size + 2) (by simp [ap_size])).trans ap_new
    have e1 : ap τ1 [] = τ1 := ap_nil
    have y0 := (Array.getElem?_eq_some_iff.1 p0).1
    have y1 := (Array.getElem?_eq_some_iff.1 p1).1
    have y2 := (Array.getElem?_eq_some_iff.1 p2).1
    have ra : ∀ L, rdN (ap τ1 L) ⟨σ.size, 0, none⟩ 19 = some la := fun L => rdN_all ((ap_old y0).trans p0) la1
    have rb : ∀ L, rdN (ap τ1 L) ⟨σ.size + 1, 0, none⟩ 19 = some lb := fun L => rdN_all ((ap_old y1).trans p1) lb1
    have ra17 : ∀ L, rd1 (ap τ1 L) ⟨σ.size, 17, none⟩ = some (.slice a1 A.E.length b1) := fun L => by rw [rd1_eq, ap_old y0, p0]; exact l17
    have r1 : ∀ L, rd1 (ap τ1 L) ⟨σ.size + 2, 1, none⟩ = some (.int .i64 i) := fun L => by rw [rd1_eq, ap_old y2, p2]; rfl
    have r2 : ∀ L, rd1 (ap τ1 L) ⟨σ.size + 2, 2, none⟩ = some (.int .i64 k) := fun L => by rw [rd1_eq, ap_old y2, p2]; rfl
    have hoo : ∀ L, Old σ (ap τ1 L) := fun L => (Old.ap.trans ho1).trans .ap
    have wl : IntKind.wrap .i64 ((A.E.length : Int) - 1) = (D.E.length : Int) := by rw [wrap64 (by omega) (by omega), hDl]; omega
    have dl : decide ((D.E.length : Int) = (D.E.length : Int)) = true := by simp
    have hne : ∀ z : Int, decide (z = z) = true := fun z => by simp
    rw [← e1]
    simp only [↓eD0, ↓eD1, eC0, eC1, eC2, eC3, eC4, eC5, eC6, wantedE, ↓reduceIte, Nat.reduceEqDiff, Option.map_some, Option.map_none, reread, List.nil_append, List.cons_append, List.map_cons, List.map_nil, List.length_nil, List.length_cons, Value.cells, List.getElem?_cons_zero, List.getElem?_cons_succ, outE, lks, lkR, rdV, neg1, evs, opt, Nat.reduceAdd, Nat.reduceMul, and_self, reduceCtorEq, List.size_toArray, List.all_cons, List.all_nil, Value.oneCell', List.set_cons_zero, List.set_cons_succ, sets, fillL, Nat.reduceLeDiff, List.drop_succ_cons, List.drop_zero, List.take_succ_cons, List.take_zero, List.toList_toArray, argsE, Array.append_empty, Array.empty_append, List.getElem?_toArray, Int.reduceLT, Int.reduceLE, Int.reduceToNat, Int.reduceEq, Nat.reduceLT, rec_len hdk, rec_take hdk, rec_sets hdk, rec_one, rec_ne, rec17 hdk, ra, rb, ra17, r1, r2, wl, dl]
    refine appK_of (check_app (hKL.Old .ap) (hG.Old (hoo _))) ?_
    rintro _ _ ⟨e2, rfl⟩
    rw [e2, hDk]
    clear e2
    simp only [↓eD0, ↓eD1, eC0, eC1, eC2, eC3, eC4, eC5, eC6, wantedE, ↓reduceIte, Nat.reduceEqDiff, Option.map_some, Option.map_none, reread, List.nil_append, List.cons_append, List.map_cons, List.map_nil, List.length_nil, List.length_cons, Value.cells, List.getElem?_cons_zero, List.getElem?_cons_succ, outE, lks, lkR, rdV, neg1, evs, opt, Nat.reduceAdd, Nat.reduceMul, and_self, reduceCtorEq, List.size_toArray, List.all_cons, List.all_nil, Value.oneCell', List.set_cons_zero, List.set_cons_succ, sets, fillL, Nat.reduceLeDiff, List.drop_succ_cons, List.drop_zero, List.take_succ_cons, List.take_zero, List.toList_toArray, argsE, Array.append_empty, Array.empty_append, List.getElem?_toArray, Int.reduceLT, Int.reduceLE, Int.reduceToNat, Int.reduceEq, Nat.reduceLT, rec_len hdk, rec_take hdk, rec_sets hdk, rec_one, rec_ne, rec17 hdk, ra, rb, ra17, r1, r2]
    refine appK_of (merge_app (hKL.Old .ap).log (hB.Old (hoo _)).log sd sb) ?_
    rintro _ _ ⟨e2, rfl⟩
    rw [e2]
    clear e2
    cases hr2 : contR D.d D.c D.E B.d B.c B.E with
    | goesOn =>
      have hv2 : contV CR.goesOn = .tuple #[.agg #[.int .i64 0, .int .i64 0, .int .i64 0, .int .i64 0, .int .i64 0, .int .i64 0, .int .i64 0, .string ⟨#[]⟩, .bool false], .bool true] := rfl
      simp only [↓eD0, ↓eD1, eC0, eC1, eC2, eC3, eC4, eC5, eC6, wantedE, ↓reduceIte, Nat.reduceEqDiff, Option.map_some, Option.map_none, reread, List.nil_append, List.cons_append, List.map_cons, List.map_nil, List.length_nil, List.length_cons, Value.cells, List.getElem?_cons_zero, List.getElem?_cons_succ, outE, lks, lkR, rdV, neg1, evs, opt, Nat.reduceAdd, Nat.reduceMul, and_self, reduceCtorEq, List.size_toArray, List.all_cons, List.all_nil, Value.oneCell', List.set_cons_zero, List.set_cons_succ, sets, fillL, Nat.reduceLeDiff, List.drop_succ_cons, List.drop_zero, List.take_succ_cons, List.take_zero, List.toList_toArray, argsE, Array.append_empty, Array.empty_append, List.getElem?_toArray, Int.reduceLT, Int.reduceLE, Int.reduceToNat, Int.reduceEq, Nat.reduceLT, hv2]
      refine appK_of sanity_app ?_
      rintro _ _ ⟨e2, rfl⟩
      rw [e2]
      clear e2
      simp only [↓eD0, ↓eD1, eC0, eC1, eC2, eC3, eC4, eC5, eC6, wantedE, ↓reduceIte, Nat.reduceEqDiff, Option.map_some, Option.map_none, reread, List.nil_append, List.cons_append, List.map_cons, List.map_nil, List.length_nil, List.length_cons, Value.cells, List.getElem?_cons_zero, List.getElem?_cons_succ, outE, lks, lkR, rdV, neg1, evs, opt, Nat.reduceAdd, Nat.reduceMul, and_self, reduceCtorEq, List.size_toArray, List.all_cons, List.all_nil, Value.oneCell', List.set_cons_zero, List.set_cons_succ, sets, fillL, Nat.reduceLeDiff, List.drop_succ_cons, List.drop_zero, List.take_succ_cons, List.take_zero, List.toList_toArray, argsE, Array.append_empty, Array.empty_append, List.getElem?_toArray, Int.reduceLT, Int.reduceLE, Int.reduceToNat, Int.reduceEq, Nat.reduceLT, undef_eq]
      exact hoo _
    | stop p q e2' x2 =>
      obtain ⟨f1, f2, f3, f4, f5⟩ := further sa hDE hs hek hcont (hcD.symm.trans hr2)
      have hv2 : contV (CR.stop p q e2' x2) = .tuple #[.agg #[.int .i64 0, .int .i64 p, .int .i64 q, .int .i64 e2'.kind, .int .i64 e2'.cpu, .int .i64 e2'.count, .int .i64 e2'.n, .string e2'.data, .bool x2], .bool false] := rfl
      have d1 : decide ((i:Int) ≤ (p:Int)) = true := by simpa using f1
      have d2 : decide ((k:Int) ≤ (q:Int)) = true := by simpa using f2
      have d3 : decide (stepsF (A.E.take i) ≤ stepsF (D.E.take p)) = true := by simpa using f5
      simp only [↓eD0, ↓eD1, eC0, eC1, eC2, eC3, eC4, eC5, eC6, wantedE, ↓reduceIte, Nat.reduceEqDiff, Option.map_some, Option.map_none, reread, List.nil_append, List.cons_append, List.map_cons, List.map_nil, List.length_nil, List.length_cons, Value.cells, List.getElem?_cons_zero, List.getElem?_cons_succ, outE, lks, lkR, rdV, neg1, evs, opt, Nat.reduceAdd, Nat.reduceMul, and_self, reduceCtorEq, List.size_toArray, List.all_cons, List.all_nil, Value.oneCell', List.set_cons_zero, List.set_cons_succ, sets, fillL, Nat.reduceLeDiff, List.drop_succ_cons, List.drop_zero, List.take_succ_cons, List.take_zero, List.toList_toArray, argsE, Array.append_empty, Array.empty_append, List.getElem?_toArray, Int.reduceLT, Int.reduceLE, Int.reduceToNat, Int.reduceEq, Nat.reduceLT, hv2]
      refine appK_of sanity_app ?_
      rintro _ _ ⟨e2, rfl⟩
      rw [e2]
      clear e2
      simp only [↓eD0, ↓eD1, eC0, eC1, eC2, eC3, eC4, eC5, eC6, wantedE, ↓reduceIte, Nat.reduceEqDiff, Option.map_some, Option.map_none, reread, List.nil_append, List.cons_append, List.map_cons, List.map_nil, List.length_nil, List.length_cons, Value.cells, List.getElem?_cons_zero, List.getElem?_cons_succ, outE, lks, lkR, rdV, neg1, evs, opt, Nat.reduceAdd, Nat.reduceMul, and_self, reduceCtorEq, List.size_toArray, List.all_cons, List.all_nil, Value.oneCell', List.set_cons_zero, List.set_cons_succ, sets, fillL, Nat.reduceLeDiff, List.drop_succ_cons, List.drop_zero, List.take_succ_cons, List.take_zero, List.toList_toArray, argsE, Array.append_empty, Array.empty_append, List.getElem?_toArray, Int.reduceLT, Int.reduceLE, Int.reduceToNat, Int.reduceEq, Nat.reduceLT, undef_eq, d1, d2, r1, r2, rec_len hdk, rec_take hdk, ra, rb]
      refine appK_of (steps_app (hKL.Old .ap) f3 sd (by omega)) ?_
      rintro _ _ ⟨e2, rfl⟩
      rw [e2]
      clear e2
      simp only [↓eD0, ↓eD1, eC0, eC1, eC2, eC3, eC4, eC5, eC6, wantedE, ↓reduceIte, Nat.reduceEqDiff, Option.map_some, Option.map_none, reread, List.nil_append, List.cons_append, List.map_cons, List.map_nil, List.length_nil, List.length_cons, Value.cells, List.getElem?_cons_zero, List.getElem?_cons_succ, outE, lks, lkR, rdV, neg1, evs, opt, Nat.reduceAdd, Nat.reduceMul, and_self, reduceCtorEq, List.size_toArray, List.all_cons, List.all_nil, Value.oneCell', List.set_cons_zero, List.set_cons_succ, sets, fillL, Nat.reduceLeDiff, List.drop_succ_cons, List.drop_zero, List.take_succ_cons, List.take_zero, List.toList_toArray, argsE, Array.append_empty, Array.empty_append, List.getElem?_toArray, Int.reduceLT, Int.reduceLE, Int.reduceToNat, Int.reduceEq, Nat.reduceLT, undef_eq, d1, d2, r1, r2, rec_len hdk, rec_take hdk, ra, rb]
      refine appK_of (steps_app (hA.Old (hoo _)) f4 sa (by omega)) ?_
      rintro _ _ ⟨e2, rfl⟩
      rw [e2]
      clear e2
      simp only [↓eD0, ↓eD1, eC0, eC1, eC2, eC3, eC4, eC5, eC6, wantedE, ↓reduceIte, Nat.reduceEqDiff, Option.map_some, Option.map_none, reread, List.nil_append, List.cons_append, List.map_cons, List.map_nil, List.length_nil, List.length_cons, Value.cells, List.getElem?_cons_zero, List.getElem?_cons_succ, outE, lks, lkR, rdV, neg1, evs, opt, Nat.reduceAdd, Nat.reduceMul, and_self, reduceCtorEq, List.size_toArray, List.all_cons, List.all_nil, Value.oneCell', List.set_cons_zero, List.set_cons_succ, sets, fillL, Nat.reduceLeDiff, List.drop_succ_cons, List.drop_zero, List.take_succ_cons, List.take_zero, List.toList_toArray, argsE, Array.append_empty, Array.empty_append, List.getElem?_toArray, Int.reduceLT, Int.reduceLE, Int.reduceToNat, Int.reduceEq, Nat.reduceLT, undef_eq, d3]
      exact hoo _
end Go.Proofs.YtljmjkpmkpchoaaDoor
