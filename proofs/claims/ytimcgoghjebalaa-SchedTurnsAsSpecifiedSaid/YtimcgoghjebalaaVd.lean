/- Walks of the functions that the claim reaches. Conditions: none. -/
import Derived.Test.YtimcgoghjebalaaVc
set_option linter.all false
set_option linter.unusedSimpArgs false
set_option linter.unusedVariables false
set_option maxRecDepth 10000
set_option maxHeartbeats 1000000
namespace Go.Proofs.Ytimcgoghjebalaa
open Go Go.Cn Go.RowKit

/-! ### Reading a row whole -/
theorem allS_append : ∀ {a b : List (Option Value)} {x y : List Value}, allS a = some x → allS b = some y → allS (a ++ b) = some (x ++ y)
  | [], b, x, y, h1, h2 => by simp only [allS, Option.some.injEq] at h1; subst h1; simpa using h2
  | none :: a, b, x, y, h1, h2 => by cases h1
  | some u :: a, b, x, y, h1, h2 => by
    simp only [allS, Option.map_eq_some_iff] at h1
    obtain ⟨x', g1, rfl⟩ := h1
    simp only [List.cons_append, allS, allS_append g1 h2, Option.map_some]
theorem rdN_add {σ : H} {b o m k : Nat} {x y : List Value} (h1 : rdN σ ⟨b, o, none⟩ m = some x) (h2 : rdN σ ⟨b, o + m, none⟩ k = some y) : rdN σ ⟨b, o, none⟩ (m + k) = some (x ++ y) := by
  by_cases hm : m = 0
  · subst hm
    rw [rdN_eq, if_pos rfl] at h1
    injection h1 with h1
    subst h1
    simpa using h2
  by_cases hk : k = 0
  · subst hk
    rw [rdN_eq, if_pos rfl] at h2
    injection h2 with h2
    subst h2
    simpa using h1
  rw [rdN_eq, if_neg hm] at h1
  rw [rdN_eq, if_neg hk] at h2
  rw [rdN_eq, if_neg (by omega)]
  simp only at h1 h2 ⊢
  generalize σ[b]? = q at h1 h2 ⊢
  cases q with
  | none => cases h1
  | some q =>
    cases q with
    | cells v cs fz =>
      simp only [rdcN] at h1 h2 ⊢
      split at h1
      · split at h2
        · injection h1 with h1
          injection h2 with h2
          subst h1 h2
          rw [if_pos (by omega), List.take_add, List.drop_drop]
        · cases h2
      · cases h1
    | part cs =>
      simp only [rdcN] at h1 h2 ⊢
      split at h1
      · split at h2
        · rw [if_pos (by omega), List.take_add, List.drop_drop]
          exact allS_append h1 h2
        · cases h2
      · cases h1
    | _ => cases h1
theorem rows_read {σ : H} {s b o : Nat} {xs : List (List Value)} (h : ∀ (i : Nat) (x : List Value), xs[i]? = some x → rdN σ ⟨b, o + i * s, none⟩ s = some x) : ∀ n, n ≤ xs.length → rdN σ ⟨b, o, none⟩ (n * s) = some (xs.take n).flatten
  | 0, _ => by simp [rdN_eq]
  | n + 1, hn => by
    have ih := rows_read h n (by omega)
    have h1 := h n xs[n] (by simp)
    have e : (xs.take (n + 1)).flatten = (xs.take n).flatten ++ xs[n] := by rw [List.take_succ_eq_append_getElem (by omega), List.flatten_append]; simp
    rw [Nat.add_mul, Nat.one_mul, rdN_add ih h1, e]
theorem row_xcells {σ : H} {s : Nat} {v : Value} {xs : List (List Value)} (h : Row σ s v xs) : xcells σ s v = some (xs.length, xs.flatten) := by
  obtain ⟨base, cap, rfl, h2⟩ := h
  cases xs with
  | nil =>
    cases base with
    | none => simp [xcells]
    | some a => simp [xcells, rdN_eq]
  | cons x r =>
    obtain ⟨b, off, rfl, _⟩ := h2 0 x rfl
    have := rows_read (σ := σ) (s := s) (b := b) (o := off) (xs := x :: r) (fun i y hy => by
      obtain ⟨b', off', hb, hr⟩ := h2 i y hy
      injection hb with hb
      injection hb with hb1 hb2 hb3
      subst hb1 hb2
      exact hr) (x :: r).length (Nat.le_refl _)
    simp only [xcells, this, Option.map_some, List.take_length]
/-- The last elements of a slice. -/
theorem row_suf {σ : H} {s n c i : Nat} {a : Option Addr} {xs : List (List Value)} (h : Row σ s (.slice a n c) xs) (hc : CapOk s (.slice a n c)) (hi : i ≤ n) :
    ∃ v', sliceV s (.slice a n c) (some (.int .i64 i)) none none = some v' ∧ Row σ s v' (xs.drop i) ∧ CapOk s v' := by
  obtain ⟨h1, h2⟩ := hc.slice
  have e0 : bnd (some (.int .i64 (i : Int))) 0 n = some i := by simp only [bnd, asI]; rw [if_pos (by omega)]; simp
  have e1 : bnd none n (capLow c) = some n := rfl
  have hn : n = xs.length := by obtain ⟨b, cap, h3, _⟩ := h; injection h3
  obtain ⟨g1, g2⟩ := cap_sub (c := c) (l := i) (by omega)
  refine ⟨.slice (a.map fun a => ⟨a.block, a.off + i * s, none⟩) (n - i) (c - i), ?_, ⟨a.map fun a => ⟨a.block, a.off + i * s, none⟩, c - i, ?_, ?_⟩, ⟨_, _, _, rfl, by omega, by rw [g2]; exact h2⟩⟩
  · unfold sliceV
    simp only
    rw [if_pos h2, bnds_eq e0 e1]
  · rw [List.length_drop, hn]
  · intro j x hx
    rw [List.getElem?_drop] at hx
    obtain ⟨b, off, h3, h4⟩ := h.at hx
    refine ⟨b, off + i * s, ?_, ?_⟩
    · rw [h3]; simp
    · rw [show off + i * s + j * s = off + (i + j) * s by rw [Nat.add_mul]; omega]; exact h4

/-! ### Where a machine is -/
def placeF : List Ten → Int → Nat
  | [], _ => 0
  | t :: r, m => if m ≤ t.m then 0 else placeF r m + 1
def isF (L : List Ten) (m : Int) : Bool := match L[placeF L m]? with | some t => decide (t.m = m) | none => false
theorem place_le : ∀ {L : List Ten} {m : Int}, placeF L m ≤ L.length
  | [], _ => Nat.le_refl _
  | t :: r, m => by
    rw [placeF, List.length_cons]
    split
    · omega
    · have := place_le (L := r) (m := m); omega
def Srt (L : List Ten) : Prop := L.Pairwise fun a b => a.m < b.m
theorem place_iff : ∀ {L : List Ten} {m : Int}, Srt L → ∀ i (h : i < L.length), m ≤ L[i].m ↔ placeF L m ≤ i
  | [], _, _, i, h => by simp at h
  | t :: r, m, hs, i, h => by
    obtain ⟨h1, h2⟩ := List.pairwise_cons.1 hs
    rw [placeF]
    cases i with
    | zero =>
      simp only [List.getElem_cons_zero]
      split <;> omega
    | succ i =>
      have hi : i < r.length := by simpa using h
      have ih := place_iff (m := m) h2 i hi
      have := h1 r[i] (by simp)
      simp only [List.getElem_cons_succ]
      split
      · omega
      · omega
theorem srt_of_good {L : List Ten} (h : ∀ j, j < L.length → goodT L j = true) : Srt L := by
  have key : ∀ j (hj : j < L.length) i (hi : i < j), L[i].m < L[j].m := by
    intro j
    induction j with
    | zero => intro _ i hi; omega
    | succ j ih =>
      intro hj i hi
      have := h (j + 1) hj
      rw [goodT_get hj, prevM_succ (by omega)] at this
      simp only [Bool.and_eq_true, decide_eq_true_eq] at this
      have h1 := this.1
      by_cases hij : i = j
      · subst hij; exact h1
      · have := ih (by omega) i (by omega); omega
  rw [Srt, List.pairwise_iff_getElem]
  intro i j hi hj hij
  exact key j hj i hij
theorem good_of_valid {B : Bud} (h : validF B = true) : (∀ j, j < B.L.length → goodT B.L j = true) ∧ B.L.length ≤ 32 := by
  simp only [validF, Bool.and_eq_true, decide_eq_true_eq, List.all_eq_true, List.mem_range] at h
  exact ⟨h.2.2.2.1, h.2.2.1⟩

theorem find1_app {σ : H} {L : List Ten} {sl : Value} {b b2 : Nat} {m : Int} {i : Nat} (h1 : rd1 σ ⟨b, 2, none⟩ = some sl) (h2 : rd1 σ ⟨b2, 0, none⟩ = some (.int .i64 m)) (hr : Row σ 7 sl (L.map tenV)) (hi : i < L.length) (hs : Srt L) :
    App Try.prog (.func 47) #[.pointer (some ⟨b, 0, none⟩), .pointer (some ⟨b2, 0, none⟩)] #[.int .i64 i] σ fun v σ' => σ' = σ ∧ v = .bool (decide ((placeF L m : Int) ≤ i)) := by
  refine App.forget (App.of_sem mixed Try.func47 t47 k47 r47 (Nat.le_of_ble_eq_true rfl) ?_)
  obtain ⟨base, cap, rfl⟩ := hr.slice
  simp only [List.length_map] at hr h1
  have hx : (L.map tenV)[i]? = some (tenV L[i]) := by simp [hi]
  obtain ⟨b', off, rfl, g1⟩ := hr.at hx
  have h1' : ∀ l, rd1 (ap σ l) ⟨b, 2, none⟩ = some (.slice (some ⟨b', off, none⟩) L.length cap) := fun l => rd1_old h1
  have h2' : ∀ l, rd1 (ap σ l) ⟨b2, 0, none⟩ = some (.int .i64 m) := fun l => rd1_old h2
  have g3 : ∀ l, rd1 (ap σ l) ⟨b', off + i * 7, none⟩ = some (.int .i64 L[i].m) := fun l => rd1_row (rdN_old g1) (j := 0) rfl
  have hb : (0:Int) ≤ (i:Int) ∧ (i:Int) < (L.length : Int) := by omega
  have hp := place_iff (m := m) hs i hi
  rw [← ap_nil (σ := σ)]
  unfold s47
  simp only [↓eD0, ↓eD1, eC0, eC1, eC2, eC3, eC4, eC5, eC6, wantedE, ↓reduceIte, Nat.reduceEqDiff, Option.map_some, Option.map_none, reread, List.nil_append, List.cons_append, List.map_cons, List.map_nil, List.length_nil, List.length_cons, Value.cells, List.getElem?_cons_zero, List.getElem?_cons_succ, outE, lks, lkR, rdV, neg1, evs, opt, Nat.reduceAdd, Nat.reduceMul, and_self, reduceCtorEq, List.size_toArray, List.all_cons, List.all_nil, Value.oneCell', List.set_cons_zero, List.set_cons_succ, sets, fillL, Nat.reduceLeDiff, List.drop_succ_cons, List.drop_zero, List.take_succ_cons, List.take_zero, List.toList_toArray, argsE, Array.append_empty, Array.empty_append, List.getElem?_toArray, Int.reduceLT, Int.reduceLE, Int.reduceToNat, Int.reduceEq, Nat.reduceLT, h1', h2', g3, hb, Int.toNat_natCast]
  refine ⟨.ap, by simp [flat], ?_⟩
  congr 1
  rw [Bool.eq_iff_iff, decide_eq_true_eq, decide_eq_true_eq, hp]
  omega

theorem find_app {σ : H} {l : List Value} {B : Bud} {m : Int} (h : IsB σ l B) (hs : Srt B.L) (hn : B.L.length ≤ 100000) :
    App Try.prog (.func 41) #[] #[.agg l.toArray, .int .i64 m] σ fun v σ' => σ' = σ ∧ v = .tuple #[.int .i64 (placeF B.L m), .bool (isF B.L m)] := by
  refine App.forget (App.of_sem mixed Try.func41 t41 k41 r41 (Nat.le_of_ble_eq_true rfl) ?_)
  obtain ⟨base, cap, rfl, hr, _⟩ := h
  have hp := place_le (L := B.L) (m := m)
  rw [← ap_nil (σ := σ)]
  unfold s41
  simp only [↓eD0, ↓eD1, eC0, eC1, eC2, eC3, eC4, eC5, eC6, wantedE, ↓reduceIte, Nat.reduceEqDiff, Option.map_some, Option.map_none, reread, List.nil_append, List.cons_append, List.map_cons, List.map_nil, List.length_nil, List.length_cons, Value.cells, List.getElem?_cons_zero, List.getElem?_cons_succ, outE, lks, lkR, rdV, neg1, evs, opt, Nat.reduceAdd, Nat.reduceMul, and_self, reduceCtorEq, List.size_toArray, List.all_cons, List.all_nil, Value.oneCell', List.set_cons_zero, List.set_cons_succ, sets, fillL, Nat.reduceLeDiff, List.drop_succ_cons, List.drop_zero, List.take_succ_cons, List.take_zero, List.toList_toArray, argsE, Array.append_empty, Array.empty_append, List.getElem?_toArray, Int.reduceLT, Int.reduceLE, Int.reduceToNat, Int.reduceEq, Nat.reduceLT, budV]
  refine appK_of (search_app (L := (placeF B.L m : Int)) (by omega) (by omega) (by omega) (fun t τ h0 h1 ho => ?_)) ?_
  · obtain ⟨i, rfl⟩ : ∃ i : Nat, t = i := ⟨t.toNat, by omega⟩
    exact find1_app (L := B.L) (m := m) (rd1_Old ho (by rw [rd1_ap0]; rfl)) (rd1_Old ho (by rw [rd1_ap]; rfl)) (hr.Old (Old.trans .ap ho)) (by omega) hs
  rintro _ _ ⟨e2, rfl⟩
  rw [e2]
  clear e2
  by_cases hlt : placeF B.L m < B.L.length
  · have dl : decide ((placeF B.L m : Int) < (B.L.length : Int)) = true := by simpa using hlt
    have hx : (B.L.map tenV)[placeF B.L m]? = some (tenV B.L[placeF B.L m]) := by simp [hlt]
    obtain ⟨b', off, rfl, g1⟩ := hr.at hx
    have g3 : ∀ l, rd1 (ap σ l) ⟨b', off + placeF B.L m * 7, none⟩ = some (.int .i64 B.L[placeF B.L m].m) := fun l => rd1_row (rdN_old g1) (j := 0) rfl
    have hb : (0:Int) ≤ (placeF B.L m:Int) ∧ (placeF B.L m:Int) < (B.L.length : Int) := by omega
    simp only [↓eD0, ↓eD1, eC0, eC1, eC2, eC3, eC4, eC5, eC6, wantedE, ↓reduceIte, Nat.reduceEqDiff, Option.map_some, Option.map_none, reread, List.nil_append, List.cons_append, List.map_cons, List.map_nil, List.length_nil, List.length_cons, Value.cells, List.getElem?_cons_zero, List.getElem?_cons_succ, outE, lks, lkR, rdV, neg1, evs, opt, Nat.reduceAdd, Nat.reduceMul, and_self, reduceCtorEq, List.size_toArray, List.all_cons, List.all_nil, Value.oneCell', List.set_cons_zero, List.set_cons_succ, sets, fillL, Nat.reduceLeDiff, List.drop_succ_cons, List.drop_zero, List.take_succ_cons, List.take_zero, List.toList_toArray, argsE, Array.append_empty, Array.empty_append, List.getElem?_toArray, Int.reduceLT, Int.reduceLE, Int.reduceToNat, Int.reduceEq, Nat.reduceLT, dl, hb, Int.toNat_natCast, g3]
    exact ⟨.ap, by simp [flat, flat.flat1], by simp [isF, hlt]⟩
  · have dl : decide ((placeF B.L m : Int) < (B.L.length : Int)) = false := by simpa using hlt
    simp only [↓eD0, ↓eD1, eC0, eC1, eC2, eC3, eC4, eC5, eC6, wantedE, ↓reduceIte, Nat.reduceEqDiff, Option.map_some, Option.map_none, reread, List.nil_append, List.cons_append, List.map_cons, List.map_nil, List.length_nil, List.length_cons, Value.cells, List.getElem?_cons_zero, List.getElem?_cons_succ, outE, lks, lkR, rdV, neg1, evs, opt, Nat.reduceAdd, Nat.reduceMul, and_self, reduceCtorEq, List.size_toArray, List.all_cons, List.all_nil, Value.oneCell', List.set_cons_zero, List.set_cons_succ, sets, fillL, Nat.reduceLeDiff, List.drop_succ_cons, List.drop_zero, List.take_succ_cons, List.take_zero, List.toList_toArray, argsE, Array.append_empty, Array.empty_append, List.getElem?_toArray, Int.reduceLT, Int.reduceLE, Int.reduceToNat, Int.reduceEq, Nat.reduceLT, dl, undef_eq]
    exact ⟨.ap, by simp [flat, flat.flat1], by simp [isF, hlt]⟩
end Go.Proofs.Ytimcgoghjebalaa

set_option linter.unusedSimpArgs false
set_option linter.unusedVariables false
set_option maxRecDepth 10000
set_option maxHeartbeats 1000000
namespace Go.Proofs.Ytimcgoghjebalaa
open Go Go.Cn Go.RowKit

def putT (B : Bud) (t : Ten) : Bud := ⟨B.st, B.pg, B.L.take (placeF B.L t.m) ++ [t] ++ B.L.drop (placeF B.L t.m)⟩
def admitF (B : Bud) (t : Ten) : Bud × Int :=
  if t.m < 1 ∨ ¬ t.st.Ok ∨ ¬ t.pg.Ok then (B, 1) else if isF B.L t.m = true then (B, 6) else if validF (putT B t) = true then (putT B t, 0) else (B, 2)

theorem tenV_rows {L : List Ten} : ∀ r ∈ L.map tenV, r.length = 7 := by intro r hr; obtain ⟨c, _, rfl⟩ := List.mem_map.1 hr; rfl
theorem budV_len {B : Bud} {base : Option Addr} {cap : Nat} : (budV B base cap).length = 3 := rfl

theorem admit_app {σ : H} {l : List Value} {B : Bud} {t : Ten} (h : IsB σ l B) (hs : Srt B.L) (hn : B.L.length ≤ 1000) :
    App Try.prog (.func 22) #[] #[.agg l.toArray, .agg (tenV t).toArray] σ fun v σ' => Old σ σ' ∧ ∃ l', v = .tuple #[.agg l'.toArray, .int .i64 (admitF B t).2] ∧ IsB σ' l' (admitF B t).1 ∧ ((admitF B t).2 = 0 → ∀ c v, l'[2]? = some v → baseOf v = some c → σ.size ≤ c) := by
  refine App.of_sem mixed Try.func22 t22 k22 r22 (Nat.le_of_ble_eq_true rfl) ?_
  have hB := h
  obtain ⟨base, cap, rfl, hr, hcap⟩ := h
  rw [← ap_nil (σ := σ)]
  unfold s22
  by_cases h1 : t.m < 1
  case pos =>
    have d1 : decide (t.m < 1) = true := by simpa using h1
    simp only [↓eD0, ↓eD1, eC0, eC1, eC2, eC3, eC4, eC5, eC6, wantedE, ↓reduceIte, Nat.reduceEqDiff, Option.map_some, Option.map_none, reread, List.nil_append, List.cons_append, List.map_cons, List.map_nil, List.length_nil, List.length_cons, Value.cells, List.getElem?_cons_zero, List.getElem?_cons_succ, outE, lks, lkR, rdV, neg1, evs, opt, Nat.reduceAdd, Nat.reduceMul, and_self, reduceCtorEq, List.size_toArray, List.all_cons, List.all_nil, Value.oneCell', List.set_cons_zero, List.set_cons_succ, sets, fillL, Nat.reduceLeDiff, List.drop_succ_cons, List.drop_zero, List.take_succ_cons, List.take_zero, List.toList_toArray, argsE, Array.append_empty, Array.empty_append, List.getElem?_toArray, Int.reduceLT, Int.reduceLE, Int.reduceToNat, Int.reduceEq, Nat.reduceLT, budV, tenV, rep7, d1, undef_eq]
    have : admitF B t = (B, 1) := by unfold admitF; rw [if_pos (.inl h1)]
    rw [this]
    exact ⟨.ap, _, rfl, hB.Old .ap, fun hz => by simp at hz⟩
  have d1 : decide (t.m < 1) = false := by simpa using h1
  simp only [↓eD0, ↓eD1, eC0, eC1, eC2, eC3, eC4, eC5, eC6, wantedE, ↓reduceIte, Nat.reduceEqDiff, Option.map_some, Option.map_none, reread, List.nil_append, List.cons_append, List.map_cons, List.map_nil, List.length_nil, List.length_cons, Value.cells, List.getElem?_cons_zero, List.getElem?_cons_succ, outE, lks, lkR, rdV, neg1, evs, opt, Nat.reduceAdd, Nat.reduceMul, and_self, reduceCtorEq, List.size_toArray, List.all_cons, List.all_nil, Value.oneCell', List.set_cons_zero, List.set_cons_succ, sets, fillL, Nat.reduceLeDiff, List.drop_succ_cons, List.drop_zero, List.take_succ_cons, List.take_zero, List.toList_toArray, argsE, Array.append_empty, Array.empty_append, List.getElem?_toArray, Int.reduceLT, Int.reduceLE, Int.reduceToNat, Int.reduceEq, Nat.reduceLT, budV, tenV, rep7, d1, undef_eq]
  refine appK_of (right_app (c := t.st)) ?_
  rintro _ _ ⟨e2, rfl⟩
  rw [e2]
  clear e2
  by_cases h2 : t.st.Ok
  case neg =>
    have d2 : decide t.st.Ok = false := by simpa using h2
    simp only [↓eD0, ↓eD1, eC0, eC1, eC2, eC3, eC4, eC5, eC6, wantedE, ↓reduceIte, Nat.reduceEqDiff, Option.map_some, Option.map_none, reread, List.nil_append, List.cons_append, List.map_cons, List.map_nil, List.length_nil, List.length_cons, Value.cells, List.getElem?_cons_zero, List.getElem?_cons_succ, outE, lks, lkR, rdV, neg1, evs, opt, Nat.reduceAdd, Nat.reduceMul, and_self, reduceCtorEq, List.size_toArray, List.all_cons, List.all_nil, Value.oneCell', List.set_cons_zero, List.set_cons_succ, sets, fillL, Nat.reduceLeDiff, List.drop_succ_cons, List.drop_zero, List.take_succ_cons, List.take_zero, List.toList_toArray, argsE, Array.append_empty, Array.empty_append, List.getElem?_toArray, Int.reduceLT, Int.reduceLE, Int.reduceToNat, Int.reduceEq, Nat.reduceLT, d2, undef_eq]
    have : admitF B t = (B, 1) := by unfold admitF; rw [if_pos (.inr (.inl h2))]
    rw [this]
    exact ⟨.ap, _, rfl, hB.Old .ap, fun hz => by simp at hz⟩
  have d2 : decide t.st.Ok = true := by simpa using h2
  simp only [↓eD0, ↓eD1, eC0, eC1, eC2, eC3, eC4, eC5, eC6, wantedE, ↓reduceIte, Nat.reduceEqDiff, Option.map_some, Option.map_none, reread, List.nil_append, List.cons_append, List.map_cons, List.map_nil, List.length_nil, List.length_cons, Value.cells, List.getElem?_cons_zero, List.getElem?_cons_succ, outE, lks, lkR, rdV, neg1, evs, opt, Nat.reduceAdd, Nat.reduceMul, and_self, reduceCtorEq, List.size_toArray, List.all_cons, List.all_nil, Value.oneCell', List.set_cons_zero, List.set_cons_succ, sets, fillL, Nat.reduceLeDiff, List.drop_succ_cons, List.drop_zero, List.take_succ_cons, List.take_zero, List.toList_toArray, argsE, Array.append_empty, Array.empty_append, List.getElem?_toArray, Int.reduceLT, Int.reduceLE, Int.reduceToNat, Int.reduceEq, Nat.reduceLT, d2, undef_eq]
  refine appK_of (right_app (c := t.pg)) ?_
  rintro _ _ ⟨e2, rfl⟩
  rw [e2]
  clear e2
  by_cases h3 : t.pg.Ok
  case neg =>
    have d3 : decide t.pg.Ok = false := by simpa using h3
    simp only [↓eD0, ↓eD1, eC0, eC1, eC2, eC3, eC4, eC5, eC6, wantedE, ↓reduceIte, Nat.reduceEqDiff, Option.map_some, Option.map_none, reread, List.nil_append, List.cons_append, List.map_cons, List.map_nil, List.length_nil, List.length_cons, Value.cells, List.getElem?_cons_zero, List.getElem?_cons_succ, outE, lks, lkR, rdV, neg1, evs, opt, Nat.reduceAdd, Nat.reduceMul, and_self, reduceCtorEq, List.size_toArray, List.all_cons, List.all_nil, Value.oneCell', List.set_cons_zero, List.set_cons_succ, sets, fillL, Nat.reduceLeDiff, List.drop_succ_cons, List.drop_zero, List.take_succ_cons, List.take_zero, List.toList_toArray, argsE, Array.append_empty, Array.empty_append, List.getElem?_toArray, Int.reduceLT, Int.reduceLE, Int.reduceToNat, Int.reduceEq, Nat.reduceLT, d3, undef_eq]
    have : admitF B t = (B, 1) := by unfold admitF; rw [if_pos (.inr (.inr h3))]
    rw [this]
    exact ⟨.ap, _, rfl, hB.Old .ap, fun hz => by simp at hz⟩
  have d3 : decide t.pg.Ok = true := by simpa using h3
  simp only [↓eD0, ↓eD1, eC0, eC1, eC2, eC3, eC4, eC5, eC6, wantedE, ↓reduceIte, Nat.reduceEqDiff, Option.map_some, Option.map_none, reread, List.nil_append, List.cons_append, List.map_cons, List.map_nil, List.length_nil, List.length_cons, Value.cells, List.getElem?_cons_zero, List.getElem?_cons_succ, outE, lks, lkR, rdV, neg1, evs, opt, Nat.reduceAdd, Nat.reduceMul, and_self, reduceCtorEq, List.size_toArray, List.all_cons, List.all_nil, Value.oneCell', List.set_cons_zero, List.set_cons_succ, sets, fillL, Nat.reduceLeDiff, List.drop_succ_cons, List.drop_zero, List.take_succ_cons, List.take_zero, List.toList_toArray, argsE, Array.append_empty, Array.empty_append, List.getElem?_toArray, Int.reduceLT, Int.reduceLE, Int.reduceToNat, Int.reduceEq, Nat.reduceLT, d3, undef_eq]
  have hbad : ¬ (t.m < 1 ∨ ¬ t.st.Ok ∨ ¬ t.pg.Ok) := by
    rintro (g | g | g)
    · exact h1 g
    · exact g h2
    · exact g h3
  refine appK_of (find_app (m := t.m) (hB.Old .ap) hs (by omega)) ?_
  rintro _ _ ⟨e2, rfl⟩
  rw [e2]
  clear e2
  cases hi : isF B.L t.m
  case true =>
    simp only [↓eD0, ↓eD1, eC0, eC1, eC2, eC3, eC4, eC5, eC6, wantedE, ↓reduceIte, Nat.reduceEqDiff, Option.map_some, Option.map_none, reread, List.nil_append, List.cons_append, List.map_cons, List.map_nil, List.length_nil, List.length_cons, Value.cells, List.getElem?_cons_zero, List.getElem?_cons_succ, outE, lks, lkR, rdV, neg1, evs, opt, Nat.reduceAdd, Nat.reduceMul, and_self, reduceCtorEq, List.size_toArray, List.all_cons, List.all_nil, Value.oneCell', List.set_cons_zero, List.set_cons_succ, sets, fillL, Nat.reduceLeDiff, List.drop_succ_cons, List.drop_zero, List.take_succ_cons, List.take_zero, List.toList_toArray, argsE, Array.append_empty, Array.empty_append, List.getElem?_toArray, Int.reduceLT, Int.reduceLE, Int.reduceToNat, Int.reduceEq, Nat.reduceLT, undef_eq]
    have : admitF B t = (B, 6) := by unfold admitF; rw [if_neg hbad, if_pos hi]
    rw [this]
    exact ⟨.ap, _, rfl, hB.Old .ap, fun hz => by simp at hz⟩
  have hp := place_le (L := B.L) (m := t.m)
  have hadm : admitF B t = if validF (putT B t) = true then (putT B t, 0) else (B, 2) := by unfold admitF; rw [if_neg hbad, if_neg (by simp [hi])]
  generalize hpl : placeF B.L t.m = p at hp ⊢
  obtain ⟨v39, hv39, rv39, _⟩ := Row.pre hr hcap (i := p) (by simpa using hp)
  obtain ⟨v47, hv47, rv47, _⟩ := row_suf hr hcap (i := p) (by simpa using hp)
  simp only [↓eD0, ↓eD1, eC0, eC1, eC2, eC3, eC4, eC5, eC6, wantedE, ↓reduceIte, Nat.reduceEqDiff, Option.map_some, Option.map_none, reread, List.nil_append, List.cons_append, List.map_cons, List.map_nil, List.length_nil, List.length_cons, Value.cells, List.getElem?_cons_zero, List.getElem?_cons_succ, outE, lks, lkR, rdV, neg1, evs, opt, Nat.reduceAdd, Nat.reduceMul, and_self, reduceCtorEq, List.size_toArray, List.all_cons, List.all_nil, Value.oneCell', List.set_cons_zero, List.set_cons_succ, sets, fillL, Nat.reduceLeDiff, List.drop_succ_cons, List.drop_zero, List.take_succ_cons, List.take_zero, List.toList_toArray, argsE, Array.append_empty, Array.empty_append, List.getElem?_toArray, Int.reduceLT, Int.reduceLE, Int.reduceToNat, Int.reduceEq, Nat.reduceLT, hv39, hv47, rep7]
  generalize hT : ap σ [.cells 0 [.int .i64 B.st, .int .i64 B.pg, .slice base B.L.length cap] (0, 0), .cells 0 [.int .i64 t.m, .int .i64 t.st.r, .int .i64 t.st.l, .int .i64 t.st.s, .int .i64 t.pg.r, .int .i64 t.pg.l, .int .i64 t.pg.s] (0, 0),
    .cells 0 [.int .i64 0, .int .i64 0, .slice none 0 0] (0, 0), .cells 1 [.int .i64 B.st, .int .i64 B.pg, .slice base B.L.length cap] (0, 0), .cells 0 [] (0, 0), .cells 0 [.int .i64 t.m, .int .i64 t.st.r, .int .i64 t.st.l, .int .i64 t.st.s, .int .i64 t.pg.r, .int .i64 t.pg.l, .int .i64 t.pg.s] (0, 0)] = T
  have hT0s : (sized (σ.size + 4)).size = σ.size + 4 := sized_size
  have hsz : T.size = σ.size + 6 := by rw [← hT, ap_size]; rfl
  have hoT : Old σ T := hT ▸ .ap
  have q0 : T[σ.size]? = some (.cells 0 [.int .i64 B.st, .int .i64 B.pg, .slice base B.L.length cap] (0, 0)) := by rw [← hT]; exact ap_new0
  have q1 : T[σ.size + 1]? = some (.cells 0 (tenV t) (0, 0)) := by rw [← hT]; exact ap_new
  have q2 : T[σ.size + 2]? = some (.cells 0 [.int .i64 0, .int .i64 0, .slice none 0 0] (0, 0)) := by rw [← hT]; exact ap_new
  have q3 : T[σ.size + 3]? = some (.cells 1 [.int .i64 B.st, .int .i64 B.pg, .slice base B.L.length cap] (0, 0)) := by rw [← hT]; exact ap_new
  have q4 : T[σ.size + 4]? = some (.cells 0 [] (0, 0)) := by rw [← hT]; exact ap_new
  have q5 : T[σ.size + 5]? = some (.cells 0 (tenV t) (0, 0)) := by rw [← hT]; exact ap_new
  have g0 : Grown (sized (σ.size + 4)) T 7 (.slice (some ⟨σ.size + 4, 0, none⟩) 0 0) [] 0 := Grown.lit rfl (by decide) (by rw [hT0s]; omega) q4
  have one7 : ∀ xs : List Ten, ((xs.map tenV).flatten).all Value.oneCell' = true := fun xs => by
    rw [List.all_eq_true]
    intro v hv
    obtain ⟨r, hr, hv⟩ := List.mem_flatten.1 hv
    obtain ⟨c, _, rfl⟩ := List.mem_map.1 hr
    simp only [tenV, List.mem_cons, List.not_mem_nil, or_false] at hv
    rcases hv with rfl | rfl | rfl | rfl | rfl | rfl | rfl <;> rfl
  have l39 : (List.take p (B.L.map tenV)).length = p := by simp; omega
  have l47 : (List.drop p (B.L.map tenV)).length = B.L.length - p := by simp
  have x39 := row_xcells (rv39.Old hoT)
  rw [l39, ← List.map_take] at x39
  obtain ⟨v40, τ1, ha1, A1⟩ := append_grown (bytes := 56) g0 (by omega) (by rw [hT0s]; omega) x39 (by rw [flatten_length tenV_rows]; simp; omega) (one7 _) (by omega) (by omega)
  refine onV_of ha1 ?_
  have hs1 := A1.size
  have b1 := A1.base
  rw [hsz] at hs1 b1
  have ho1 : Old σ τ1 := A1.Old' g0 (by rw [hT0s]; omega) hoT
  have p0 := A1.low g0 (by rw [hT0s]; omega) q0
  have p1 := A1.low g0 (by rw [hT0s]; omega) q1
  have p2 := A1.low g0 (by rw [hT0s]; omega) q2
  have p3 := A1.low g0 (by rw [hT0s]; omega) q3
  have p5 := A1.frame _ _ q5 (by simp [baseOf])
  obtain ⟨v43, τ2, ha2, A2⟩ := append_grown (bytes := 56) (m := 1) (new := tenV t) (xa := .slice (some ⟨σ.size + 5, 0, none⟩) 1 1) A1.grown (by omega) (by rw [hT0s]; omega) (by show (rdN τ1 ⟨σ.size + 5, 0, none⟩ 7).map (1, ·) = _; rw [rdN_all (n := 7) p5 rfl]; rfl) rfl (by rfl) (by omega) (by omega)
  have ho2 : Old σ τ2 := A2.Old' A1.grown (by rw [hT0s]; omega) ho1
  have k0 := A2.low A1.grown (by rw [hT0s]; omega) p0
  have k1 := A2.low A1.grown (by rw [hT0s]; omega) p1
  have k2 := A2.low A1.grown (by rw [hT0s]; omega) p2
  have k3 := A2.low A1.grown (by rw [hT0s]; omega) p3
  have hs2 := A2.size
  have x47 := row_xcells (rv47.Old ho2)
  rw [l47, ← List.map_drop] at x47
  obtain ⟨v48, τ3, ha3, A3⟩ := append_grown (bytes := 56) A2.grown (by omega) (by rw [hT0s]; omega) x47 (by rw [flatten_length tenV_rows]; simp) (one7 _) (by omega) (by omega)
  have ho3 : Old σ τ3 := A3.Old' A2.grown (by rw [hT0s]; omega) ho2
  have j0 := A3.low A2.grown (by rw [hT0s]; omega) k0
  have j2 := A3.low A2.grown (by rw [hT0s]; omega) k2
  have j3 := A3.low A2.grown (by rw [hT0s]; omega) k3
  have hs3 := A3.size
  have r11 : rdN τ1 ⟨σ.size + 1, 0, none⟩ 7 = some (tenV t) := rdN_all p1 rfl
  have r12 : rd1 τ1 ⟨σ.size, 2, none⟩ = some (.slice base B.L.length cap) := by rw [rd1_eq, p0]; rfl
  have r22 : rd1 τ2 ⟨σ.size, 2, none⟩ = some (.slice base B.L.length cap) := by rw [rd1_eq, k0]; rfl
  obtain ⟨bs, cp, rfl⟩ := A3.grown.slice
  have hX : ([] ++ (List.map tenV (List.take p B.L)).flatten ++ tenV t ++ (List.map tenV (List.drop p B.L)).flatten) = (((putT B t).L).map tenV).flatten := by
    simp [putT, hpl]
  have hXl : 0 + p + 1 + (B.L.length - p) = (putT B t).L.length := by simp [putT, hpl]; omega
  have G3 := A3.grown
  rw [hX, hXl] at G3
  rw [hXl] at ha3
  have w3 : wrN τ3 ⟨σ.size + 3, 2, none⟩ [.slice bs (putT B t).L.length cp] = some (τ3.setIfInBounds (σ.size + 3) (.cells 2 (budV (putT B t) bs cp) (0, 0))) := by
    rw [wrN_eq, if_neg (by simp), j3, wrc_cells]; rfl
  have hlow : ∀ c, c ≤ σ.size + 3 → baseOf (.slice bs (putT B t).L.length cp) ≠ some c := fun c hc hb => by
    have := (G3.base hb).1
    rw [hT0s] at this
    omega
  have G4 : Grown (sized (σ.size + 4)) (τ3.setIfInBounds (σ.size + 3) (.cells 2 (budV (putT B t) bs cp) (0, 0))) 7 (.slice bs (putT B t).L.length cp) ((((putT B t).L).map tenV).flatten) (putT B t).L.length := G3.set (by rw [hT0s]; omega)
  have ho4 : Old σ (τ3.setIfInBounds (σ.size + 3) (.cells 2 (budV (putT B t) bs cp) (0, 0))) := ho3.set (by omega)
  have i0 : (τ3.setIfInBounds (σ.size + 3) (.cells 2 (budV (putT B t) bs cp) (0, 0)))[σ.size]? = some (.cells 0 [.int .i64 B.st, .int .i64 B.pg, .slice base B.L.length cap] (0, 0)) := (get_set_ne (by omega)).trans j0
  have i2 : (τ3.setIfInBounds (σ.size + 3) (.cells 2 (budV (putT B t) bs cp) (0, 0)))[σ.size + 2]? = some (.cells 0 [.int .i64 0, .int .i64 0, .slice none 0 0] (0, 0)) := (get_set_ne (by omega)).trans j2
  have i3 : (τ3.setIfInBounds (σ.size + 3) (.cells 2 (budV (putT B t) bs cp) (0, 0)))[σ.size + 3]? = some (.cells 2 (budV (putT B t) bs cp) (0, 0)) := get_set j3
  generalize hτ4 : τ3.setIfInBounds (σ.size + 3) (.cells 2 (budV (putT B t) bs cp) (0, 0)) = τ4 at w3 G4 ho4 i0 i2 i3
  have R4 : ∀ ρ, Grown (sized (σ.size + 4)) ρ 7 (.slice bs (putT B t).L.length cp) ((((putT B t).L).map tenV).flatten) (putT B t).L.length → IsB ρ (budV (putT B t) bs cp) (putT B t) := fun ρ g =>
    ⟨bs, cp, rfl, Grown.Row (by simpa using g) tenV_rows, g.cap⟩
  have f0 : rdN τ4 ⟨σ.size, 0, none⟩ 3 = some [.int .i64 B.st, .int .i64 B.pg, .slice base B.L.length cap] := rdN_all i0 rfl
  have f3 : rdN τ4 ⟨σ.size + 3, 0, none⟩ 3 = some [.int .i64 (putT B t).st, .int .i64 (putT B t).pg, .slice bs (putT B t).L.length cp] := rdN_all i3 rfl
  have w2 : ∀ a b c d e, wrN τ4 ⟨σ.size + 2, 0, none⟩ [.int .i64 a, .int .i64 b, .slice c d e] = some (τ4.setIfInBounds (σ.size + 2) (.cells 1 [.int .i64 a, .int .i64 b, .slice c d e] (0, 0))) := fun a b c d e => by
    rw [wrN_eq, if_neg (by simp), i2, wrc_cells]; rfl
  have f2 : ∀ k, (τ4.setIfInBounds (σ.size + 2) k)[σ.size + 2]? = some k := fun k => get_set i2
  have fr : ∀ a b c d e, rdN (τ4.setIfInBounds (σ.size + 2) (.cells 1 [.int .i64 a, .int .i64 b, .slice c d e] (0, 0))) ⟨σ.size + 2, 0, none⟩ 3 = some [.int .i64 a, .int .i64 b, .slice c d e] := fun a b c d e => rdN_all (f2 _) rfl
  simp only [↓eD0, ↓eD1, eC0, eC1, eC2, eC3, eC4, eC5, eC6, wantedE, ↓reduceIte, Nat.reduceEqDiff, Option.map_some, Option.map_none, reread, List.nil_append, List.cons_append, List.map_cons, List.map_nil, List.length_nil, List.length_cons, Value.cells, List.getElem?_cons_zero, List.getElem?_cons_succ, outE, lks, lkR, rdV, neg1, evs, opt, Nat.reduceAdd, Nat.reduceMul, and_self, reduceCtorEq, List.size_toArray, List.all_cons, List.all_nil, Value.oneCell', List.set_cons_zero, List.set_cons_succ, sets, fillL, Nat.reduceLeDiff, List.drop_succ_cons, List.drop_zero, List.take_succ_cons, List.take_zero, List.toList_toArray, argsE, Array.append_empty, Array.empty_append, List.getElem?_toArray, Int.reduceLT, Int.reduceLE, Int.reduceToNat, Int.reduceEq, Nat.reduceLT, r11, r12, tenV]
  refine onV_of ha2 ?_
  simp only [↓eD0, ↓eD1, eC0, eC1, eC2, eC3, eC4, eC5, eC6, wantedE, ↓reduceIte, Nat.reduceEqDiff, Option.map_some, Option.map_none, reread, List.nil_append, List.cons_append, List.map_cons, List.map_nil, List.length_nil, List.length_cons, Value.cells, List.getElem?_cons_zero, List.getElem?_cons_succ, outE, lks, lkR, rdV, neg1, evs, opt, Nat.reduceAdd, Nat.reduceMul, and_self, reduceCtorEq, List.size_toArray, List.all_cons, List.all_nil, Value.oneCell', List.set_cons_zero, List.set_cons_succ, sets, fillL, Nat.reduceLeDiff, List.drop_succ_cons, List.drop_zero, List.take_succ_cons, List.take_zero, List.toList_toArray, argsE, Array.append_empty, Array.empty_append, List.getElem?_toArray, Int.reduceLT, Int.reduceLE, Int.reduceToNat, Int.reduceEq, Nat.reduceLT, r22]
  refine onV_of ha3 ?_
  simp only [↓eD0, ↓eD1, eC0, eC1, eC2, eC3, eC4, eC5, eC6, wantedE, ↓reduceIte, Nat.reduceEqDiff, Option.map_some, Option.map_none, reread, List.nil_append, List.cons_append, List.map_cons, List.map_nil, List.length_nil, List.length_cons, Value.cells, List.getElem?_cons_zero, List.getElem?_cons_succ, outE, lks, lkR, rdV, neg1, evs, opt, Nat.reduceAdd, Nat.reduceMul, and_self, reduceCtorEq, List.size_toArray, List.all_cons, List.all_nil, Value.oneCell', List.set_cons_zero, List.set_cons_succ, sets, fillL, Nat.reduceLeDiff, List.drop_succ_cons, List.drop_zero, List.take_succ_cons, List.take_zero, List.toList_toArray, argsE, Array.append_empty, Array.empty_append, List.getElem?_toArray, Int.reduceLT, Int.reduceLE, Int.reduceToNat, Int.reduceEq, Nat.reduceLT, w3, f3]
  refine appK_of (valid_app (R4 _ G4)) ?_
  rintro _ _ ⟨e2, rfl⟩
  rw [e2]
  clear e2
  cases hv : validF (putT B t)
  · rw [hadm, hv]
    simp only [↓eD0, ↓eD1, eC0, eC1, eC2, eC3, eC4, eC5, eC6, wantedE, ↓reduceIte, Nat.reduceEqDiff, Option.map_some, Option.map_none, reread, List.nil_append, List.cons_append, List.map_cons, List.map_nil, List.length_nil, List.length_cons, Value.cells, List.getElem?_cons_zero, List.getElem?_cons_succ, outE, lks, lkR, rdV, neg1, evs, opt, Nat.reduceAdd, Nat.reduceMul, and_self, reduceCtorEq, List.size_toArray, List.all_cons, List.all_nil, Value.oneCell', List.set_cons_zero, List.set_cons_succ, sets, fillL, Nat.reduceLeDiff, List.drop_succ_cons, List.drop_zero, List.take_succ_cons, List.take_zero, List.toList_toArray, argsE, Array.append_empty, Array.empty_append, List.getElem?_toArray, Int.reduceLT, Int.reduceLE, Int.reduceToNat, Int.reduceEq, Nat.reduceLT, f0, w2, fr]
    exact ⟨ho4.set (by omega), _, rfl, hB.Old (ho4.set (by omega)), fun hz => by simp at hz⟩
  · rw [hadm, hv]
    simp only [↓eD0, ↓eD1, eC0, eC1, eC2, eC3, eC4, eC5, eC6, wantedE, ↓reduceIte, Nat.reduceEqDiff, Option.map_some, Option.map_none, reread, List.nil_append, List.cons_append, List.map_cons, List.map_nil, List.length_nil, List.length_cons, Value.cells, List.getElem?_cons_zero, List.getElem?_cons_succ, outE, lks, lkR, rdV, neg1, evs, opt, Nat.reduceAdd, Nat.reduceMul, and_self, reduceCtorEq, List.size_toArray, List.all_cons, List.all_nil, Value.oneCell', List.set_cons_zero, List.set_cons_succ, sets, fillL, Nat.reduceLeDiff, List.drop_succ_cons, List.drop_zero, List.take_succ_cons, List.take_zero, List.toList_toArray, argsE, Array.append_empty, Array.empty_append, List.getElem?_toArray, Int.reduceLT, Int.reduceLE, Int.reduceToNat, Int.reduceEq, Nat.reduceLT, f3, w2, fr]
    refine ⟨ho4.set (by omega), _, rfl, R4 _ (G4.set (by rw [hT0s]; omega)), fun _ c v hv hb => ?_⟩
    injection hv with hv
    subst hv
    have := (G3.base hb).1
    rw [hT0s] at this
    omega
end Go.Proofs.Ytimcgoghjebalaa
