/- Walks of the functions that the claim reaches. Conditions: none. -/
import Derived.Test.YtiipnbnkikmlgaaGreatDoorTc
set_option linter.all false
set_option maxRecDepth 10000
set_option maxHeartbeats 2000000
namespace Go.Proofs.YtiipnbnkikmlgaaGreatDoor
open Go Go.Cn Go.RowKit
theorem rdb_of {θ θ' : H} {b n ver : Nat} {cs : List Value} (h : θ[b]? = some (.cells ver cs (0, 0))) (ho : Old θ θ') (hn : cs.length = n) : rdN θ' ⟨b, 0, none⟩ n = some cs :=
 rdN_all ((ho.2 _ (Array.getElem?_eq_some_iff.1 h).1).trans h) hn
theorem rd1_of {θ θ' : H} {b ver k : Nat} {cs : List Value} {x : Value} (h : θ[b]? = some (.cells ver cs (0, 0))) (ho : Old θ θ') (hn : cs[k]? = some x) : rd1 θ' ⟨b, k, none⟩ = some x := by
 rw [rd1_eq, (ho.2 _ (Array.getElem?_eq_some_iff.1 h).1).trans h]; exact hn
theorem allS_append : ∀ {a b : List (Option Value)} {x y : List Value}, allS a = some x → allS b = some y → allS (a ++ b) = some (x ++ y)
 |[], b, x, y, h1, h2 => by simp only [allS, Option.some.injEq] at h1; subst h1; simpa using h2
 |none :: a, b, x, y, h1, h2 => by cases h1
 |some u :: a, b, x, y, h1, h2 => by
  simp only [allS, Option.map_eq_some_iff] at h1
  obtain ⟨x', g1, rfl⟩ := h1
  simp only [List.cons_append, allS, allS_append g1 h2, Option.map_some]
theorem rdN_add {σ : H} {b o m k : Nat} {x y : List Value} (h1 : rdN σ ⟨b, o, none⟩ m = some x) (h2 : rdN σ ⟨b, o + m, none⟩ k = some y) : rdN σ ⟨b, o, none⟩ (m + k) = some (x ++ y) := by
 by_cases hm : m = 0
 ·subst hm
  rw [rdN_eq, if_pos rfl] at h1
  injection h1 with h1
  subst h1
  simpa using h2
 by_cases hk : k = 0
 ·subst hk
  rw [rdN_eq, if_pos rfl] at h2
  injection h2 with h2
  subst h2
  simpa using h1
 rw [rdN_eq, if_neg hm] at h1
 rw [rdN_eq, if_neg hk] at h2
 rw [rdN_eq, if_neg (by omega)]
 simp only at h1 h2 ⊢
 generalize σ[b]? = q at h1 h2 ⊢
 cases q with
 |none => cases h1
 |some q =>
  cases q with
  |cells v cs fz =>
   simp only [rdcN] at h1 h2 ⊢
   split at h1
   ·split at h2
    ·injection h1 with h1
     injection h2 with h2
     subst h1 h2
     rw [if_pos (by omega), List.take_add, List.drop_drop]
    ·cases h2
   ·cases h1
  |part cs =>
   simp only [rdcN] at h1 h2 ⊢
   split at h1
   ·split at h2
    ·rw [if_pos (by omega), List.take_add, List.drop_drop]
     exact allS_append h1 h2
    ·cases h2
   ·cases h1
  |_ => cases h1
theorem rows_read {σ : H} {s b o : Nat} {xs : List (List Value)} (h : ∀ (i : Nat) (x : List Value), xs[i]? = some x → rdN σ ⟨b, o + i * s, none⟩ s = some x) : ∀ n, n ≤ xs.length → rdN σ ⟨b, o, none⟩ (n * s) = some (xs.take n).flatten
 |0, _ => by simp [rdN_eq]
 |n + 1, hn => by
  have ih := rows_read h n (by omega)
  have h1 := h n xs[n] (by simp)
  have e : (xs.take (n + 1)).flatten = (xs.take n).flatten ++ xs[n] := by rw [List.take_succ_eq_append_getElem (by omega), List.flatten_append]; simp
  rw [Nat.add_mul, Nat.one_mul, rdN_add ih h1, e]
theorem row_xcells {σ : H} {s : Nat} {v : Value} {xs : List (List Value)} (h : Row σ s v xs) : xcells σ s v = some (xs.length, xs.flatten) := by
 obtain ⟨base, cap, rfl, h2⟩ := h
 cases xs with
 |nil =>
  cases base with
  |none => simp [xcells]
  |some a => simp [xcells, rdN_eq]
 |cons x r =>
  obtain ⟨b, off, rfl, _⟩ := h2 0 x rfl
  have := rows_read (σ := σ) (s := s) (b := b) (o := off) (xs := x :: r) (fun i y hy => by
   obtain ⟨b', off', hb, hr⟩ := h2 i y hy
   injection hb with hb
   injection hb with hb1 hb2 hb3
   subst hb1 hb2
   exact hr) (x :: r).length (Nat.le_refl _)
  simp only [xcells, this, Option.map_some, List.take_length]
structure Kp where
 m : Int
 e : Int
 h : Int
 u : Int
deriving DecidableEq
def kC (k : Kp) : List Value := [.int .i64 k.m, .int .i64 k.e, .int .i64 k.h, .int .i64 k.u]
structure Lk (σ : H) (v : Value) (L : List Kp) : Prop where
 r : Row σ 4 v (L.map kC)
 c : CapOk 4 v
theorem Lk.Old {σ τ : H} {v : Value} {L : List Kp} (h : Lk σ v L) (ho : Old σ τ) : Lk τ v L := ⟨h.r.Old ho, h.c⟩
theorem Lk.slice {σ : H} {v : Value} {L : List Kp} (h : Lk σ v L) : ∃ a c, v = .slice a L.length c := by
 obtain ⟨b, cap, h1, _⟩ := h.r
 exact ⟨b, cap, by rw [h1, List.length_map]⟩
theorem Lk.at {σ : H} {a : Option Addr} {n c : Nat} {L : List Kp} (h : Lk σ (.slice a n c) L) {i : Nat} (hi : i < L.length) : ∃ b o, a = some ⟨b, o, none⟩ ∧ rdN σ ⟨b, o + i * 4, none⟩ 4 = some (kC L[i]) :=
 h.r.at (by simp [hi])
theorem bnd_nat {k d y : Nat} (h : k ≤ y) : bnd (some (.int .i64 (k : Int))) d y = some k := by simp only [bnd, asI]; rw [if_pos (by omega)]; simp
theorem Lk.sub {σ : H} {v : Value} {L : List Kp} {lo hi : Nat} {xl xh xm : Option Value} (h : Lk σ v L) (h1 : lo ≤ hi) (h2 : hi ≤ L.length) (hb : hi < big)
  (hl : xl = some (.int .i64 (lo : Int)) ∨ (xl = none ∧ lo = 0)) (hh : xh = some (.int .i64 (hi : Int)) ∨ (xh = none ∧ hi = L.length ∧ xm = none)) (hm : xm = none ∨ xm = some (.int .i64 (hi : Int))) :
  ∃ v', sliceV 4 v xl xh xm = some v' ∧ Lk σ v' ((L.take hi).drop lo) ∧ ∀ q, baseOf v' = some q → baseOf v = some q := by
 obtain ⟨a, c, rfl⟩ := h.slice
 obtain ⟨hc1, hc2⟩ := h.c.slice
 obtain ⟨m, hm1, hm2, hm3⟩ : ∃ m, bnd xm c (capLow c) = some m ∧ hi ≤ capLow m ∧ (csz m = 0 ∨ csz m = 4) := by
  rcases hm with rfl | rfl
  ·exact ⟨c, rfl, by omega, hc2⟩
  ·exact ⟨hi, bnd_nat (by omega), by rw [capLow_small hb]; exact Nat.le_refl _, .inl (csz_small hb)⟩
 have e2 : bnd xh L.length (capLow m) = some hi := by
  rcases hh with rfl | ⟨rfl, rfl, rfl⟩
  ·exact bnd_nat hm2
  ·rfl
 have e3 : bnd xl 0 hi = some lo := by
  rcases hl with rfl | ⟨rfl, rfl⟩
  ·exact bnd_nat h1
  ·rfl
 have eb : bnds L.length c xl xh xm = some (lo, hi, m) := by
  unfold bnds
  have : ¬(∃ y, xm = some y ∧ xh = none) := by
   rintro ⟨y, hy, hz⟩
   rcases hh with rfl | ⟨_, _, h9⟩
   ·cases hz
   ·rw [h9] at hy; cases hy
  split
  ·exact absurd ⟨_, rfl, rfl⟩ this
  ·simp only [hm1, e2, e3]
 obtain ⟨g1, g2⟩ := cap_sub (c := m) (l := lo) (by omega)
 have hll : ((L.take hi).drop lo).length = hi - lo := by rw [List.length_drop, List.length_take]; omega
 refine ⟨.slice (a.map fun a => ⟨a.block, a.off + lo * 4, none⟩) (hi - lo) (m - lo), ?_, ⟨?_, ⟨_, _, _, rfl, by omega, by rw [g2]; exact hm3⟩⟩, fun q hq => ?_⟩
 ·unfold sliceV
  simp only
  rw [if_pos hc2, eb]
 ·refine ⟨a.map fun a => ⟨a.block, a.off + lo * 4, none⟩, m - lo, by rw [List.length_map, hll], fun i x hx => ?_⟩
  have hi' : i < hi - lo := by have := (List.getElem?_eq_some_iff.1 hx).1; rw [List.length_map, hll] at this; exact this
  have hx' : (L.map kC)[lo + i]? = some x := by
   rw [List.map_drop, List.map_take, List.getElem?_drop, List.getElem?_take, if_pos (by omega)] at hx
   exact hx
  obtain ⟨b, o, rfl, hr⟩ := h.r.at hx'
  refine ⟨b, o + lo * 4, rfl, ?_⟩
  rw [show o + lo * 4 + i * 4 = o + (lo + i) * 4 by omega]
  exact hr
 ·cases a with
  |none => cases hq
  |some p => exact hq
theorem kp_rows {L : List Kp} : ∀ r ∈ L.map kC, r.length = 4 := fun r hr => by
 obtain ⟨d, h, rfl⟩ := List.mem_map.1 hr
 rfl
theorem kC_one {k : Kp} : (kC k).all Value.oneCell' = true := rfl
theorem kp_ones {L : List Kp} : (L.map kC).flatten.all Value.oneCell' = true := by
 rw [List.all_eq_true]
 intro v hv
 obtain ⟨r, hr, hv⟩ := List.mem_flatten.1 hv
 obtain ⟨d, _, rfl⟩ := List.mem_map.1 hr
 exact List.all_eq_true.1 kC_one v hv
theorem kp_flat {L : List Kp} : (L.map kC).flatten.length = L.length * 4 := by rw [flatten_length kp_rows, List.length_map]
theorem grown_lk {σ0 σ : H} {u : Value} {L : List Kp} (h : Grown σ0 σ 4 u (L.map kC).flatten L.length) : Lk σ u L := by
 have h' : Grown σ0 σ 4 u (L.map kC).flatten (L.map kC).length := by rw [List.length_map]; exact h
 exact ⟨h'.Row kp_rows, h.cap⟩
theorem Lk.x {σ : H} {v : Value} {L : List Kp} (h : Lk σ v L) : xcells σ 4 v = some (L.length, (L.map kC).flatten) := by
 obtain ⟨a, c, rfl⟩ := h.slice
 have hx := row_xcells h.r
 rw [List.length_map] at hx
 exact hx
section
attribute [local irreducible] evL sem onG onI onV
def numF (l : List Int) : Bool := l.all fun n => decide (1 ≤ n) && decide (n ≤ 1073741824)
def serF (l : List Int) : Bool := l.all fun n => decide (0 ≤ n) && decide (n ≤ 1099511627776)
theorem number_app {σ : H} {b ver c : Nat} {l : List Int} (hb : σ[b]? = some (.cells ver (l.map (.int .i64)) (0, 0))) (hn : l.length < 1000) :
  App Tryz.prog (.func 38) #[] #[.slice (some ⟨b, 0, none⟩) l.length c] σ fun w σ' => σ' = σ ∧ w = .bool (numF l) := by
 refine App.of_sem mixed Tryz.func38 t38 k38 r38 (Nat.le_of_ble_eq_true rfl) ?_
 unfold s38
 simp only [↓eD, eZ, ↓reduceIte, Nat.reduceEqDiff, Nat.reduceAdd, Nat.reduceMul, reduceCtorEq, Nat.reduceLeDiff, Int.reduceLT, Int.reduceLE, Int.reduceToNat, Int.reduceEq, Nat.reduceLT, undef_eq]
 refine loop_for (J := fun i e τ => τ = σ ∧ i ≤ l.length ∧ e = [(5, .slice (some ⟨b, 0, none⟩) l.length c), (6, .int .i64 (l.length : Int)), (7, .int .i64 (i : Int))] ∧ numF (l.take i) = true) l.length ⟨rfl, by omega, rfl, rfl⟩ ?_
 rintro i e _ hi ⟨rfl, _, rfl, hf⟩
 by_cases hlt : i < l.length
 ·have d0 : decide ((i : Int) < (l.length : Int)) = true := by rw [decide_eq_true]; omega
  have hbd : (0 : Int) ≤ (i : Int) ∧ (i : Int) < (l.length : Int) := by omega
  have hw : IntKind.wrap .i64 ((i : Int) + 1) = ((i + 1 : Nat) : Int) := by rw [wrap64' (by omega) (by omega)]; omega
  have hr := rd1_of (k := i) (x := .int .i64 l[i]) hb .refl (by simp [hlt])
  have hsn : numF (l.take (i + 1)) = (numF (l.take i) && (decide (1 ≤ l[i]) && decide (l[i] ≤ 1073741824))) := by
   unfold numF
   rw [List.take_succ_eq_append_getElem hlt, List.all_append]
   simp only [List.all_cons, List.all_nil, Bool.and_true]
  have hall : ∀ q : Bool, (decide (1 ≤ l[i]) && decide (l[i] ≤ 1073741824)) = false → numF l = false := fun _ hq => by
   unfold numF
   rw [List.all_eq_false]
   exact ⟨l[i], List.getElem_mem _, by rw [hq]; simp⟩
  generalize l[i] = x at hr hsn hall
  by_cases g1 : x < 1
  ·have e1 : decide (x < 1) = true := decide_eq_true g1
   rw [hall true (by rw [decide_eq_false (by omega : ¬ 1 ≤ x)]; rfl)]
   simp only [↓eD, eZ, ↓reduceIte, Nat.reduceEqDiff, Nat.reduceAdd, Nat.reduceMul, reduceCtorEq, Nat.reduceLeDiff, Int.reduceLT, Int.reduceLE, Int.reduceToNat, Int.reduceEq, Nat.reduceLT, d0, hbd, Int.toNat_natCast, hr, e1, undef_eq]
  have e1 : decide (x < 1) = false := decide_eq_false g1
  by_cases g2 : 1073741824 < x
  ·have e2 : decide (1073741824 < x) = true := decide_eq_true g2
   rw [hall true (by rw [decide_eq_false (by omega : ¬ x ≤ 1073741824), Bool.and_false])]
   simp only [↓eD, eZ, ↓reduceIte, Nat.reduceEqDiff, Nat.reduceAdd, Nat.reduceMul, reduceCtorEq, Nat.reduceLeDiff, Int.reduceLT, Int.reduceLE, Int.reduceToNat, Int.reduceEq, Nat.reduceLT, d0, hbd, Int.toNat_natCast, hr, e1, e2, undef_eq]
  have e2 : decide (1073741824 < x) = false := decide_eq_false g2
  simp only [↓eD, eZ, ↓reduceIte, Nat.reduceEqDiff, Nat.reduceAdd, Nat.reduceMul, reduceCtorEq, Nat.reduceLeDiff, Int.reduceLT, Int.reduceLE, Int.reduceToNat, Int.reduceEq, Nat.reduceLT, d0, hbd, Int.toNat_natCast, hr, e1, e2, hw, undef_eq]
  exact ⟨hlt, by omega, by rw [hsn, hf, decide_eq_true (by omega : 1 ≤ x), decide_eq_true (by omega : x ≤ 1073741824)]; rfl⟩
 ·have d0 : decide ((i : Int) < (l.length : Int)) = false := by rw [decide_eq_false]; omega
  have : i = l.length := by omega
  subst this
  rw [List.take_length] at hf
  rw [hf]
  simp only [↓eD, eZ, ↓reduceIte, Nat.reduceEqDiff, Nat.reduceAdd, Nat.reduceMul, reduceCtorEq, Nat.reduceLeDiff, Int.reduceLT, Int.reduceLE, Int.reduceToNat, Int.reduceEq, Nat.reduceLT, d0, undef_eq]
theorem serial_app {σ : H} {b ver c : Nat} {l : List Int} (hb : σ[b]? = some (.cells ver (l.map (.int .i64)) (0, 0))) (hn : l.length < 1000) :
  App Tryz.prog (.func 39) #[] #[.slice (some ⟨b, 0, none⟩) l.length c] σ fun w σ' => σ' = σ ∧ w = .bool (serF l) := by
 refine App.of_sem mixed Tryz.func39 t39 k39 r39 (Nat.le_of_ble_eq_true rfl) ?_
 unfold s39
 simp only [↓eD, eZ, ↓reduceIte, Nat.reduceEqDiff, Nat.reduceAdd, Nat.reduceMul, reduceCtorEq, Nat.reduceLeDiff, Int.reduceLT, Int.reduceLE, Int.reduceToNat, Int.reduceEq, Nat.reduceLT, undef_eq]
 refine loop_for (J := fun i e τ => τ = σ ∧ i ≤ l.length ∧ e = [(5, .slice (some ⟨b, 0, none⟩) l.length c), (6, .int .i64 (l.length : Int)), (7, .int .i64 (i : Int))] ∧ serF (l.take i) = true) l.length ⟨rfl, by omega, rfl, rfl⟩ ?_
 rintro i e _ hi ⟨rfl, _, rfl, hf⟩
 by_cases hlt : i < l.length
 ·have d0 : decide ((i : Int) < (l.length : Int)) = true := by rw [decide_eq_true]; omega
  have hbd : (0 : Int) ≤ (i : Int) ∧ (i : Int) < (l.length : Int) := by omega
  have hw : IntKind.wrap .i64 ((i : Int) + 1) = ((i + 1 : Nat) : Int) := by rw [wrap64' (by omega) (by omega)]; omega
  have hr := rd1_of (k := i) (x := .int .i64 l[i]) hb .refl (by simp [hlt])
  have hsn : serF (l.take (i + 1)) = (serF (l.take i) && (decide (0 ≤ l[i]) && decide (l[i] ≤ 1099511627776))) := by
   unfold serF
   rw [List.take_succ_eq_append_getElem hlt, List.all_append]
   simp only [List.all_cons, List.all_nil, Bool.and_true]
  have hall : ∀ q : Bool, (decide (0 ≤ l[i]) && decide (l[i] ≤ 1099511627776)) = false → serF l = false := fun _ hq => by
   unfold serF
   rw [List.all_eq_false]
   exact ⟨l[i], List.getElem_mem _, by rw [hq]; simp⟩
  generalize l[i] = x at hr hsn hall
  by_cases g1 : x < 0
  ·have e1 : decide (x < 0) = true := decide_eq_true g1
   rw [hall true (by rw [decide_eq_false (by omega : ¬ 0 ≤ x)]; rfl)]
   simp only [↓eD, eZ, ↓reduceIte, Nat.reduceEqDiff, Nat.reduceAdd, Nat.reduceMul, reduceCtorEq, Nat.reduceLeDiff, Int.reduceLT, Int.reduceLE, Int.reduceToNat, Int.reduceEq, Nat.reduceLT, d0, hbd, Int.toNat_natCast, hr, e1, undef_eq]
  have e1 : decide (x < 0) = false := decide_eq_false g1
  by_cases g2 : 1099511627776 < x
  ·have e2 : decide (1099511627776 < x) = true := decide_eq_true g2
   rw [hall true (by rw [decide_eq_false (by omega : ¬ x ≤ 1099511627776), Bool.and_false])]
   simp only [↓eD, eZ, ↓reduceIte, Nat.reduceEqDiff, Nat.reduceAdd, Nat.reduceMul, reduceCtorEq, Nat.reduceLeDiff, Int.reduceLT, Int.reduceLE, Int.reduceToNat, Int.reduceEq, Nat.reduceLT, d0, hbd, Int.toNat_natCast, hr, e1, e2, undef_eq]
  have e2 : decide (1099511627776 < x) = false := decide_eq_false g2
  simp only [↓eD, eZ, ↓reduceIte, Nat.reduceEqDiff, Nat.reduceAdd, Nat.reduceMul, reduceCtorEq, Nat.reduceLeDiff, Int.reduceLT, Int.reduceLE, Int.reduceToNat, Int.reduceEq, Nat.reduceLT, d0, hbd, Int.toNat_natCast, hr, e1, e2, hw, undef_eq]
  exact ⟨hlt, by omega, by rw [hsn, hf, decide_eq_true (by omega : 0 ≤ x), decide_eq_true (by omega : x ≤ 1099511627776)]; rfl⟩
 ·have d0 : decide ((i : Int) < (l.length : Int)) = false := by rw [decide_eq_false]; omega
  have : i = l.length := by omega
  subst this
  rw [List.take_length] at hf
  rw [hf]
  simp only [↓eD, eZ, ↓reduceIte, Nat.reduceEqDiff, Nat.reduceAdd, Nat.reduceMul, reduceCtorEq, Nat.reduceLeDiff, Int.reduceLT, Int.reduceLE, Int.reduceToNat, Int.reduceEq, Nat.reduceLT, d0, undef_eq]
end
set_option maxHeartbeats 4000000
attribute [local irreducible] evL sem onG onI onV
structure Pl where
 k : Int
 m : Int
 h : Int
 e : Int
 u : Int
def pC (p : Pl) : List Value := [.int .i64 p.k, .int .i64 p.m, .int .i64 p.h, .int .i64 p.e, .int .i64 p.u]
def rightF (p : Pl) : Bool := (decide (p.k = 1 ∧ p.u = 0) || decide (p.k = 2)) && (numF [p.m, p.h, p.e] && serF [p.u])
theorem z5 : List.replicate 5 (Value.int .i64 0) = [.int .i64 0, .int .i64 0, .int .i64 0, .int .i64 0, .int .i64 0] := _root_.id rfl
theorem plea_eq {p : Pl} : aggEq (List.replicate 5 (.int .i64)) (pC p) [.int .i64 1, .int .i64 p.m, .int .i64 p.h, .int .i64 p.e, .int .i64 0] = some (decide (p.k = 1 ∧ p.u = 0)) := by
 have h : (List.replicate 5 (Leaf.int .i64)) = [.int .i64, .int .i64, .int .i64, .int .i64, .int .i64] := rfl
 rw [h]
 simp [aggEq, pC, Leaf.fits, leafEq]
theorem right_app {σ : H} {p : Pl} : App Tryz.prog (.func 16) #[] #[.agg (pC p).toArray] σ fun w σ' => σ' = σ ∧ w = .bool (rightF p) := by
 refine App.forget (App.of_sem mixed Tryz.func16 t16 k16 r16 (Nat.le_of_ble_eq_true rfl) ?_)
 rw [← ap_nil (σ := σ)]
 unfold s16
 have hp : pC p = [.int .i64 p.k, .int .i64 p.m, .int .i64 p.h, .int .i64 p.e, .int .i64 p.u] := rfl
 have ae := plea_eq (p := p)
 rw [hp] at ae
 by_cases hA : (decide (p.k = 1 ∧ p.u = 0) || decide (p.k = 2)) = true
 case neg =>
  have hA' := Bool.eq_false_iff.2 hA
  rw [Bool.or_eq_false_iff] at hA'
  obtain ⟨a1, a2⟩ := hA'
  have hR : rightF p = false := by unfold rightF; rw [a1, a2]; rfl
  rw [hR]
  rw [a1] at ae
  simp only [hp, z5, ↓eD, eZ, ↓reduceIte, Nat.reduceEqDiff, Nat.reduceAdd, Nat.reduceMul, reduceCtorEq, Nat.reduceLeDiff, Int.reduceLT, Int.reduceLE, Int.reduceToNat, Int.reduceEq, Nat.reduceLT, ae, a2, undef_eq]
  first | exact ⟨.ap, rfl, rfl⟩ | exact ⟨.ap, rfl⟩
 have hR : rightF p = (numF [p.m, p.h, p.e] && serF [p.u]) := by unfold rightF; rw [hA]; rfl
 rw [hR]
 cases g1 : decide (p.k = 1 ∧ p.u = 0)
 case' false =>
  have a2 : decide (p.k = 2) = true := by rw [g1] at hA; exact hA
  rw [g1] at ae
  simp only [hp, z5, ↓eD, eZ, ↓reduceIte, Nat.reduceEqDiff, Nat.reduceAdd, Nat.reduceMul, reduceCtorEq, Nat.reduceLeDiff, Int.reduceLT, Int.reduceLE, Int.reduceToNat, Int.reduceEq, Nat.reduceLT, ae, a2, undef_eq]
 case' true =>
  rw [g1] at ae
  simp only [hp, z5, ↓eD, eZ, ↓reduceIte, Nat.reduceEqDiff, Nat.reduceAdd, Nat.reduceMul, reduceCtorEq, Nat.reduceLeDiff, Int.reduceLT, Int.reduceLE, Int.reduceToNat, Int.reduceEq, Nat.reduceLT, ae, undef_eq]
 all_goals
  obtain ⟨Z, hZ⟩ : ∃ Z, Z = ap σ [.cells 0 [.int .i64 p.k, .int .i64 p.m, .int .i64 p.h, .int .i64 p.e, .int .i64 p.u] (0, 0), .cells 1 [.int .i64 1, .int .i64 p.m, .int .i64 p.h, .int .i64 p.e, .int .i64 0] (0, 0), .cells 0 [.int .i64 p.m, .int .i64 p.h, .int .i64 p.e] (0, 0)] := ⟨_, rfl⟩
  rw [← hZ]
  have oZ : Old σ Z := by rw [hZ]; exact .ap
  have z0 : Z[σ.size]? = some (.cells 0 [.int .i64 p.k, .int .i64 p.m, .int .i64 p.h, .int .i64 p.e, .int .i64 p.u] (0, 0)) := by rw [hZ, ap_new0]; rfl
  have z2 : Z[σ.size + 2]? = some (.cells 0 ([p.m, p.h, p.e].map (.int .i64)) (0, 0)) := by rw [hZ, ap_new]; rfl
  clear hZ
  have hn := number_app (l := [p.m, p.h, p.e]) (c := 3) z2 (by simp)
  refine appK_at hn ?_
  have f4 : ∀ M, rd1 (ap Z M) ⟨σ.size, 4, none⟩ = some (.int .i64 p.u) := fun M => rd1_of z0 .ap rfl
  cases numF [p.m, p.h, p.e] with
  |false =>
   simp only [↓eD, eZ, ↓reduceIte, Nat.reduceEqDiff, Nat.reduceAdd, Nat.reduceMul, reduceCtorEq, Nat.reduceLeDiff, Int.reduceLT, Int.reduceLE, Int.reduceToNat, Int.reduceEq, Nat.reduceLT, undef_eq]
   first | exact ⟨oZ, rfl, rfl⟩ | exact ⟨oZ, rfl⟩
  |true =>
   rw [← ap_nil (σ := Z)]
   simp only [↓eD, eZ, ↓reduceIte, Nat.reduceEqDiff, Nat.reduceAdd, Nat.reduceMul, reduceCtorEq, Nat.reduceLeDiff, Int.reduceLT, Int.reduceLE, Int.reduceToNat, Int.reduceEq, Nat.reduceLT, f4, undef_eq]
   have hs := serial_app (σ := ap Z [.cells 0 [.int .i64 p.u] (0, 0)]) (l := [p.u]) (b := Z.size) (ver := 0) (c := 1) (by rw [ap_new0]; rfl) (by simp)
   refine appK_at hs ?_
   simp only [↓eD, eZ, ↓reduceIte, Nat.reduceEqDiff, Nat.reduceAdd, Nat.reduceMul, reduceCtorEq, Nat.reduceLeDiff, Int.reduceLT, Int.reduceLE, Int.reduceToNat, Int.reduceEq, Nat.reduceLT, undef_eq]
   first | exact ⟨oZ.trans .ap, rfl, rfl⟩ | exact ⟨oZ.trans .ap, rfl⟩
theorem search_app {σ : H} {n k : Nat} {f : Nat} {cap : Array Value} (hk : k ≤ n) (hn : n < 1000000)
  (hf : ∀ i : Nat, i < n → App Tryz.prog (.func f) cap #[.int .i64 (i : Int)] σ fun w σ' => σ' = σ ∧ w = .bool (decide (k ≤ i))) :
  App Tryz.prog (.func 17) #[] #[.int .i64 (n : Int), .func (.func f) #[] cap] σ fun w σ' => σ' = σ ∧ w = .int .i64 (k : Int) := by
 refine App.of_sem mixed Tryz.func17 t17 k17 r17 (Nat.le_of_ble_eq_true rfl) ?_
 unfold s17
 simp only [↓eD, eZ, ↓reduceIte, Nat.reduceEqDiff, Nat.reduceAdd, Nat.reduceMul, reduceCtorEq, Nat.reduceLeDiff, Int.reduceLT, Int.reduceLE, Int.reduceToNat, Int.reduceEq, Nat.reduceLT, undef_eq]
 refine loop_for (J := fun i e τ => τ = σ ∧ ∃ lo hi : Nat, lo ≤ k ∧ k ≤ hi ∧ hi ≤ n ∧ hi - lo + i ≤ n ∧ e = [(1, .func (.func f) #[] cap), (5, .int .i64 (lo : Int)), (6, .int .i64 (hi : Int))]) n
  ⟨rfl, 0, n, by omega, by omega, by omega, by omega, rfl⟩ ?_
 rintro i e τ hi ⟨hτ, lo, h, h1, h2, h3, h4, rfl⟩
 subst hτ
 by_cases h0 : lo < h
 ·have d0 : decide ((lo : Int) < (h : Int)) = true := by rw [decide_eq_true]; omega
  have w0 : IntKind.wrap .i64 ((lo : Int) + (h : Int)) = ((lo + h : Nat) : Int) := by rw [wrap64' (by omega) (by omega)]; omega
  have w1 : IntKind.wrap .u64 ((lo + h : Nat) : Int) = ((lo + h : Nat) : Int) := wrap_u64 (by omega) (by omega)
  have w2 : ((lo + h : Nat) : Int).fdiv (2 ^ (min 1 (IntKind.bits .u64))) = (((lo + h) / 2 : Nat) : Int) := by rw [shr_nat (by decide), Nat.shiftRight_eq_div_pow]
  have w3 : IntKind.wrap .i64 (((lo + h) / 2 : Nat) : Int) = (((lo + h) / 2 : Nat) : Int) := wrap64' (by omega) (by omega)
  obtain ⟨m, hm⟩ : ∃ m, m = (lo + h) / 2 := ⟨_, rfl⟩
  rw [← hm] at w2 w3
  have w4 : IntKind.wrap .i64 ((m : Int) + 1) = ((m + 1 : Nat) : Int) := by rw [wrap64' (by omega) (by omega)]; omega
  simp only [↓eD, eZ, ↓reduceIte, Nat.reduceEqDiff, Nat.reduceAdd, Nat.reduceMul, reduceCtorEq, Nat.reduceLeDiff, Int.reduceLT, Int.reduceLE, Int.reduceToNat, Int.reduceEq, Nat.reduceLT, d0, w0, w1, w2, w3, undef_eq]
  refine appK_at (hf m (by omega)) ?_
  by_cases g : k ≤ m
  ·have dg : decide (k ≤ m) = true := decide_eq_true g
   simp only [↓eD, eZ, ↓reduceIte, Nat.reduceEqDiff, Nat.reduceAdd, Nat.reduceMul, reduceCtorEq, Nat.reduceLeDiff, Int.reduceLT, Int.reduceLE, Int.reduceToNat, Int.reduceEq, Nat.reduceLT, dg, undef_eq]
   exact ⟨by omega, lo, m, by omega, by omega, by omega, by omega, rfl⟩
  ·have dg : decide (k ≤ m) = false := decide_eq_false g
   simp only [↓eD, eZ, ↓reduceIte, Nat.reduceEqDiff, Nat.reduceAdd, Nat.reduceMul, reduceCtorEq, Nat.reduceLeDiff, Int.reduceLT, Int.reduceLE, Int.reduceToNat, Int.reduceEq, Nat.reduceLT, dg, w4, undef_eq]
   exact ⟨by omega, m + 1, h, by omega, by omega, by omega, by omega, rfl⟩
 ·have d0 : decide ((lo : Int) < (h : Int)) = false := by rw [decide_eq_false]; omega
  have : lo = k := by omega
  subst this
  simp only [↓eD, eZ, ↓reduceIte, Nat.reduceEqDiff, Nat.reduceAdd, Nat.reduceMul, reduceCtorEq, Nat.reduceLeDiff, Int.reduceLT, Int.reduceLE, Int.reduceToNat, Int.reduceEq, Nat.reduceLT, d0, undef_eq]
theorem hear1_app {σ : H} {bw bp vw vp : Nat} {id : Int} {u : Value} {L : List Kp} {p : Pl} {i : Nat} (hw : σ[bw]? = some (.cells vw [.int .i64 id, u] (0, 0))) (hp : σ[bp]? = some (.cells vp (pC p) (0, 0))) (hL : Lk σ u L) (hi : i < L.length) (hn : L.length < 1000) :
  App Tryz.prog (.func 18) #[.pointer (some ⟨bw, 0, none⟩), .pointer (some ⟨bp, 0, none⟩)] #[.int .i64 (i : Int)] σ fun w σ' => σ' = σ ∧ w = .bool (decide (p.m ≤ L[i].m)) := by
 refine App.of_sem mixed Tryz.func18 t18 k18 r18 (Nat.le_of_ble_eq_true rfl) ?_
 obtain ⟨a, c, rfl⟩ := hL.slice
 unfold s18
 have r1 : rd1 σ ⟨bw, 1, none⟩ = some (.slice a L.length c) := rd1_of hw .refl rfl
 have r2 : rd1 σ ⟨bp, 1, none⟩ = some (.int .i64 p.m) := rd1_of hp .refl rfl
 obtain ⟨b, o, rfl, hr⟩ := hL.at hi
 have r3 : rd1 σ ⟨b, o + i * 4, none⟩ = some (.int .i64 L[i].m) := by
  have := rd1_row hr (j := 0) rfl
  exact this
 have hb : (0 : Int) ≤ (i : Int) ∧ (i : Int) < (L.length : Int) := by omega
 generalize L[i].m = x at r3 ⊢
 simp only [↓eD, eZ, ↓reduceIte, Nat.reduceEqDiff, Nat.reduceAdd, Nat.reduceMul, reduceCtorEq, Nat.reduceLeDiff, Int.reduceLT, Int.reduceLE, Int.reduceToNat, Int.reduceEq, Nat.reduceLT, r1, r2, hb, Int.toNat_natCast, r3, undef_eq]
end Go.Proofs.YtiipnbnkikmlgaaGreatDoor
