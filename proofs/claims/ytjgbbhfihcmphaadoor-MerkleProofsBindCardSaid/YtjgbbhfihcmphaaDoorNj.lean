/- Walks and plain laws. Conditions: none. -/
import Derived.Test.YtjgbbhfihcmphaaDoorBodiesL6
set_option linter.all false
set_option maxRecDepth 10000
set_option maxHeartbeats 4000000
namespace Go.Proofs.YtjgbbhfihcmphaaDoor
open Go Go.Cn Go.RowKit
def tF (i n : Nat) : List Bool :=
 if h : n ≤ 1 then [] else if i < splitN n then tF i (splitN n) ++ [false] else tF (i - splitN n) (n - splitN n) ++ [true]
termination_by n
decreasing_by all_goals (have := splitN_spec (n := n) (by omega); omega)
def pairF (t : Bool) (d x : List Int) : List Int × List Int := if t = true then (x, d) else (d, x)
def stF : List Int → List Bool → List (List Int) → List (List Int × List Int)
 |d, t :: T, x :: L => pairF t d x :: stF (nodeF (pairF t d x).1 (pairF t d x).2) T L
 |_, _, _ => []
def foldS : List Int → List Bool → List (List Int) → List Int
 |d, t :: T, x :: L => foldS (nodeF (pairF t d x).1 (pairF t d x).2) T L
 |d, _, _ => d
theorem foldS_snoc {t : Bool} {x : List Int} : ∀ {T : List Bool} {L : List (List Int)} {d : List Int}, T.length = L.length → foldS d (T ++ [t]) (L ++ [x]) = nodeF (pairF t (foldS d T L) x).1 (pairF t (foldS d T L) x).2
 |[], [], d, _ => rfl
 |u :: T, y :: L, d, h => by
  show foldS _ (T ++ [t]) (L ++ [x]) = _
  rw [foldS_snoc (by simpa using h)]
  rfl
theorem clF_sh {leaf : List Int} : ∀ {N i n : Nat} {L : List (List Int)}, n ≤ N → (clF leaf i n L true).2.2 = true
 |0, i, n, L, h => by rw [clF, dif_pos (by omega)]
 |N + 1, i, n, L, h => by
  rw [clF]
  split
  ·rfl
  ·have hs := splitN_spec (n := n) (by omega)
   split
   ·rw [Bool.true_or]
    exact clF_sh (N := N) (by omega)
   ·rw [Bool.true_or]
    exact clF_sh (N := N) (by omega)
theorem clF_eq {leaf : List Int} : ∀ {N i n : Nat} {L : List (List Int)} {sh : Bool}, n ≤ N → 0 < n → i < n →
  ((tF i n).length ≤ L.length → clF leaf i n L sh = (foldS leaf (tF i n) (L.drop (L.length - (tF i n).length)), L.take (L.length - (tF i n).length), sh)) ∧ (L.length < (tF i n).length → (clF leaf i n L sh).2.2 = true)
 |0, i, n, L, sh, h, h0, _ => by omega
 |N + 1, i, n, L, sh, h, h0, hi => by
  by_cases h1 : n ≤ 1
  ·rw [tF, dif_pos h1, clF, dif_pos h1]
   exact ⟨fun _ => by simp [foldS], fun h => by simp at h⟩
  have hs := splitN_spec (n := n) (by omega)
  have key : ∀ (j m : Nat) (t : Bool) (F : List Int × List (List Int) × Bool), m ≤ N → 0 < m → j < m → F = clF leaf j m L.dropLast (sh || L.isEmpty) → tF i n = tF j m ++ [t] → clF leaf i n L sh = (nodeF (pairF t F.1 (lastD L)).1 (pairF t F.1 (lastD L)).2, F.2) →
    ((tF i n).length ≤ L.length → clF leaf i n L sh = (foldS leaf (tF i n) (L.drop (L.length - (tF i n).length)), L.take (L.length - (tF i n).length), sh)) ∧ (L.length < (tF i n).length → (clF leaf i n L sh).2.2 = true) := by
   intro j m t F hm hm0 hj hF hT hC
   obtain ⟨ih1, ih2⟩ := clF_eq (leaf := leaf) (N := N) (i := j) (n := m) (L := L.dropLast) (sh := sh || L.isEmpty) hm hm0 hj
   rw [← hF] at ih1 ih2
   rw [hT, List.length_append, List.length_singleton, hC]
   constructor
   ·intro hlen
    have hne : L ≠ [] := by intro h9; rw [h9] at hlen; simp at hlen
    have hsplit := List.dropLast_concat_getLast hne
    have hlast : lastD L = L.getLast hne := by
     unfold lastD
     rw [List.getLastD_eq_getLast?, List.getLast?_eq_some_getLast hne]
     rfl
    have hemp : L.isEmpty = false := by cases L with
     |nil => exact absurd rfl hne
     |cons _ _ => rfl
    rw [hlast]
    rw [List.length_dropLast] at ih1
    have e := ih1 (by omega)
    rw [hemp, Bool.or_false] at e
    rw [e]
    simp only
    have hd : L.drop (L.length - ((tF j m).length + 1)) = L.dropLast.drop (L.length - 1 - (tF j m).length) ++ [L.getLast hne] := by
     conv => lhs; rw [← hsplit]
     rw [List.drop_append_of_le_length (by rw [List.length_dropLast]; simp)]
     congr 2
     simp
    have ht : L.take (L.length - ((tF j m).length + 1)) = L.dropLast.take (L.length - 1 - (tF j m).length) := by
     conv => lhs; rw [← hsplit]
     rw [List.take_append_of_le_length (by rw [List.length_dropLast]; simp)]
     congr 1
     simp
    rw [hd, ht, foldS_snoc (by rw [List.length_drop, List.length_dropLast]; omega)]
   ·intro hlen
    by_cases hne : L = []
    ·subst hne
     have hF2 : F.2.2 = true := by
      rw [hF]
      have := clF_sh (leaf := leaf) (N := m) (i := j) (n := m) (L := ([] : List (List Int)).dropLast) (Nat.le_refl _)
      simpa using this
     exact hF2
    ·have : L.dropLast.length < (tF j m).length := by rw [List.length_dropLast]; have := List.length_pos_iff.2 hne; omega
     exact ih2 this
  by_cases hik : i < splitN n
  ·refine key i (splitN n) false _ (by omega) (by omega) hik rfl ?_ ?_
   ·rw [tF, dif_neg h1, if_pos hik]
   ·rw [clF, dif_neg h1, if_pos hik]; rfl
  ·refine key (i - splitN n) (n - splitN n) true _ (by omega) (by omega) (by omega) rfl ?_ ?_
   ·rw [tF, dif_neg h1, if_neg hik]
   ·rw [clF, dif_neg h1, if_neg hik]; rfl
theorem chkI_true {leaf root : List Int} {i n : Int} {L : List (List Int)} (h : chkI leaf i n L root = true) : (1 ≤ n ∧ n ≤ 1099511627776 ∧ 0 ≤ i ∧ i < n) ∧ L.length = (tF i.toNat n.toNat).length ∧ foldS leaf (tF i.toNat n.toNat) L = root := by
 unfold chkI at h
 split at h
 ·cases h
 rename_i hc
 rw [Bool.and_eq_true, Bool.and_eq_true, decide_eq_true_eq, Bool.not_eq_true', List.isEmpty_iff] at h
 obtain ⟨⟨h1, h2⟩, h3⟩ := h
 obtain ⟨e1, e2⟩ := clF_eq (leaf := leaf) (N := n.toNat) (i := i.toNat) (n := n.toNat) (L := L) (sh := false) (Nat.le_refl _) (by omega) (by omega)
 have hle : (tF i.toNat n.toNat).length ≤ L.length := by
  rcases Nat.lt_or_ge L.length (tF i.toNat n.toNat).length with h9 | h9
  ·rw [e2 h9] at h2; cases h2
  ·exact h9
 have e := e1 hle
 rw [e] at h1 h3
 simp only at h1 h3
 have hl : L.length - (tF i.toNat n.toNat).length = 0 := by
  have := congrArg List.length h3
  rw [List.length_take] at this
  simp at this
  omega
 rw [hl, List.drop_zero] at h1
 exact ⟨by omega, by omega, h1⟩
theorem stF_len : ∀ {T : List Bool} {L : List (List Int)} {d : List Int}, T.length = L.length → (stF d T L).length = T.length
 |[], _, _, _ => by simp [stF]
 |t :: T, x :: L, d, h => by rw [stF, List.length_cons, stF_len (by simpa using h), List.length_cons]
theorem binds : ∀ {T : List Bool} {p q : List (List Int)} {a b : List Int}, T.length = p.length → T.length = q.length → a ≠ b → foldS a T p = foldS b T q →
  ∃ (k : Nat) (x y : List Int × List Int), (stF a T p)[k]? = some x ∧ (stF b T q)[k]? = some y ∧ x ≠ y ∧ nodeF x.1 x.2 = nodeF y.1 y.2
 |[], [], [], a, b, _, _, hab, h => absurd h hab
 |t :: T, x :: p, y :: q, a, b, h1, h2, hab, h => by
  have hne : pairF t a x ≠ pairF t b y := by
   intro h9
   unfold pairF at h9
   split at h9
   ·exact hab (Prod.mk.inj h9).2
   ·exact hab (Prod.mk.inj h9).1
  by_cases he : nodeF (pairF t a x).1 (pairF t a x).2 = nodeF (pairF t b y).1 (pairF t b y).2
  ·exact ⟨0, _, _, by rw [stF]; rfl, by rw [stF]; rfl, hne, he⟩
  ·obtain ⟨k, u, v, e1, e2, e3, e4⟩ := binds (T := T) (p := p) (q := q) (by simpa using h1) (by simpa using h2) he h
   exact ⟨k + 1, u, v, by rw [stF]; exact e1, by rw [stF]; exact e2, e3, e4⟩
theorem stF_dig : ∀ {T : List Bool} {L : List (List Int)} {d : List Int}, d.length = 16 → (∀ x ∈ L, x.length = 16) → ∀ x ∈ stF d T L, x.1.length = 16 ∧ x.2.length = 16
 |[], _, _, _, _, x, hx => by simp [stF] at hx
 |t :: T, [], d, _, _, x, hx => by simp [stF] at hx
 |t :: T, y :: L, d, hd, hL, x, hx => by
  rw [stF] at hx
  rcases List.mem_cons.1 hx with rfl | hx
  ·have hy := hL y (by simp)
   unfold pairF
   split
   ·exact ⟨hy, hd⟩
   ·exact ⟨hd, hy⟩
  ·exact stF_dig nodeF_len (fun z hz => hL z (by simp [hz])) x hx
end Go.Proofs.YtjgbbhfihcmphaaDoor
