/- Walks and plain laws. Conditions: none. -/
import Derived.Test.YtjgbbhfihcmphaaDoorBodiesL5
set_option linter.all false
set_option maxRecDepth 10000
set_option maxHeartbeats 4000000
namespace Go.Proofs.YtjgbbhfihcmphaaDoor
open Go Go.Cn Go.RowKit
def tF (i n : Nat) : List Bool :=
 if h : n ≤ 1 then [] else if i < splitN n then tF i (splitN n) ++ [false] else tF (i - splitN n) (n - splitN n) ++ [true]
termination_by n
decreasing_by all_goals (have := splitN_spec (n := n) (by omega); omega)
def pairF (t : Bool) (d x : List Int) : List Int × List Int := if t = true then (x, d) else (d, x)
def foldS : List Int → List Bool → List (List Int) → List Int
 |d, t :: T, x :: L => foldS (nodeF (pairF t d x).1 (pairF t d x).2) T L
 |d, _, _ => d
theorem foldS_snoc {t : Bool} {x : List Int} : ∀ {T : List Bool} {L : List (List Int)} {d : List Int}, T.length = L.length → foldS d (T ++ [t]) (L ++ [x]) = nodeF (pairF t (foldS d T L) x).1 (pairF t (foldS d T L) x).2
 |[], [], d, _ => rfl
 |u :: T, y :: L, d, h => by
  show foldS _ (T ++ [t]) (L ++ [x]) = _
  rw [foldS_snoc (by simpa using h)]
  rfl
theorem clF_sh {leaf : List Int} : ∀ {N i n : Nat} {L : List (List Int)}, n ≤ N → (clF leaf i n L true).2.2 = true
 |0, i, n, L, h => by rw [clF, dif_pos (by omega)]
 |N + 1, i, n, L, h => by
  rw [clF]
  split
  ·rfl
  ·have hs := splitN_spec (n := n) (by omega)
   split
   ·rw [Bool.true_or]
    exact clF_sh (N := N) (by omega)
   ·rw [Bool.true_or]
    exact clF_sh (N := N) (by omega)
theorem clF_eq {leaf : List Int} : ∀ {N i n : Nat} {L : List (List Int)} {sh : Bool}, n ≤ N → 0 < n → i < n →
  ((tF i n).length ≤ L.length → clF leaf i n L sh = (foldS leaf (tF i n) (L.drop (L.length - (tF i n).length)), L.take (L.length - (tF i n).length), sh)) ∧ (L.length < (tF i n).length → (clF leaf i n L sh).2.2 = true)
 |0, i, n, L, sh, h, h0, _ => by omega
 |N + 1, i, n, L, sh, h, h0, hi => by
  by_cases h1 : n ≤ 1
  ·rw [tF, dif_pos h1, clF, dif_pos h1]
   exact ⟨fun _ => by simp [foldS], fun h => by simp at h⟩
  have hs := splitN_spec (n := n) (by omega)
  have key : ∀ (j m : Nat) (t : Bool) (F : List Int × List (List Int) × Bool), m ≤ N → 0 < m → j < m → F = clF leaf j m L.dropLast (sh || L.isEmpty) → tF i n = tF j m ++ [t] → clF leaf i n L sh = (nodeF (pairF t F.1 (lastD L)).1 (pairF t F.1 (lastD L)).2, F.2) →
    ((tF i n).length ≤ L.length → clF leaf i n L sh = (foldS leaf (tF i n) (L.drop (L.length - (tF i n).length)), L.take (L.length - (tF i n).length), sh)) ∧ (L.length < (tF i n).length → (clF leaf i n L sh).2.2 = true) := by
   intro j m t F hm hm0 hj hF hT hC
   obtain ⟨ih1, ih2⟩ := clF_eq (leaf := leaf) (N := N) (i := j) (n := m) (L := L.dropLast) (sh := sh || L.isEmpty) hm hm0 hj
   rw [← hF] at ih1 ih2
   rw [hT, List.length_append, List.length_singleton, hC]
   constructor
   ·intro hlen
    have hne : L ≠ [] := by intro h9; rw [h9] at hlen; simp at hlen
    have hsplit := List.dropLast_concat_getLast hne
    have hlast : lastD L = L.getLast hne := by
     unfold lastD
     rw [List.getLastD_eq_getLast?, List.getLast?_eq_some_getLast hne]
     rfl
    have hemp : L.isEmpty = false := by cases L with
     |nil => exact absurd rfl hne
     |cons _ _ => rfl
    rw [hlast]
    rw [List.length_dropLast] at ih1
    have e := ih1 (by omega)
    rw [hemp, Bool.or_false] at e
    rw [e]
    simp only
    have hd : L.drop (L.length - ((tF j m).length + 1)) = L.dropLast.drop (L.length - 1 - (tF j m).length) ++ [L.getLast hne] := by
     conv => lhs; rw [← hsplit]
     rw [List.drop_append_of_le_length (by rw [List.length_dropLast]; simp)]
     congr 2
     simp
    have ht : L.take (L.length - ((tF j m).length + 1)) = L.dropLast.take (L.length - 1 - (tF j m).length) := by
     conv => lhs; rw [← hsplit]
     rw [List.take_append_of_le_length (by rw [List.length_dropLast]; simp)]
     congr 1
     simp
    rw [hd, ht, foldS_snoc (by rw [List.length_drop, List.length_dropLast]; omega)]
   ·intro hlen
    by_cases hne : L = []
    ·subst hne
     have hF2 : F.2.2 = true := by
      rw [hF]
      have := clF_sh (leaf := leaf) (N := m) (i := j) (n := m) (L := ([] : List (List Int)).dropLast) (Nat.le_refl _)
      simpa using this
     exact hF2
    ·have : L.dropLast.length < (tF j m).length := by rw [List.length_dropLast]; have := List.length_pos_iff.2 hne; omega
     exact ih2 this
  by_cases hik : i < splitN n
  ·refine key i (splitN n) false _ (by omega) (by omega) hik rfl ?_ ?_
   ·rw [tF, dif_neg h1, if_pos hik]
   ·rw [clF, dif_neg h1, if_pos hik]; rfl
  ·refine key (i - splitN n) (n - splitN n) true _ (by omega) (by omega) (by omega) rfl ?_ ?_
   ·rw [tF, dif_neg h1, if_neg hik]
   ·rw [clF, dif_neg h1, if_neg hik]; rfl
theorem chkI_of {leaf root : List Int} {i n : Nat} {L : List (List Int)} (h1 : i < n) (h2 : n ≤ 1099511627776) (hl : L.length = (tF i n).length) (hr : foldS leaf (tF i n) L = root) : chkI leaf i n L root = true := by
 unfold chkI
 rw [if_neg (by omega), Int.toNat_natCast, Int.toNat_natCast]
 have e := (clF_eq (leaf := leaf) (N := n) (i := i) (n := n) (L := L) (sh := false) (Nat.le_refl _) (by omega) h1).1 (by omega)
 rw [e, hl, Nat.sub_self, List.drop_zero, List.take_zero, hr]
 simp
end Go.Proofs.YtjgbbhfihcmphaaDoor
