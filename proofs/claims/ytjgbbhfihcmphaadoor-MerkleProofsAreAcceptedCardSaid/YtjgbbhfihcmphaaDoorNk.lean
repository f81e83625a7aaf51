/- Walks and plain laws. Conditions: none. -/
import Derived.Test.YtjgbbhfihcmphaaDoorNj
set_option linter.all false
set_option maxRecDepth 10000
set_option maxHeartbeats 4000000
namespace Go.Proofs.YtjgbbhfihcmphaaDoor
open Go Go.Cn Go.RowKit
theorem rootF_one {L : List (List Int)} (h : L.length = 1) : rootF L = L.getD 0 [] := by
 rw [rootF, dif_neg (by omega), dif_pos h]
theorem rootF_split {L : List (List Int)} (h : 1 < L.length) : rootF L = nodeF (rootF (L.take (splitN L.length))) (rootF (L.drop (splitN L.length))) := by
 rw [rootF, dif_neg (by omega), dif_neg (by omega)]
theorem lastD_snoc {L : List (List Int)} {x : List Int} : lastD (L ++ [x]) = x := by
 unfold lastD
 rw [List.getLastD_eq_getLast?]
 simp
theorem incl_ok : ∀ {N : Nat} {L : List (List Int)} {i : Nat}, L.length ≤ N → i < L.length → (inclF L i).length = (tF i L.length).length ∧ foldS (L.getD i []) (tF i L.length) (inclF L i) = rootF L
 |0, L, i, h, hi => by omega
 |N + 1, L, i, h, hi => by
  by_cases h1 : L.length ≤ 1
  ·rw [inclF, dif_pos (by omega), tF, dif_pos h1, rootF_one (by omega)]
   have : i = 0 := by omega
   subst this
   exact ⟨rfl, rfl⟩
  have hs := splitN_spec (n := L.length) (by omega)
  rw [rootF_split (by omega)]
  by_cases hik : i < splitN L.length
  ·have e1 : inclF L i = inclF (L.take (splitN L.length)) i ++ [rootF (L.drop (splitN L.length))] := by rw [inclF, dif_neg (by omega), if_pos hik]
   have e2 : tF i L.length = tF i (splitN L.length) ++ [false] := by rw [tF, dif_neg h1, if_pos hik]
   have hl : (L.take (splitN L.length)).length = splitN L.length := by rw [List.length_take]; omega
   obtain ⟨g1, g2⟩ := incl_ok (N := N) (L := L.take (splitN L.length)) (i := i) (by omega) (by omega)
   rw [hl] at g1 g2
   have hg : (L.take (splitN L.length)).getD i [] = L.getD i [] := by
    rw [List.getD_eq_getElem?_getD, List.getElem?_take, if_pos hik, List.getD_eq_getElem?_getD]
   rw [hg] at g2
   rw [e1, e2, List.length_append, List.length_append, g1, foldS_snoc g1.symm, g2]
   exact ⟨rfl, rfl⟩
  ·have e1 : inclF L i = inclF (L.drop (splitN L.length)) (i - splitN L.length) ++ [rootF (L.take (splitN L.length))] := by rw [inclF, dif_neg (by omega), if_neg hik]
   have e2 : tF i L.length = tF (i - splitN L.length) (L.length - splitN L.length) ++ [true] := by rw [tF, dif_neg h1, if_neg hik]
   have hl : (L.drop (splitN L.length)).length = L.length - splitN L.length := List.length_drop
   obtain ⟨g1, g2⟩ := incl_ok (N := N) (L := L.drop (splitN L.length)) (i := i - splitN L.length) (by omega) (by omega)
   rw [hl] at g1 g2
   have hg : (L.drop (splitN L.length)).getD (i - splitN L.length) [] = L.getD i [] := by
    rw [List.getD_eq_getElem?_getD, List.getElem?_drop, show splitN L.length + (i - splitN L.length) = i by omega, List.getD_eq_getElem?_getD]
   rw [hg] at g2
   rw [e1, e2, List.length_append, List.length_append, g1, foldS_snoc g1.symm, g2]
   exact ⟨rfl, rfl⟩
theorem incl_acc {L : List (List Int)} {i : Nat} (hi : i < L.length) (hn : L.length ≤ 40) : inclE L i = 0 ∧ chkI (L[i]) i L.length (inclP L i) (rootF L) = true := by
 have hc : ¬((i : Int) < 0 ∨ (L.length : Int) ≤ (i : Int)) := by omega
 refine ⟨by unfold inclE; rw [if_neg hc], ?_⟩
 unfold inclP
 rw [if_neg hc, Int.toNat_natCast]
 obtain ⟨g1, g2⟩ := incl_ok (Nat.le_refl _) hi
 refine chkI_of hi (by omega) g1 ?_
 rw [← g2]
 congr 1
 rw [List.getD_eq_getElem?_getD, List.getElem?_eq_getElem hi]
 rfl
theorem split_same {m n : Nat} (h2 : 2 ≤ n) (h1 : splitN n < m) (hm : m ≤ n) : splitN m = splitN n := by
 have hs := splitN_spec (n := n) h2
 have e : splitN n = 2 ^ (blen (n - 1) - 1) := rfl
 rw [e] at h1 hs ⊢
 exact splitN_uniq (by omega) (by omega)
theorem root_take {L : List (List Int)} {m : Nat} (h1 : 1 < L.length) (h2 : splitN L.length < m) (hm : m ≤ L.length) : rootF (L.take m) = nodeF (rootF (L.take (splitN L.length))) (rootF ((L.drop (splitN L.length)).take (m - splitN L.length))) := by
 have hs := splitN_spec (n := L.length) (by omega)
 have hl : (L.take m).length = m := by rw [List.length_take]; omega
 rw [rootF_split (by omega), hl, split_same (by omega) h2 hm, List.take_take, Nat.min_eq_left (by omega), List.drop_take]
theorem cons_ok {old : List Int} : ∀ {N : Nat} {L : List (List Int)} {m : Nat} {mark : Bool} {X : List (List Int)} {sh : Bool}, L.length ≤ N → 0 < m → m ≤ L.length → (mark = false ∨ old = rootF (L.take m) ∨ (m ≠ L.length ∧ ∀ a, m ≠ 2 ^ a)) →
  ccF old m L.length mark (X ++ consF L m mark) sh = ((rootF (L.take m), rootF L), X, sh)
 |0, L, m, mark, X, sh, h, h0, hm, _ => by omega
 |N + 1, L, m, mark, X, sh, h, h0, hm, hc => by
  by_cases h1 : m = L.length
  ·rw [ccF, dif_pos (.inl h1), consF, dif_pos (.inl h1)]
   have ht : L.take m = L := List.take_of_length_le (by omega)
   rw [ht]
   cases mark with
   |false =>
    rw [if_neg (by simp), if_neg (by simp), lastD_snoc, List.dropLast_concat]
    simp
   |true =>
    rcases hc with hc | hc | hc
    ·cases hc
    ·rw [if_pos rfl, if_pos rfl, List.append_nil, hc, ht]
    ·exact absurd h1 hc.1
  have hs := splitN_spec (n := L.length) (by omega)
  have hk : splitN L.length = 2 ^ (blen (L.length - 1) - 1) := rfl
  by_cases hmk : m ≤ splitN L.length
  ·have hl : (L.take (splitN L.length)).length = splitN L.length := by rw [List.length_take]; omega
   have e1 : consF L m mark = consF (L.take (splitN L.length)) m mark ++ [rootF (L.drop (splitN L.length))] := by rw [consF, dif_neg (by omega), if_pos hmk]
   have htt : (L.take (splitN L.length)).take m = L.take m := by rw [List.take_take, Nat.min_eq_left hmk]
   have ih := cons_ok (old := old) (N := N) (L := L.take (splitN L.length)) (m := m) (mark := mark) (X := X) (sh := sh) (by omega) h0 (by omega) (by
    rw [htt, hl]
    rcases hc with hc | hc | hc
    ·exact .inl hc
    ·exact .inr (.inl hc)
    ·exact .inr (.inr ⟨by rw [hk]; exact hc.2 _, hc.2⟩))
   rw [hl, htt] at ih
   rw [e1, ← List.append_assoc, ccF, dif_neg (by omega), if_pos hmk, lastD_snoc, List.dropLast_concat, show (X ++ consF (L.take (splitN L.length)) m mark ++ [rootF (L.drop (splitN L.length))]).isEmpty = false by simp, Bool.or_false, ih, rootF_split (L := L) (by omega)]
  ·have hl : (L.drop (splitN L.length)).length = L.length - splitN L.length := List.length_drop
   have e1 : consF L m mark = consF (L.drop (splitN L.length)) (m - splitN L.length) false ++ [rootF (L.take (splitN L.length))] := by rw [consF, dif_neg (by omega), if_neg hmk]
   have ih := cons_ok (old := old) (N := N) (L := L.drop (splitN L.length)) (m := m - splitN L.length) (mark := false) (X := X) (sh := sh) (by omega) (by omega) (by omega) (.inl rfl)
   rw [hl] at ih
   rw [e1, ← List.append_assoc, ccF, dif_neg (by omega), if_neg hmk, lastD_snoc, List.dropLast_concat, show (X ++ consF (L.drop (splitN L.length)) (m - splitN L.length) false ++ [rootF (L.take (splitN L.length))]).isEmpty = false by simp, Bool.or_false, ih, root_take (by omega) (by omega) hm, rootF_split (L := L) (by omega)]
theorem root_nil : rootF [] = emptyF := by rw [rootF]; rfl
theorem cons_acc {L : List (List Int)} {m : Nat} (hm : m ≤ L.length) (h0 : 0 < L.length) (hn : L.length ≤ 40) (other : List Int) :
  consE L m = 0 ∧ chkC m L.length (rootF (L.take m)) (rootF L) (consP L m) = true ∧ ((m = 0 ∨ m = L.length ∨ ∀ a, m ≠ 2 ^ a) → chkC m L.length other (rootF L) (consP L m) = decide (other = rootF (L.take m))) ∧
   (m ≠ 0 → chkC m L.length (rootF (L.take m)) other (consP L m) = decide (other = rootF L)) := by
 have hc : ¬((m : Int) < 0 ∨ (L.length : Int) < (m : Int)) := by omega
 have hg : ¬((m : Int) < 0 ∨ (L.length : Int) < (m : Int) ∨ (1099511627776 : Int) < (L.length : Int)) := by omega
 refine ⟨by unfold consE; rw [if_neg hc], ?_⟩
 by_cases m0 : m = 0
 ·subst m0
  have hP : consP L ((0 : Nat) : Int) = [] := by unfold consP; rw [if_neg hc, if_pos (.inl rfl)]
  rw [hP, List.take_zero, root_nil]
  have key : ∀ o r, chkC ((0 : Nat) : Int) L.length o r [] = decide (o = emptyF) := fun o r => by
   unfold chkC
   rw [if_neg hg, if_pos (show ((0 : Nat) : Int) = 0 from rfl)]
   simp
  exact ⟨by rw [key]; simp, fun _ => by rw [key], fun h => absurd rfl h⟩
 by_cases mn : m = L.length
 ·have hP : consP L (m : Int) = [] := by unfold consP; rw [if_neg hc, if_pos (.inr (by omega))]
  have ht : L.take m = L := List.take_of_length_le (by omega)
  rw [hP, ht]
  have key : ∀ o r, chkC (m : Int) L.length o r [] = decide (o = r) := fun o r => by
   unfold chkC
   rw [if_neg hg, if_neg (by omega), Int.toNat_natCast, Int.toNat_natCast, ccF, dif_pos (.inl mn), if_pos rfl]
   simp
  refine ⟨by rw [key]; simp, fun _ => by rw [key], fun _ => ?_⟩
  rw [key]
  by_cases h : other = rootF L
  ·rw [decide_eq_true h, decide_eq_true h.symm]
  ·rw [decide_eq_false h, decide_eq_false (fun h9 => h h9.symm)]
 have hP : consP L (m : Int) = consF L m true := by unfold consP; rw [if_neg hc, if_neg (by omega), Int.toNat_natCast]
 rw [hP]
 have key : ∀ o r, (o = rootF (L.take m) ∨ ∀ a, m ≠ 2 ^ a) → chkC (m : Int) L.length o r (consF L m true) = (decide (rootF (L.take m) = o) && decide (rootF L = r)) := fun o r h => by
  unfold chkC
  have hk := cons_ok (old := o) (L := L) (m := m) (mark := true) (X := []) (sh := false) (Nat.le_refl _) (by omega) hm (by
   rcases h with h | h
   ·exact .inr (.inl h)
   ·exact .inr (.inr ⟨mn, h⟩))
  rw [List.nil_append] at hk
  rw [if_neg hg, if_neg (by omega), Int.toNat_natCast, Int.toNat_natCast, hk]
  simp
 refine ⟨by rw [key _ _ (.inl rfl)]; simp, fun h => ?_, fun _ => ?_⟩
 ·rw [key _ _ (.inr (h.resolve_left m0 |>.resolve_left mn)), decide_eq_true (rfl : rootF L = rootF L), Bool.and_true]
  by_cases h : other = rootF (L.take m)
  ·rw [decide_eq_true h, decide_eq_true h.symm]
  ·rw [decide_eq_false h, decide_eq_false (fun h9 => h h9.symm)]
 ·rw [key _ _ (.inl rfl), decide_eq_true (rfl : rootF (L.take m) = rootF (L.take m)), Bool.true_and]
  by_cases h : other = rootF L
  ·rw [decide_eq_true h, decide_eq_true h.symm]
  ·rw [decide_eq_false h, decide_eq_false (fun h9 => h h9.symm)]
theorem cut_props {t : Int} : ∀ {Q : List Int}, Asc Q → (∀ q ∈ Q.take (cutK Q t), q < t) ∧ (∀ q ∈ Q.drop (cutK Q t), t ≤ q)
 |[], _ => ⟨fun q h => by simp at h, fun q h => by simp at h⟩
 |p :: r, h => by
  obtain ⟨h1, h2⟩ := List.pairwise_cons.1 h
  by_cases hp : p < t
  ·have e : cutK (p :: r) t = cutK r t + 1 := by unfold cutK; rw [List.takeWhile_cons, if_pos (by simpa using hp), List.length_cons]
   obtain ⟨g1, g2⟩ := cut_props (t := t) h2
   rw [e, List.take_succ_cons, List.drop_succ_cons]
   refine ⟨fun q hq => ?_, g2⟩
   rcases List.mem_cons.1 hq with h | h
   ·rw [h]; exact hp
   ·exact g1 q h
  ·have e : cutK (p :: r) t = 0 := by unfold cutK; rw [List.takeWhile_cons, if_neg (by simpa using hp)]; rfl
   rw [e, List.take_zero, List.drop_zero]
   refine ⟨fun q hq => absurd hq (List.not_mem_nil), fun q hq => ?_⟩
   rcases List.mem_cons.1 hq with rfl | hq
   ·omega
   ·have := h1 q hq; omega
theorem many_ok {g : Int → List Int} : ∀ {N : Nat} {L : List (List Int)} {fr : Int} {Q : List Int} {X Y : List (List Int)} {s t : Bool}, L.length ≤ N → 0 < L.length → Asc Q → (∀ q ∈ Q, fr ≤ q ∧ q < fr + L.length ∧ g q = L.getD (q - fr).toNat []) →
  cmF fr L.length Q ⟨manyF L fr Q ++ X, s, Q.map g ++ Y, t⟩ = (rootF L, ⟨X, s, Y, t⟩)
 |0, L, fr, Q, X, Y, s, t, h, h0, _, _ => by omega
 |N + 1, L, fr, Q, X, Y, s, t, h, h0, hA, hQ => by
  by_cases hq0 : Q = []
  ·subst hq0
   rw [cmF, if_pos rfl, manyF, if_pos rfl]
   simp [headD]
  by_cases h1 : L.length ≤ 1
  ·have hQ1 : Q = [fr] := by
    match Q, hq0, hA, hQ with
    |[q], _, _, hQ => have := hQ q (by simp); rw [show q = fr by omega]
    |q :: q' :: r, _, hA, hQ =>
     have a1 := hQ q (by simp)
     have a2 := hQ q' (by simp)
     have a3 := (List.pairwise_cons.1 hA).1 q' (by simp)
     omega
   subst hQ1
   rw [cmF, if_neg hq0, dif_pos h1, manyF, if_neg hq0, dif_pos h1, rootF_one (by omega)]
   obtain ⟨_, _, hg⟩ := hQ fr (by simp)
   rw [Int.sub_self] at hg
   simp only [List.map_cons, List.map_nil, List.cons_append, List.nil_append, headD, List.headD_cons, List.tail_cons, List.isEmpty_cons, Bool.or_false, hg]
   rfl
  have hs := splitN_spec (n := L.length) (by omega)
  obtain ⟨k, hk⟩ : ∃ k, k = splitN L.length := ⟨_, rfl⟩
  have hm : manyF L fr Q = manyF (L.take k) fr (Q.take (cutK Q (fr + (k : Int)))) ++ manyF (L.drop k) (fr + (k : Int)) (Q.drop (cutK Q (fr + (k : Int)))) := by rw [manyF, if_neg hq0, dif_neg h1, hk]
  have hcm : ∀ st, cmF fr L.length Q st = (nodeF (cmF fr k (Q.take (cutK Q (fr + (k : Int)))) st).1 (cmF (fr + (k : Int)) (L.length - k) (Q.drop (cutK Q (fr + (k : Int)))) (cmF fr k (Q.take (cutK Q (fr + (k : Int)))) st).2).1,
    (cmF (fr + (k : Int)) (L.length - k) (Q.drop (cutK Q (fr + (k : Int)))) (cmF fr k (Q.take (cutK Q (fr + (k : Int)))) st).2).2) := fun st => by rw [cmF, if_neg hq0, dif_neg h1, hk]
  have hr : rootF L = nodeF (rootF (L.take k)) (rootF (L.drop k)) := by rw [hk]; exact rootF_split (by omega)
  rw [← hk] at hs
  obtain ⟨c1, c2⟩ := cut_props (t := fr + (k : Int)) hA
  have hsplit := List.take_append_drop (cutK Q (fr + (k : Int))) Q
  generalize cutK Q (fr + (k : Int)) = x at hm hcm c1 c2 hsplit
  have hl1 : (L.take k).length = k := by rw [List.length_take]; omega
  have hl2 : (L.drop k).length = L.length - k := List.length_drop
  have q1 : ∀ q ∈ Q.take x, fr ≤ q ∧ q < fr + (L.take k).length ∧ g q = (L.take k).getD (q - fr).toNat [] := fun q hq => by
   obtain ⟨b1, b2, b3⟩ := hQ q (List.mem_of_mem_take hq)
   have b4 := c1 q hq
   refine ⟨b1, by rw [hl1]; omega, ?_⟩
   rw [b3, List.getD_eq_getElem?_getD, List.getD_eq_getElem?_getD, List.getElem?_take, if_pos (by omega)]
  have q2 : ∀ q ∈ Q.drop x, fr + (k : Int) ≤ q ∧ q < fr + (k : Int) + (L.drop k).length ∧ g q = (L.drop k).getD (q - (fr + (k : Int))).toNat [] := fun q hq => by
   obtain ⟨b1, b2, b3⟩ := hQ q (List.mem_of_mem_drop hq)
   have b4 := c2 q hq
   refine ⟨b4, by rw [hl2]; omega, ?_⟩
   rw [b3, List.getD_eq_getElem?_getD, List.getD_eq_getElem?_getD, List.getElem?_drop, show k + (q - (fr + (k : Int))).toNat = (q - fr).toNat by omega]
  have i1 := many_ok (g := g) (N := N) (L := L.take k) (fr := fr) (Q := Q.take x) (X := manyF (L.drop k) (fr + (k : Int)) (Q.drop x) ++ X) (Y := (Q.drop x).map g ++ Y) (s := s) (t := t) (by omega) (by omega) hA.take q1
  have i2 := many_ok (g := g) (N := N) (L := L.drop k) (fr := fr + (k : Int)) (Q := Q.drop x) (X := X) (Y := Y) (s := s) (t := t) (by omega) (by omega) hA.drop q2
  rw [hl1] at i1
  rw [hl2] at i2
  have hF : Q.map g ++ Y = (Q.take x).map g ++ ((Q.drop x).map g ++ Y) := by rw [← List.append_assoc, ← List.map_append, hsplit]
  rw [hcm, hm, hF, List.append_assoc, i1]
  simp only
  rw [i2, hr]
theorem asc_ok {n : Int} : ∀ {Q : List Int} {l : Int}, Asc Q → (∀ q ∈ Q, l < q ∧ q < n) → ascF n l Q = true
 |[], l, _, _ => rfl
 |p :: r, l, hA, hQ => by
  obtain ⟨h1, h2⟩ := List.pairwise_cons.1 hA
  have hp := hQ p (by simp)
  rw [ascF, if_neg (by omega)]
  exact asc_ok h2 fun q hq => ⟨h1 q hq, (hQ q (by simp [hq])).2⟩
theorem many_acc {L : List (List Int)} {Q : List Int} (h0 : 0 < L.length) (hn : L.length ≤ 40) (hA : Asc Q) (hQ : ∀ q ∈ Q, 0 ≤ q ∧ q < L.length) :
  manyE L Q = 0 ∧ chkM L.length Q (Q.map fun q => L.getD q.toNat []) (manyP L Q) (rootF L) = true := by
 have ha : ascF (L.length : Int) (-1) Q = true := asc_ok hA fun q hq => by have := hQ q hq; omega
 refine ⟨by unfold manyE; rw [if_pos ha], ?_⟩
 have hP : manyP L Q = manyF L 0 Q := by unfold manyP; rw [if_pos ha, if_neg (by omega)]
 rw [hP]
 unfold chkM
 rw [if_neg (by rw [ha]; simp; omega), if_neg (by omega), Int.toNat_natCast]
 have hk := many_ok (g := fun q => L.getD q.toNat []) (L := L) (fr := 0) (Q := Q) (X := []) (Y := []) (s := false) (t := false) (Nat.le_refl _) h0 hA (fun q hq => by
  have := hQ q hq
  exact ⟨by omega, by omega, by rw [Int.sub_zero]⟩)
 rw [List.append_nil, List.append_nil] at hk
 rw [hk]
 simp
set_option maxHeartbeats 8000000
attribute [local irreducible] evL sem onG onI onV
def bitB (ch k : Nat) : Bool := decide (ch >>> k &&& 1 = 1)
def chN (ch k : Nat) : List Nat := (List.range k).filter (bitB ch)
def chQ (ch k : Nat) : List Int := (chN ch k).map fun (x : Nat) => (x : Int)
theorem chN_succ {ch k : Nat} : chN ch (k + 1) = if bitB ch k = true then chN ch k ++ [k] else chN ch k := by
 unfold chN
 rw [List.range_succ, List.filter_append]
 split
 ·rename_i h; simp [h]
 ·rename_i h; simp [h]
theorem chN_lt {ch k : Nat} : ∀ x ∈ chN ch k, x < k := fun x h => List.mem_range.1 (List.mem_filter.1 h).1
theorem chQ_asc {ch k : Nat} : Asc (chQ ch k) := by
 unfold chQ Asc
 rw [List.pairwise_map]
 refine List.Pairwise.imp ?_ (List.Pairwise.sublist List.filter_sublist List.pairwise_lt_range)
 intro a b h
 omega
theorem chN_len {ch k : Nat} : (chN ch k).length ≤ k := by
 have := List.length_filter_le (bitB ch) (List.range k)
 rw [List.length_range] at this
 exact this
structure Two (τ0 τ : H) (pv fv : Value) (Q : List Int) (F : List (List Int)) : Prop where
 o : Old τ0 τ
 p : Grown (sized τ0.size) τ 1 pv (Q.map (.int .i64)) Q.length
 f : Grown (sized τ0.size) τ 16 fv (F.map digC).flatten F.length
 d : ∀ c, baseOf pv = some c → baseOf fv ≠ some c
theorem Two.ap {τ0 τ : H} {pv fv : Value} {Q : List Int} {F : List (List Int)} {M : List Blk} (h : Two τ0 τ pv fv Q F) : Two τ0 (Cn.ap τ M) pv fv Q F := ⟨h.o.trans .ap, h.p.old .ap, h.f.old .ap, h.d⟩
theorem Two.pushP {τ0 τ : H} {pv fv : Value} {Q : List Int} {F : List (List Int)} {x : Int} (h : Two τ0 τ pv fv Q F) (hn : Q.length < 1000) :
  ∃ w τ', append 1 8 pv (.slice (some ⟨τ.size, 0, none⟩) 1 1) (Cn.ap τ [.cells 0 [.int .i64 x] (0, 0)]) = some (w, τ') ∧ Two τ0 τ' w fv (Q ++ [x]) F := by
 have hs : (sized τ0.size).size = τ0.size := sized_size
 have h' := h.ap (M := [.cells 0 [.int .i64 x] (0, 0)])
 have xc : xcells (Cn.ap τ [.cells 0 [.int .i64 x] (0, 0)]) 1 (.slice (some ⟨τ.size, 0, none⟩) 1 1) = some (1, [.int .i64 x]) := by
  show (rdN (Cn.ap τ _) ⟨τ.size, 0, none⟩ (1 * 1)).map (1, ·) = _
  rw [rdN_all (n := 1 * 1) (by rw [ap_new0]; rfl) rfl]
  rfl
 obtain ⟨w, τ', ha, A⟩ := append_grown (bytes := 8) h'.p (by omega) (by rw [hs]; exact h'.o.1) xc rfl rfl (by omega) (by omega)
 refine ⟨w, τ', ha, A.Old' h'.p (by rw [hs]; exact Nat.le_refl _) h'.o, ?_, ?_, fun c hc => ?_⟩
 ·have := A.grown
  simpa using this
 ·refine h'.f.keep fun c k hc hk => A.frame c k hk fun h9 => h.d c h9 hc
 ·rcases A.base with h9 | h9
  ·rw [h9] at hc; exact h.d c hc
  ·rw [h9] at hc
   injection hc with hc
   intro h8
   have := (h.f.base h8).2
   rw [← hc, ap_size] at this
   omega
theorem Two.pushF {τ0 τ : H} {pv fv : Value} {Q : List Int} {F : List (List Int)} {D : List Int} (h : Two τ0 τ pv fv Q F) (hn : F.length < 1000) (hD : D.length = 16) :
  ∃ w τ', append 16 16 fv (.slice (some ⟨τ.size, 0, none⟩) 1 1) (Cn.ap τ [.cells 0 (digC D) (0, 0)]) = some (w, τ') ∧ Two τ0 τ' pv w Q (F ++ [D]) := by
 have hs : (sized τ0.size).size = τ0.size := sized_size
 have lD : (digC D).length = 16 := by rw [digC_length, hD]
 have h' := h.ap (M := [.cells 0 (digC D) (0, 0)])
 have xc : xcells (Cn.ap τ [.cells 0 (digC D) (0, 0)]) 16 (.slice (some ⟨τ.size, 0, none⟩) 1 1) = some (1, digC D) := by
  show (rdN (Cn.ap τ _) ⟨τ.size, 0, none⟩ (1 * 16)).map (1, ·) = _
  rw [rdN_all (n := 1 * 16) (by rw [ap_new0]; rfl) (by rw [lD])]
  rfl
 obtain ⟨w, τ', ha, A⟩ := append_grown (bytes := 16) h'.f (by omega) (by rw [hs]; exact h'.o.1) xc (by rw [lD]) digC_one (by omega) (by omega)
 refine ⟨w, τ', ha, A.Old' h'.f (by rw [hs]; exact Nat.le_refl _) h'.o, ?_, ?_, fun c hc => ?_⟩
 ·refine h'.p.keep fun c k hc hk => A.frame c k hk fun h9 => h.d c hc h9
 ·have := A.grown
  rw [List.map_append, List.flatten_append, List.length_append]
  simpa using this
 ·rcases A.base with h9 | h9
  ·rw [h9]; exact h.d c hc
  ·rw [h9]
   intro h8
   injection h8 with h8
   have := (h.p.base hc).2
   rw [← h8, ap_size] at this
   omega
theorem Two.ps {τ0 τ : H} {pv fv : Value} {Q : List Int} {F : List (List Int)} (h : Two τ0 τ pv fv Q F) : Ps τ pv Q := by
 have hf : (Q.map intC).flatten = Q.map (.int .i64) := by
  clear h
  induction Q with
  |nil => rfl
  |cons p r ih => rw [List.map_cons, List.flatten_cons, ih]; rfl
 have g : Grown (sized τ0.size) τ 1 pv (Q.map intC).flatten (Q.map intC).length := by
  rw [List.length_map, hf]; exact h.p
 exact ⟨g.Row (fun r hr => by obtain ⟨x, _, rfl⟩ := List.mem_map.1 hr; rfl), h.p.cap⟩
theorem Two.ls {τ0 τ : H} {pv fv : Value} {Q : List Int} {F : List (List Int)} (h : Two τ0 τ pv fv Q F) (hd : ∀ d ∈ F, d.length = 16) : Ls τ fv F := grown_ls h.f hd
end Go.Proofs.YtjgbbhfihcmphaaDoor
