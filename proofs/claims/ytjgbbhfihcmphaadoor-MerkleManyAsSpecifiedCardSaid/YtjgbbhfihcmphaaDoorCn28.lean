/- An abstract run of a program, and that the model does the same: a part of the framework. Conditions: none. -/
import Derived.Test.YtjgbbhfihcmphaaDoorCn24
import Derived.HandedShaped
set_option linter.all false
namespace Go.Cn
open Go Go.RowKit
section
variable {σ σ' : H}
theorem rd1_Old {a : Addr} {v : Value} (h : Old σ σ') (hr : rd1 σ a = some v) : rd1 σ' a = some v := by
 unfold rd1 at hr ⊢
 split at hr
 ·rename_i h1; rw [h.2 _ (Array.getElem?_eq_some_iff.1 h1).1, h1]; exact hr
 ·rename_i h1; rw [h.2 _ (Array.getElem?_eq_some_iff.1 h1).1, h1]; exact hr
 ·cases hr
theorem rdN_Old {a : Addr} {n : Nat} {l : List Value} (h : Old σ σ') (hr : rdN σ a n = some l) : rdN σ' a n = some l := by
 unfold rdN at hr ⊢
 split at hr
 ·rename_i h1; rw [if_pos h1]; exact hr
 ·rename_i h1
  rw [if_neg h1]
  split at hr
  ·rename_i h1; rw [h.2 _ (Array.getElem?_eq_some_iff.1 h1).1, h1]; exact hr
  ·rename_i h1; rw [h.2 _ (Array.getElem?_eq_some_iff.1 h1).1, h1]; exact hr
  ·cases hr
theorem allS_get : ∀ {l : List (Option Value)} {r : List Value}, allS l = some r → r.length = l.length ∧ ∀ (i : Nat) (v : Value), r[i]? = some v → l[i]? = some (some v)
 |[], r, h => by simp only [allS, Option.some.injEq] at h; subst h; exact ⟨rfl, fun i v hv => by simp at hv⟩
 |none :: l, r, h => by cases h
 |some u :: l, r, h => by
  simp only [allS, Option.map_eq_some_iff] at h
  obtain ⟨r', h1, rfl⟩ := h
  obtain ⟨g1, g2⟩ := allS_get h1
  refine ⟨by simp [g1], fun i v hv => ?_⟩
  cases i with
  |zero => simp at hv ⊢; exact hv
  |succ i => simp at hv ⊢; exact g2 i v hv
theorem rd1_row {b o n : Nat} {l : List Value} (h : rdN σ ⟨b, o, none⟩ n = some l) {j : Nat} {v : Value} (hj : l[j]? = some v) : rd1 σ ⟨b, o + j, none⟩ = some v := by
 have hlt := (List.getElem?_eq_some_iff.1 hj).1
 unfold rdN at h
 split at h
 ·injection h with h; subst h; simp at hj
 ·unfold rd1
  split at h
  ·rename_i h1
   simp only [h1] at h ⊢
   split at h
   ·injection h with h
    subst h
    rw [List.getElem?_take, List.getElem?_drop] at hj
    split at hj
    ·exact hj
    ·cases hj
   ·cases h
  ·rename_i h1
   simp only [h1] at h ⊢
   split at h
   ·have := (allS_get h).2 j v hj
    rw [List.getElem?_take, List.getElem?_drop] at this
    split at this
    ·rw [this]; rfl
    ·cases this
   ·cases h
  ·cases h
def Row (σ : H) (s : Nat) (v : Value) (xs : List (List Value)) : Prop :=
 ∃ base cap, v = .slice base xs.length cap ∧ ∀ (i : Nat) (x : List Value), xs[i]? = some x → ∃ b off, base = some ⟨b, off, none⟩ ∧ rdN σ ⟨b, off + i * s, none⟩ s = some x
theorem Row.Old {s : Nat} {v : Value} {xs : List (List Value)} (h : Row σ s v xs) (ho : Old σ σ') : Row σ' s v xs :=
 let ⟨base, cap, h1, h2⟩ := h
 ⟨base, cap, h1, fun i x hx => let ⟨b, off, h3, h4⟩ := h2 i x hx; ⟨b, off, h3, rdN_Old ho h4⟩⟩
theorem Row.at {s n cap : Nat} {base : Option Addr} {xs : List (List Value)} (h : Row σ s (.slice base n cap) xs) {i : Nat} {x : List Value} (hx : xs[i]? = some x) :
  ∃ b off, base = some ⟨b, off, none⟩ ∧ rdN σ ⟨b, off + i * s, none⟩ s = some x := by
 obtain ⟨base', cap', h1, h2⟩ := h
 injection h1 with h1 h3 h4
 subst h1
 exact h2 i x hx
theorem Row.slice {s : Nat} {v : Value} {xs : List (List Value)} (h : Row σ s v xs) : ∃ base cap, v = .slice base xs.length cap := let ⟨base, cap, h1, _⟩ := h; ⟨base, cap, h1⟩
theorem get_set {b : Nat} {k0 k : Blk} (h : σ[b]? = some k0) : (σ.setIfInBounds b k)[b]? = some k := by
 have := (Array.getElem?_eq_some_iff.1 h).1
 simp [this]
theorem get_set_ne {b c : Nat} {k : Blk} (h : b ≠ c) : (σ.setIfInBounds b k)[c]? = σ[c]? := Array.getElem?_setIfInBounds_ne h
theorem Old.set {τ : H} {b : Nat} {k : Blk} (h : Old τ σ) (hb : τ.size ≤ b) : Old τ (σ.setIfInBounds b k) :=
 ⟨by simpa using h.1, fun c hc => by rw [get_set_ne (by omega)]; exact h.2 c hc⟩
theorem Row.set {τ : H} {s b : Nat} {k : Blk} {v : Value} {xs : List (List Value)} (h : Row τ s v xs) (ho : Cn.Old τ σ) (hb : τ.size ≤ b) : Row (σ.setIfInBounds b k) s v xs := h.Old (ho.set hb)
end
theorem wrap64 {n : Int} (h1 : -9223372036854775808 ≤ n) (h2 : n ≤ 9223372036854775807) : IntKind.wrap .i64 n = n := by
 unfold IntKind.wrap
 simp [IntKind.signed, IntKind.bits]
 omega
theorem un_not {b : Bool} : (some (Value.bool b)).bind (unop .not) = some (.bool !b) := _root_.id rfl
theorem un_neg {k : IntKind} {n : Int} : (some (Value.int k n)).bind (unop .neg) = some (.int k (k.wrap (0 - n))) := _root_.id rfl
theorem minV_nil {m : Bool} {v : Value} : minV m v [] = some v := by cases v <;> rfl
theorem minV_min {k : IntKind} {x y : Int} {r : List Value} : minV false (.int k x) (.int k y :: r) = minV false (.int k (if y < x then y else x)) r := by simp [minV]
theorem minV_max {k : IntKind} {x y : Int} {r : List Value} : minV true (.int k x) (.int k y :: r) = minV true (.int k (if x < y then y else x)) r := by simp [minV]
theorem partOf_none {l : List Value} {off : Nat} : partOf none l.toArray off = l[off]? := by simp [partOf]
theorem partOf_some {l : List Value} {n off : Nat} : partOf (some n) l.toArray off = some (.agg ((l.drop off).take n).toArray) := by simp [partOf, List.extract_eq_take_drop]
theorem arr_app {l l' : List Value} : l.toArray ++ l'.toArray = (l ++ l').toArray := by simp
def baseOf : Value → Option Nat
 |.slice (some a) _ _ => some a.block
 |_ => none
def Grown (σ0 σ : H) (s : Nat) (v : Value) (cs : List Value) (n : Nat) : Prop :=
 cs.length = n * s ∧ n < big ∧ ((n = 0 ∧ v = .slice none 0 0) ∨ ∃ b ver cap, σ0.size ≤ b ∧ (cap = inex s n ∨ cap = n) ∧ v = .slice (some ⟨b, 0, none⟩) n cap ∧ σ[b]? = some (.cells ver cs (0, 0)))
theorem Grown.nil {σ0 σ : H} {s : Nat} : Grown σ0 σ s (.slice none 0 0) [] 0 := ⟨by simp, by decide, .inl ⟨rfl, rfl⟩⟩
theorem Grown.lit {σ0 σ : H} {s n b ver : Nat} {cs : List Value} (h : cs.length = n * s) (hn : n < big) (hb : σ0.size ≤ b) (h4 : σ[b]? = some (.cells ver cs (0, 0))) : Grown σ0 σ s (.slice (some ⟨b, 0, none⟩) n n) cs n :=
 ⟨h, hn, .inr ⟨b, ver, n, hb, .inr rfl, rfl, h4⟩⟩
theorem Grown.keep {σ0 σ σ' : H} {s : Nat} {v : Value} {cs : List Value} {n : Nat} (h : Grown σ0 σ s v cs n) (hk : ∀ c k, baseOf v = some c → σ[c]? = some k → σ'[c]? = some k) : Grown σ0 σ' s v cs n := by
 obtain ⟨h1, h2, h3⟩ := h
 refine ⟨h1, h2, ?_⟩
 rcases h3 with h3 | ⟨b, ver, cap, h3, hc, rfl, h4⟩
 ·exact .inl h3
 ·exact .inr ⟨b, ver, cap, h3, hc, rfl, hk b _ rfl h4⟩
theorem Grown.old {σ0 σ σ' : H} {s : Nat} {v : Value} {cs : List Value} {n : Nat} (h : Grown σ0 σ s v cs n) (ho : Old σ σ') : Grown σ0 σ' s v cs n :=
 h.keep fun c _ _ hk => (ho.2 c (Array.getElem?_eq_some_iff.1 hk).1).trans hk
theorem Grown.base {σ0 σ : H} {s : Nat} {v : Value} {cs : List Value} {n : Nat} (h : Grown σ0 σ s v cs n) {c : Nat} (hc : baseOf v = some c) : σ0.size ≤ c ∧ c < σ.size := by
 obtain ⟨h1, h2, ⟨_, rfl⟩ | ⟨b, ver, cap, h3, _, rfl, h4⟩⟩ := h
 ·cases hc
 ·cases hc; exact ⟨h3, (Array.getElem?_eq_some_iff.1 h4).1⟩
theorem Grown.from {σ0 σ1 σ : H} {s : Nat} {v : Value} {cs : List Value} {n : Nat} (h : Grown σ1 σ s v cs n) (ho : σ0.size ≤ σ1.size) : Grown σ0 σ s v cs n := by
 obtain ⟨h1, h2, h3 | ⟨b, ver, cap, h3, hc, rfl, h4⟩⟩ := h
 ·exact ⟨h1, h2, .inl h3⟩
 ·exact ⟨h1, h2, .inr ⟨b, ver, cap, by omega, hc, rfl, h4⟩⟩
theorem Grown.one {σ0 σ : H} {s : Nat} {v : Value} {cs : List Value} {n : Nat} (h : Grown σ0 σ s v cs n) : v.oneCell' = true := by
 obtain ⟨h1, h2, ⟨_, rfl⟩ | ⟨b, ver, cap, h3, _, rfl, h4⟩⟩ := h <;> rfl
theorem Grown.slice {σ0 σ : H} {s : Nat} {v : Value} {cs : List Value} {n : Nat} (h : Grown σ0 σ s v cs n) : ∃ base cap, v = .slice base n cap := by
 obtain ⟨h1, h2, ⟨rfl, rfl⟩ | ⟨b, ver, cap, h3, _, rfl, h4⟩⟩ := h
 ·exact ⟨_, _, rfl⟩
 ·exact ⟨_, _, rfl⟩
theorem Grown.set {σ0 σ : H} {s b : Nat} {k : Blk} {v : Value} {cs : List Value} {n : Nat} (h : Grown σ0 σ s v cs n) (hb : b < σ0.size) : Grown σ0 (σ.setIfInBounds b k) s v cs n :=
 h.keep fun c q hc hq => by rw [get_set_ne]; exact hq; have := (h.base hc).1; omega
theorem rdN_all {σ : H} {b n ver : Nat} {cs : List Value} {fz : Nat × Nat} (h : σ[b]? = some (.cells ver cs fz)) (hn : cs.length = n) : rdN σ ⟨b, 0, none⟩ n = some cs := by
 rw [rdN_eq, h, rdcN_cells]
 split
 ·rename_i h0; subst h0; cases cs with
  |nil => rfl
  |cons _ _ => cases hn
 ·subst hn; simp
structure Ap (σ0 σ σ' : H) (s : Nat) (v v' : Value) (cs : List Value) (n : Nat) : Prop where
 grown : Grown σ0 σ' s v' cs n
 size : σ.size ≤ σ'.size
 frame : ∀ c k, σ[c]? = some k → baseOf v ≠ some c → σ'[c]? = some k
 base : baseOf v' = baseOf v ∨ baseOf v' = some σ.size
theorem Ap.Old {σ0 σ σ' : H} {s : Nat} {v v' : Value} {cs0 cs : List Value} {n0 n : Nat} (h : Ap σ0 σ σ' s v v' cs n) (hg : Grown σ0 σ s v cs0 n0) (ho : Old σ0 σ) : Cn.Old σ0 σ' :=
 ⟨Nat.le_trans ho.1 h.size, fun c hc => by
  have h2 := ho.2 c hc
  have hlt : c < σ.size := Nat.lt_of_lt_of_le hc ho.1
  have h3 : σ[c]? = some σ[c] := Array.getElem?_eq_getElem hlt
  rw [← h2, h3]
  refine h.frame c _ h3 fun hb => ?_
  have := (hg.base hb).1
  omega⟩
theorem Ap.low {σ0 σ σ' : H} {s : Nat} {v v' : Value} {cs0 cs : List Value} {n0 n : Nat} (h : Ap σ0 σ σ' s v v' cs n) (hg : Grown σ0 σ s v cs0 n0) {c : Nat} (hc : c < σ0.size) {k : Blk} (hk : σ[c]? = some k) : σ'[c]? = some k :=
 h.frame c k hk fun hb => by have := (hg.base hb).1; omega
theorem Ap.Old' {ρ σ0 σ σ' : H} {s : Nat} {v v' : Value} {cs0 cs : List Value} {n0 n : Nat} (h : Ap σ0 σ σ' s v v' cs n) (hg : Grown σ0 σ s v cs0 n0) (hr : ρ.size ≤ σ0.size) (ho : Cn.Old ρ σ) : Cn.Old ρ σ' :=
 ⟨Nat.le_trans ho.1 h.size, fun c hc => by
  have h2 := ho.2 c hc
  have hlt : c < σ.size := Nat.lt_of_lt_of_le hc ho.1
  have h3 : σ[c]? = some σ[c] := Array.getElem?_eq_getElem hlt
  rw [← h2, h3]
  exact h.low hg (by omega) h3⟩
def sized (n : Nat) : H := Array.replicate n .dead
theorem sized_size {n : Nat} : (sized n).size = n := by simp [sized]
theorem Grown.sized {σ0 σ : H} {s : Nat} {v : Value} {cs : List Value} {n m : Nat} (h : Grown σ0 σ s v cs n) (hm : m ≤ σ0.size) : Grown (Cn.sized m) σ s v cs n := h.from (by rw [sized_size]; exact hm)
theorem append_grown {σ0 σ : H} {s bytes n m : Nat} {v xa : Value} {cs new : List Value} (h : Grown σ0 σ s v cs n) (hs : 0 < s) (h0 : σ0.size ≤ σ.size)
  (hx : xcells σ s xa = some (m, new)) (hnew : new.length = m * s) (hone : new.all Value.oneCell' = true) (hb : (n + m) * bytes ≤ 140737488355328) (hb0 : 0 < bytes) :
  ∃ v' σ', append s bytes v xa σ = some (v', σ') ∧ Ap σ0 σ σ' s v v' (cs ++ new) (n + m) := by
 have hbig : n + m < big := by
  have : (n + m) * 1 ≤ (n + m) * bytes := Nat.mul_le_mul_left _ hb0
  have : (140737488355328 : Nat) < big := by decide
  omega
 obtain ⟨h1, h2, h3⟩ := h
 have hcl : ∀ cap, cap = inex s n ∨ cap = n → capLow cap = n := fun cap hc => hc.elim (fun h => by rw [h]; exact capLow_inex h2) (fun h => by rw [h]; exact capLow_small h2)
 rcases Nat.eq_zero_or_pos m with hm | hm
 ·subst hm
  have : new = [] := by simpa using hnew
  subst this
  rcases h3 with ⟨rfl, rfl⟩ | ⟨b, ver, cap, h3, hc, rfl, h4⟩
  ·refine ⟨.slice none 0 0, σ, ?_, ⟨?_, Nat.le_refl _, fun _ _ h _ => h, .inl rfl⟩⟩
   ·simp [append, hx]
   ·simp at h1; subst h1; exact ⟨by simp, h2, .inl ⟨rfl, rfl⟩⟩
  ·refine ⟨.slice (some ⟨b, 0, none⟩) n cap, σ, ?_, ⟨⟨by simpa using h1, h2, .inr ⟨b, ver, cap, h3, hc, rfl, by simpa using h4⟩⟩, Nat.le_refl _, fun _ _ h _ => h, .inl rfl⟩⟩
   simp [append, hx, hcl cap hc, wrN_eq]
 ·rcases h3 with ⟨rfl, rfl⟩ | ⟨b, ver, cap, h3, hc, rfl, h4⟩
  ·have : cs = [] := by simpa using h1
   subst this
   refine ⟨.slice (some ⟨σ.size, 0, none⟩) m (inex s m), σ.push (.cells 0 new (0, 0)), ?_, ⟨?_, by simp, fun c k hc _ => ?_, .inr rfl⟩⟩
   ·have : ¬ (0 + m ≤ capLow 0) := by simp [capLow]; omega
    simp only [append, hx, this, if_false, hb, hb0, and_self, if_true]
   ·refine ⟨by simpa using hnew, by omega, .inr ⟨σ.size, 0, inex s m, h0, by simp, by simp, by simp⟩⟩
   ·rw [Array.getElem?_push, if_neg]
    ·exact hc
    ·have := (Array.getElem?_eq_some_iff.1 hc).1; omega
  ·have g1 : ¬ (n + m ≤ capLow cap) := by rw [hcl cap hc]; omega
   rcases hc with rfl | rfl
   ·refine ⟨.slice (some ⟨σ.size, 0, none⟩) (n + m) (inex s (n + m)), (σ.setIfInBounds b .dead).push (.cells 0 (cs ++ new) (0, 0)), ?_, ⟨?_, by simp, fun c k hc hne => ?_, .inr rfl⟩⟩
    ·have g2 : ¬ csz (inex s n) = 0 := by rw [csz_inex h2]; omega
     have g3 : csz (inex s n) = s ∧ noFzAt σ b = true ∧ new.all Value.oneCell' = true := ⟨csz_inex h2, by simp [noFzAt, h4], hone⟩
     simp only [append, hx, g1, if_false, hb, hb0, and_self, if_true, rdN_all h4 h1, g2]
     rw [if_pos g3]
    ·refine ⟨by simp [h1, hnew, Nat.add_mul], by omega, .inr ⟨σ.size, 0, _, h0, .inl rfl, rfl, by rw [Array.getElem?_push, if_pos (by simp)]⟩⟩
    ·have hc' := (Array.getElem?_eq_some_iff.1 hc).1
     rw [Array.getElem?_push, if_neg (by simp; omega), get_set_ne]
     ·exact hc
     ·intro hbc; exact hne (by rw [hbc]; rfl)
   ·refine ⟨.slice (some ⟨σ.size, 0, none⟩) (cap + m) (inex s (cap + m)), σ.push (.cells 0 (cs ++ new) (0, 0)), ?_, ⟨?_, by simp, fun c k hc _ => ?_, .inr rfl⟩⟩
    ·have g2 : csz cap = 0 := csz_small h2
     simp only [append, hx, g1, if_false, hb, hb0, and_self, if_true, rdN_all h4 h1, g2]
    ·refine ⟨by simp [h1, hnew, Nat.add_mul], by omega, .inr ⟨σ.size, 0, _, h0, .inl rfl, rfl, by rw [Array.getElem?_push, if_pos (by simp)]⟩⟩
    ·have hc' := (Array.getElem?_eq_some_iff.1 hc).1
     rw [Array.getElem?_push, if_neg (by omega)]
     exact hc
theorem flatten_get : ∀ {rows : List (List Value)} {s i : Nat} {x : List Value}, (∀ r ∈ rows, r.length = s) → rows[i]? = some x → i * s + s ≤ rows.flatten.length ∧ (rows.flatten.drop (i * s)).take s = x
 |[], _, _, _, _, h => by simp at h
 |r :: rows, s, 0, x, hr, h => by
  simp at h
  subst h
  have := hr r (by simp)
  subst this
  simp
 |r :: rows, s, i + 1, x, hr, h => by
  have hr0 := hr r (by simp)
  obtain ⟨h1, h2⟩ := flatten_get (rows := rows) (s := s) (i := i) (x := x) (fun q hq => hr q (by simp [hq])) (by simpa using h)
  rw [List.flatten_cons]
  have e : (i + 1) * s = r.length + i * s := by rw [hr0, Nat.add_mul]; omega
  refine ⟨by rw [List.length_append, e]; omega, ?_⟩
  rw [e, ← List.drop_drop, List.drop_left]
  exact h2
theorem flatten_length {s : Nat} : ∀ {rows : List (List Value)}, (∀ r ∈ rows, r.length = s) → rows.flatten.length = rows.length * s
 |[], _ => by simp
 |r :: rows, h => by
  have := flatten_length (rows := rows) (s := s) fun q hq => h q (by simp [hq])
  have h0 := h r (by simp)
  simp only [List.flatten_cons, List.length_append, this, List.length_cons, h0, Nat.add_mul]
  omega
theorem Grown.Row {σ0 σ : H} {s : Nat} {v : Value} {rows : List (List Value)} (h : Grown σ0 σ s v rows.flatten rows.length) (hr : ∀ r ∈ rows, r.length = s) : Row σ s v rows := by
 obtain ⟨h1, h2, h3⟩ := h
 rcases h3 with ⟨h0, rfl⟩ | ⟨b, ver, cap, h3, _, rfl, h4⟩
 ·exact ⟨none, 0, by rw [h0], fun i x hx => by
   have : rows = [] := by simpa using h0
   subst this
   simp at hx⟩
 ·refine ⟨_, _, rfl, fun i x hx => ⟨b, 0, rfl, ?_⟩⟩
  obtain ⟨g1, g2⟩ := flatten_get hr hx
  rw [rdN_eq, h4, rdcN_cells, Nat.zero_add, if_pos g1, g2]
  split
  ·rename_i hs
   have := hr x (List.mem_of_getElem? hx)
   cases x with
   |nil => rfl
   |cons _ _ => simp [hs] at this
  ·rfl
def Whl (σ : H) (s : Nat) (v : Value) (n : Nat) (cs : List Value) : Prop :=
 cs.length = n * s ∧ ((n = 0 ∧ ∃ a c, v = .slice a 0 c ∧ (csz c = 0 ∨ csz c = s)) ∨ ∃ b o cap, v = .slice (some ⟨b, o, none⟩) n cap ∧ (n ≤ capLow cap ∧ (csz cap = 0 ∨ csz cap = s)) ∧ rdN σ ⟨b, o, none⟩ (n * s) = some cs)
theorem Whl.Old {σ σ' : H} {s n : Nat} {v : Value} {cs : List Value} (h : Whl σ s v n cs) (ho : Old σ σ') : Whl σ' s v n cs :=
 ⟨h.1, h.2.imp id fun ⟨b, o, cap, h1, h2, h3⟩ => ⟨b, o, cap, h1, h2, rdN_Old ho h3⟩⟩
theorem Grown.whl {σ0 σ : H} {s n : Nat} {v : Value} {cs : List Value} (h : Grown σ0 σ s v cs n) : Whl σ s v n cs := by
 obtain ⟨h1, h2, ⟨rfl, rfl⟩ | ⟨b, ver, cap, h3, hc, rfl, h4⟩⟩ := h
 ·exact ⟨h1, .inl ⟨rfl, _, _, rfl, .inl rfl⟩⟩
 ·exact ⟨h1, .inr ⟨b, 0, _, rfl, ⟨Nat.le_of_eq (hc.elim (fun h => by rw [h]; exact (capLow_inex h2).symm) (fun h => by rw [h]; exact (capLow_small h2).symm)), hc.elim (fun h => .inr (by rw [h]; exact csz_inex h2)) (fun h => .inl (by rw [h]; exact csz_small h2))⟩, rdN_all h4 h1⟩⟩
theorem Whl.slice {σ : H} {s n : Nat} {v : Value} {cs : List Value} (h : Whl σ s v n cs) : ∃ base cap, v = .slice base n cap := by
 obtain ⟨_, ⟨rfl, a, c, rfl, _⟩ | ⟨b, o, cap, rfl, _, _⟩⟩ := h
 ·exact ⟨_, _, rfl⟩
 ·exact ⟨_, _, rfl⟩
theorem Whl.at {σ : H} {s n cap : Nat} {base : Option Addr} {cs : List Value} (h : Whl σ s (.slice base n cap) n cs) (hn : 0 < n) : ∃ b o, base = some ⟨b, o, none⟩ ∧ rdN σ ⟨b, o, none⟩ (n * s) = some cs := by
 obtain ⟨_, ⟨rfl, c, h2⟩ | ⟨b, o, cap, h1, _, h2⟩⟩ := h
 ·omega
 ·injection h1 with h1; exact ⟨b, o, h1, h2⟩
theorem Whl.x {σ : H} {s n : Nat} {v : Value} {cs : List Value} (h : Whl σ s v n cs) : xcells σ s v = some (n, cs) := by
 obtain ⟨h0, ⟨rfl, a, c, rfl, _⟩ | ⟨b, o, cap, rfl, _, h2⟩⟩ := h
 ·have : cs = [] := by simpa using h0
  subst this
  cases a <;> simp [xcells, rdN]
 ·simp [xcells, h2]
theorem allS_drop_take : ∀ {l : List (Option Value)} {r : List Value} {a n : Nat}, allS l = some r → allS ((l.drop a).take n) = some ((r.drop a).take n)
 |[], r, a, n, h => by simp only [allS, Option.some.injEq] at h; subst h; simp [allS]
 |none :: l, r, a, n, h => by cases h
 |some u :: l, r, a, n, h => by
  simp only [allS, Option.map_eq_some_iff] at h
  obtain ⟨r', h1, rfl⟩ := h
  cases a with
  |zero =>
   cases n with
   |zero => simp [allS]
   |succ n =>
    have := allS_drop_take (a := 0) (n := n) h1
    simp only [List.drop_zero, List.take_succ_cons, allS] at this ⊢
    rw [this]; rfl
  |succ a => simpa using allS_drop_take (a := a) (n := n) h1
theorem rdN_sub {σ : H} {b o n : Nat} {l : List Value} (h : rdN σ ⟨b, o, none⟩ n = some l) {a m : Nat} (hm : a + m ≤ n) : rdN σ ⟨b, o + a, none⟩ m = some ((l.drop a).take m) := by
 rw [rdN_eq] at h ⊢
 split
 ·rename_i hm0; subst hm0; simp
 ·rename_i hm0
  rw [if_neg (by omega)] at h
  simp only at h ⊢
  generalize σ[b]? = k at h ⊢
  cases k with
  |none => cases h
  |some k =>
   cases k with
   |cells v cs fz =>
    simp only [rdcN] at h ⊢
    split at h
    ·rename_i hle
     injection h with h
     subst h
     rw [if_pos (by omega), List.drop_take, List.drop_drop, List.take_take]
     congr 3; omega
    ·cases h
   |part cs =>
    simp only [rdcN] at h ⊢
    split at h
    ·rename_i hle
     rw [if_pos (by omega)]
     have := allS_drop_take (a := a) (n := m) h
     rw [List.drop_take, List.drop_drop, List.take_take] at this
     rw [← this]
     congr 3; omega
    ·cases h
   |_ => cases h
theorem cap_sub {c l : Nat} (h : l ≤ capLow c) : capLow (c - l) = capLow c - l ∧ csz (c - l) = csz c := by
 unfold capLow csz at *
 have h0 : 0 < big := by decide
 have h1 := Nat.div_add_mod c big
 have h2 : c - l = (c % big - l) + big * (c / big) := by omega
 have h3 : c % big - l < big := by have := Nat.mod_lt c h0; omega
 rw [h2, Nat.add_mul_mod_self_left, Nat.add_mul_div_left _ _ h0, Nat.mod_eq_of_lt h3, Nat.div_eq_of_lt h3]
 simp
theorem bnds_eq {n cap lo h : Nat} {L H : Option Value} (h1 : bnd L 0 h = some lo) (h2 : bnd H n (capLow cap) = some h) : bnds n cap L H none = some (lo, h, cap) := by
  unfold bnds
  show (match bnd none cap (capLow cap) with
    | none => none
    | some m => match bnd H n (capLow m) with
      | none => none
      | some h => match bnd L 0 h with
        | none => none
        | some l => some (l, h, m)) = _
  rw [show bnd none cap (capLow cap) = some cap from rfl]
  simp only [h2, h1]
theorem sliceV_whl {σ : H} {s n lo hi : Nat} {v : Value} {cs : List Value} {L : Option Value} (h : Whl σ s v n cs) (hL : L = some (.int .i64 lo) ∨ (L = none ∧ lo = 0)) (h1 : lo ≤ hi) (h2 : hi ≤ n) :
  ∃ v', sliceV s v L (some (.int .i64 hi)) none = some v' ∧ Whl σ s v' (hi - lo) ((cs.drop (lo * s)).take ((hi - lo) * s)) := by
 have hbnd : ∀ h, lo ≤ h → bnd L 0 h = some lo := fun h hh => by
  rcases hL with rfl | ⟨rfl, rfl⟩
  ·simp only [bnd, asI]; rw [if_pos (by omega)]; simp
  ·rfl
 obtain ⟨h0, ⟨rfl, a, c, rfl, hz⟩ | ⟨b, o, cap, rfl, ⟨hc1, hc2⟩, hr⟩⟩ := h
 ·have : hi = 0 := by omega
  subst this
  have : lo = 0 := by omega
  subst this
  have : cs = [] := by simpa using h0
  subst this
  refine ⟨_, ?_, by simp, .inl ⟨rfl, a.map fun a => ⟨a.block, a.off + 0 * s, none⟩, c, rfl, hz⟩⟩
  unfold sliceV
  simp only
  rw [if_pos hz, bnds_eq (hbnd 0 (Nat.le_refl 0)) (h := 0) (by simp [bnd, asI])]
  simp
 ·have e1 : bnd (some (.int .i64 (hi : Int))) n (capLow cap) = some hi := by simp only [bnd, asI]; rw [if_pos (by omega)]; simp
  refine ⟨.slice (some ⟨b, o + lo * s, none⟩) (hi - lo) (cap - lo), ?_, ?_, .inr ⟨b, o + lo * s, cap - lo, rfl, ?_, ?_⟩⟩
  ·unfold sliceV
   simp only
   rw [if_pos hc2, bnds_eq (hbnd hi h1) e1]
   rfl
  ·rw [List.length_take, List.length_drop, h0]
   have : (hi - lo) * s + lo * s ≤ n * s := by rw [← Nat.add_mul]; exact Nat.mul_le_mul_right _ (by omega)
   omega
  ·obtain ⟨g1, g2⟩ := cap_sub (c := cap) (l := lo) (by omega)
   rw [g1, g2]
   exact ⟨by omega, hc2⟩
  ·refine rdN_sub hr ?_
   rw [← Nat.add_mul]; exact Nat.mul_le_mul_right _ (by omega)
def CapOk (s : Nat) (v : Value) : Prop := ∃ a n c, v = .slice a n c ∧ n ≤ capLow c ∧ (csz c = 0 ∨ csz c = s)
theorem Grown.cap {σ0 σ : H} {s n : Nat} {v : Value} {cs : List Value} (h : Grown σ0 σ s v cs n) : CapOk s v := by
 obtain ⟨h1, h2, ⟨rfl, rfl⟩ | ⟨b, ver, cap, h3, hc, rfl, h4⟩⟩ := h
 ·exact ⟨_, _, _, rfl, Nat.le_refl _, .inl rfl⟩
 ·exact ⟨_, _, _, rfl, Nat.le_of_eq (hc.elim (fun h => by rw [h]; exact (capLow_inex h2).symm) (fun h => by rw [h]; exact (capLow_small h2).symm)), hc.elim (fun h => .inr (by rw [h]; exact csz_inex h2)) (fun h => .inl (by rw [h]; exact csz_small h2))⟩
theorem CapOk.slice {s n c : Nat} {a : Option Addr} (h : CapOk s (.slice a n c)) : n ≤ capLow c ∧ (csz c = 0 ∨ csz c = s) := by
 obtain ⟨a', n', c', h1, h2⟩ := h
 injection h1 with h1 h3 h4
 subst h1 h3 h4
 exact h2
theorem Row.pre {σ : H} {s n c i : Nat} {a : Option Addr} {xs : List (List Value)} (h : Row σ s (.slice a n c) xs) (hc : CapOk s (.slice a n c)) (hi : i ≤ n) :
  ∃ v', sliceV s (.slice a n c) none (some (.int .i64 i)) none = some v' ∧ Row σ s v' (xs.take i) ∧ CapOk s v' := by
 obtain ⟨h1, h2⟩ := hc.slice
 have e1 : bnd (some (.int .i64 (i : Int))) n (capLow c) = some i := by simp only [bnd, asI]; rw [if_pos (by omega)]; simp
 have hn : n = xs.length := by obtain ⟨b, cap, h3, _⟩ := h; injection h3
 refine ⟨.slice (a.map fun a => ⟨a.block, a.off + 0 * s, none⟩) i c, ?_, ⟨a.map fun a => ⟨a.block, a.off + 0 * s, none⟩, c, ?_, ?_⟩, ⟨_, _, _, rfl, by omega, h2⟩⟩
 ·unfold sliceV
  simp only
  rw [if_pos h2, bnds_eq (lo := 0) rfl e1]
  rfl
 ·rw [List.length_take, Nat.min_eq_left (by omega)]
 ·intro j x hx
  have hx' : xs[j]? = some x := by
   rw [List.getElem?_take] at hx
   split at hx
   ·exact hx
   ·cases hx
  obtain ⟨b, off, h3, h4⟩ := h.at hx'
  refine ⟨b, off, ?_, h4⟩
  rw [h3]; simp
theorem glob_cells {W : World} {b t : Nat} {fz : Nat × Nat} {cs : Array Value} (h : W.heap[b]? = some (.cells cs t fz)) (hv : ∀ v ∈ cs.toList, VR (emb0 W) v v) : rdN (abs W) ⟨b, 0, none⟩ cs.size = some cs.toList := by
 have h1 : (abs W)[b]? = some (.part (cs.toList.map some)) := by
  unfold abs
  rw [Array.getElem?_map, h, Option.map_some, absB]
  congr 2
  refine List.map_congr_left fun v hm => ?_
  rw [if_pos (hv v hm)]
 rw [rdN_eq, h1]
 split
 ·rename_i h0
  have : cs.toList = [] := by simpa using h0
  rw [this]
 ·simp only [rdcN, List.length_map, Array.length_toList, Nat.zero_add, Nat.le_refl, if_true, List.drop_zero]
  rw [List.take_of_length_le (by simp)]
  exact allS_of (by simp) fun i v hi => by simp at hi ⊢; exact hi
theorem trod_nums {W : World} {P : Program} {t e : TypeId} {k : IntKind} {f n : Nat} {cs : List Value} {ls : List Int} {p : List MemPlace} (ht : P.underlying t = some (.array n e)) (he : P.underlying e = some (.int k)) (hc : P.cellsOf e = 1) (hct : P.cellsOf t = n)
  (h : DataW.trod (fun _ => ()) P W 0 (fun _ => true) false f t cs = some (.agg (ls.map fun x => .lit (.int k x)), p)) : cs = ls.map (.int k) := by
 cases f with
 |zero => cases h
 |succ f =>
  unfold DataW.trod at h
  simp only [ht] at h
  split at h
  ·rename_i hl
   rw [hct] at hl
   simp only [Option.map_eq_some_iff] at h
   obtain ⟨xs, h1, h2⟩ := h
   injection h2 with h2 _
   injection h2 with h2
   obtain ⟨g1, g2⟩ := mapM_get h1
   simp only [List.length_range] at g1
   have hls : ls.length = n := by
    have := congrArg List.length h2
    simp only [List.length_map] at this
    omega
   refine List.ext_getElem? fun i => ?_
   by_cases hi : i < n
   ·obtain ⟨y, hy1, hy2⟩ := g2 i i (by simp [hi])
    have hy3 : y.1 = .lit (.int k ls[i]) := by
     have := congrArg (·[i]?) h2
     simp only [List.getElem?_map, hy1, Option.map_some] at this
     rw [List.getElem?_eq_getElem (by omega)] at this
     simpa using this
    cases f with
    |zero => cases hy2
    |succ f =>
     rw [hc, Nat.mul_one] at hy2
     have hd : (cs.drop i).take 1 = [cs[i]] := by
      rw [List.drop_eq_getElem_cons (by omega)]; rfl
     rw [hd] at hy2
     unfold DataW.trod at hy2
     simp only [he] at hy2
     generalize hv : cs[i] = v at hy2
     cases v <;> simp only at hy2 <;> try cases hy2
     rename_i k' m
     split at hy2
     ·rename_i hk
      injection hy2 with hy2
      subst hy2
      injection hy3 with hy3
      injection hy3 with _ hy3
      rw [List.getElem?_eq_getElem (by omega), hv, List.getElem?_map, List.getElem?_eq_getElem (by omega), Option.map_some, hk.1, hy3]
     ·cases hy2
   ·rw [List.getElem?_eq_none (by omega), List.getElem?_eq_none (by simp; omega)]
  ·cases h
set_option maxRecDepth 10000
def eD0 := And.intro @sem_range (And.intro @zip_0 (And.intro @zip_1 (And.intro @zip_2 (And.intro @round_normal (And.intro @round_ret (And.intro @round_exit (And.intro @jump_none (And.intro @jump_ret (And.intro @jump_exit (And.intro @sem_seq (And.intro @sem_keep (And.intro @sem_ops (And.intro @sem_draw (And.intro @sem_skip (And.intro @sem_ret (And.intro @sem_exit (And.intro @sem_cond (And.intro @sem_block (And.intro @sem_label (And.intro @sem_loop (And.intro @sem_scope (And.intro @evL_cons (And.intro @evL_nil (And.intro @evP_cons (And.intro @evP_nil (And.intro @step_plain (And.intro @step_guard (And.intro @step_re (And.intro @rereads_nil (@rereads_cons))))))))))))))))))))))))))))))
def eD1 := And.intro @onV_some (And.intro @onG_true (And.intro @onG_false (And.intro @onI_true (And.intro @onI_false (And.intro @keepK_normal (And.intro @keepK_ret (And.intro @keepK_exit (And.intro @scopeK_normal (And.intro @scopeK_ret (And.intro @scopeK_exit (And.intro @thenK_normal (And.intro @thenK_ret (And.intro @thenK_exit (And.intro @blockK_normal (And.intro @blockK_ret (And.intro @blockK_exit (And.intro @retK_ret (@retK_normal))))))))))))))))))
def eC0 := And.intro @onV_some (And.intro @onG_true (And.intro @onG_false (And.intro @onI_true (And.intro @onI_false (And.intro @onC_bool (And.intro @den_move (And.intro @den_pick (And.intro @den_box (And.intro @den_alloc (And.intro @den_build (And.intro @den_buildSlice (And.intro @den_load (And.intro @den_store (And.intro @den_nilCheck (And.intro @den_bin (And.intro @den_eqBool (And.intro @den_eqAgg (And.intro @den_eqNil (@den_un)))))))))))))))))))
def eC1 := And.intro @den_convInt (And.intro @den_convStr (And.intro @den_strBytes (And.intro @den_mark (And.intro @den_bytesStr (And.intro @den_fieldAddr (And.intro @den_field (And.intro @den_indexAddr (And.intro @den_indexArr (And.intro @den_indexAgg (And.intro @den_indexStr (And.intro @den_slice (And.intro @den_sliceStr (And.intro @den_sliceArr (And.intro @den_s2ap (And.intro @den_extract (And.intro @den_makeFunc (And.intro @den_makeSlice (And.intro @den_makeMap (And.intro @den_len (@den_lenStr))))))))))))))))))))
def eC2 := And.intro @den_lenC (And.intro @den_lenMap (And.intro @den_minmax (And.intro @den_append (And.intro @den_copy (And.intro @den_lookup (And.intro @den_mapPut (And.intro @den_mapDel (And.intro @den_mkIter (And.intro @den_next (And.intro @den_entry (And.intro @den_call (And.intro @ev_tmp (And.intro @ev_const (And.intro @ev_func (And.intro @ev_global (And.intro @lk_cons (And.intro @lk_nil (And.intro @denK_alloc (And.intro @denK_pure (And.intro @denK_read (And.intro @denK_eff (And.intro @denK_any (And.intro @denK_call (@putE_some))))))))))))))))))))))))
def eC3 := And.intro @putE_none (And.intro @keepE_cons (And.intro @keepE_nil (And.intro @push_ap (And.intro @ap_size (And.intro @Nat.add_zero (And.intro @Nat.zero_add (And.intro @rd1_ap (And.intro @rd1_ap0 (And.intro @rdN_ap (And.intro @rdN_ap0 (And.intro @wrN_ap (And.intro @wrN_ap0 (And.intro @rdc1_cells (And.intro @rdcN_cells (And.intro @wrc_cells (And.intro @bin_add (And.intro @bin_sub (And.intro @bin_mul (@bin_quo)))))))))))))))))))
def eC4 := And.intro @bin_rem (And.intro @bin_and (And.intro @bin_or (And.intro @bin_xor (And.intro @bin_andNot (And.intro @bin_eql (And.intro @bin_neq (And.intro @bin_lss (And.intro @bin_leq (And.intro @bin_gtr (And.intro @bin_geq (And.intro @bin_shl (And.intro @bin_shr (And.intro @bin_sadd (And.intro @bin_seql (And.intro @bin_sneq (And.intro @bin_slss (And.intro @bin_sleq (And.intro @bin_sgtr (@bin_sgeq)))))))))))))))))))
def eC5 := And.intro @Bool.false_eq_true (And.intro @Bool.true_beq (And.intro @Bool.false_beq (And.intro @Bool.not_true (And.intro @Bool.not_false (And.intro @decide_true (And.intro @decide_false (And.intro @and_true (And.intro @true_and (And.intro @Bool.and_true (And.intro @Bool.and_self (And.intro @Nat.le_refl (And.intro @un_not (And.intro @un_neg (And.intro @minV_nil (And.intro @minV_min (And.intro @minV_max (And.intro @partOf_none (And.intro @partOf_some (@arr_app)))))))))))))))))))
def eC6 := @Nat.mul_one
open Go Go.RowKit Go.ChangeShapes Go.WideShapes
theorem shaped_globals {P : Program} (h : ((begin P (fun _ _ => 0) default).world.heap[P.globals.size - 1]?.bind Obj.row?).isSome = true ∨ P.globals.size = 0) (W : World) (hs : W.ShapedOpen P) : P.globals.size ≤ W.heap.size := by
 rcases h with h | h
 ·by_cases h0 : P.globals.size = 0
  ·omega
  ·obtain ⟨⟨z, t⟩, hz⟩ := Option.isSome_iff_exists.1 h
   obtain ⟨cs, hc, _⟩ := hs.1 (P.globals.size - 1) z t (by omega) hz
   have := (Array.getElem?_eq_some_iff.1 hc).1
   omega
 ·omega
theorem rd_int {P : Program} {σ : H} {f : Nat} {t : TypeId} {k : IntKind} {cs : List Value} (ht : P.underlying t = some (.int k)) (h : Rd P σ f t cs) : ∃ n, cs = [.int k n] ∧ k.min ≤ n ∧ n ≤ k.max := by
 cases f with
 |zero => exact h.elim
 |succ f => simp only [Rd, ht] at h; exact h
open Go
theorem wrap_u64 {n : Int} (h1 : 0 ≤ n) (h2 : n < 18446744073709551616) : IntKind.wrap .u64 n = n := by
 simp only [IntKind.wrap, IntKind.signed, IntKind.bits]; simp; omega
theorem wrap_u32 {n : Int} (h1 : 0 ≤ n) (h2 : n < 4294967296) : IntKind.wrap .u32 n = n := by
 simp only [IntKind.wrap, IntKind.signed, IntKind.bits]; simp; omega
theorem wrap_u8 {n : Int} (h1 : 0 ≤ n) (h2 : n < 256) : IntKind.wrap .u8 n = n := by
 simp only [IntKind.wrap, IntKind.signed, IntKind.bits]; simp; omega
theorem wrap_u8_mod {n : Int} : IntKind.wrap .u8 n = n % 256 := by
 simp only [IntKind.wrap, IntKind.signed, IntKind.bits]; simp
theorem wrap_u64_mod {n : Int} : IntKind.wrap .u64 n = n % 18446744073709551616 := by
 simp only [IntKind.wrap, IntKind.signed, IntKind.bits]; simp
theorem bv_and {w a b : Nat} (ha : a < 2 ^ w) (hb : b < 2 ^ w) : (BitVec.ofInt w (a : Int) &&& BitVec.ofInt w (b : Int)).toNat = a &&& b := by
 rw [BitVec.ofInt_natCast, BitVec.ofInt_natCast, BitVec.toNat_and, BitVec.toNat_ofNat, BitVec.toNat_ofNat, Nat.mod_eq_of_lt ha, Nat.mod_eq_of_lt hb]
theorem bv_or {w a b : Nat} (ha : a < 2 ^ w) (hb : b < 2 ^ w) : (BitVec.ofInt w (a : Int) ||| BitVec.ofInt w (b : Int)).toNat = a ||| b := by
 rw [BitVec.ofInt_natCast, BitVec.ofInt_natCast, BitVec.toNat_or, BitVec.toNat_ofNat, BitVec.toNat_ofNat, Nat.mod_eq_of_lt ha, Nat.mod_eq_of_lt hb]
theorem bv_xor {w a b : Nat} (ha : a < 2 ^ w) (hb : b < 2 ^ w) : (BitVec.ofInt w (a : Int) ^^^ BitVec.ofInt w (b : Int)).toNat = a ^^^ b := by
 rw [BitVec.ofInt_natCast, BitVec.ofInt_natCast, BitVec.toNat_xor, BitVec.toNat_ofNat, BitVec.toNat_ofNat, Nat.mod_eq_of_lt ha, Nat.mod_eq_of_lt hb]
theorem and_u64 {a b : Nat} (ha : a < 18446744073709551616) (hb : b < 18446744073709551616) : IntKind.wrap .u64 (BitVec.ofInt (IntKind.bits .u64) (a : Int) &&& BitVec.ofInt (IntKind.bits .u64) (b : Int)).toNat = ((a &&& b : Nat) : Int) := by
 rw [show IntKind.bits .u64 = 64 from rfl, bv_and ha hb]
 have := Nat.and_le_left (n := a) (m := b)
 exact wrap_u64 (by omega) (by omega)
theorem xor_u64 {a b : Nat} (ha : a < 18446744073709551616) (hb : b < 18446744073709551616) : IntKind.wrap .u64 (BitVec.ofInt (IntKind.bits .u64) (a : Int) ^^^ BitVec.ofInt (IntKind.bits .u64) (b : Int)).toNat = ((a ^^^ b : Nat) : Int) := by
 rw [show IntKind.bits .u64 = 64 from rfl, bv_xor ha hb]
 have : a ^^^ b < 2 ^ 64 := Nat.xor_lt_two_pow ha hb
 exact wrap_u64 (by omega) (by omega)
theorem shr_nat {a n w : Nat} (h : n ≤ w) : (a : Int).fdiv (2 ^ min n w) = ((a >>> n : Nat) : Int) := by
 rw [Nat.min_eq_left h, Int.fdiv_eq_ediv_of_nonneg _ (Int.pow_nonneg (by omega)), Nat.shiftRight_eq_div_pow]
 simp
theorem laid_rd {P : Program} {W : World} {nm : String} {d : DataW Unit} {rest : List (String × DataW Unit)} {ps : List MemPlace} {g : Nat} {t e : TypeId} {n : Nat} {k : IntKind} {ls : List Int}
  (h : DataW.LaidVars P W ((nm, d) :: rest) ps) (hg : P.globalNamed nm = some g) (hty : (P.globals[g]?).map (·.type) = some t) (ht : P.underlying t = some (.array n e)) (he : P.underlying e = some (.int k))
  (hc : P.cellsOf e = 1) (hct : P.cellsOf t = n) (hd : d = .agg (ls.map fun x => .lit (.int k x))) (hl : ls.length = n) :
  g < W.heap.size ∧ rdN (abs W) ⟨g, 0, none⟩ n = some (ls.map (.int k)) ∧ ∃ q, DataW.LaidVars P W rest q := by
 obtain ⟨g0, t0, cs0, f0, p0, q0, hg0, ht0, hv0, hd0, hr, _⟩ := h
 obtain rfl := Option.some.inj (hg.symm.trans hg0)
 obtain rfl := Option.some.inj (hty.symm.trans ht0)
 unfold World.var? at hv0
 rw [hg0] at hv0
 simp only [Option.bind_some] at hv0
 rw [hd] at hd0
 have hcs := trod_nums ht he hc hct hd0
 split at hv0
 ·rename_i cs t fz hh
  injection hv0 with hv0
  subst hv0
  have := glob_cells hh (fun v hv => by
   rw [hcs] at hv
   obtain ⟨x, _, rfl⟩ := List.mem_map.1 hv
   exact .int _ _)
  have hsz : cs.size = n := by rw [← Array.length_toList, hcs, List.length_map, hl]
  rw [hsz, hcs] at this
  exact ⟨(Array.getElem?_eq_some_iff.1 hh).1, this, q0, hr⟩
 ·cases hv0
theorem rdN_ones {σ : H} {b off n : Nat} {cs : List Value} (hn : 0 < n) (hl : cs.length = n) (h : ∀ (i : Nat) (x : Value), cs[i]? = some x → rdN σ ⟨b, off + i, none⟩ 1 = some [x]) : rdN σ ⟨b, off, none⟩ n = some cs := by
 have key : ∀ (i : Nat) (x : Value), cs[i]? = some x → rdcN σ[b]? (off + i) 1 = some [x] := by
  intro i x hx
  have := h i x hx
  rw [rdN_eq, if_neg (by omega)] at this
  exact this
 rw [rdN_eq, if_neg (by omega)]
 show rdcN σ[b]? off n = some cs
 generalize σ[b]? = k at key
 have hlast : ∃ x, cs[n - 1]? = some x := ⟨cs[n - 1]'(by omega), by simp⟩
 obtain ⟨xl, hxl⟩ := hlast
 have hk := key _ _ hxl
 unfold rdcN at key hk ⊢
 split at hk
 ·rename_i v c fz
  split at hk
  ·rename_i hle
   simp only at key ⊢
   rw [if_pos (by omega)]
   congr 1
   refine List.ext_getElem? fun i => ?_
   rw [List.getElem?_take]
   split
   ·rename_i hi
    rw [List.getElem?_drop]
    have hx : cs[i]? = some (cs[i]'(by omega)) := by simp [hl, hi]
    have := key i _ hx
    rw [if_pos (by omega)] at this
    injection this with this
    have e := congrArg (·[0]?) this
    simp only [List.getElem?_take, List.getElem?_drop] at e
    rw [hx]
    simpa using e
   ·rw [List.getElem?_eq_none (by omega)]
  ·cases hk
 ·rename_i c
  split at hk
  ·rename_i hle
   simp only at key ⊢
   rw [if_pos (by omega)]
   refine allS_of (by simp; omega) fun i v hv => ?_
   have hi := (List.getElem?_eq_some_iff.1 hv).1
   have := key i v hv
   rw [if_pos (by omega)] at this
   have e := (allS_get this).2 0 v rfl
   rw [List.getElem?_take, List.getElem?_drop] at e ⊢
   rw [if_pos (by omega)] at e ⊢
   simpa using e
  ·cases hk
 ·cases hk
theorem Row.whl {σ : H} {v : Value} {cs : List Value} (h : Row σ 1 v (cs.map fun x => [x])) (hc : CapOk 1 v) : Whl σ 1 v cs.length cs := by
 obtain ⟨base, cap, rfl⟩ := h.slice
 simp only [List.length_map] at h hc ⊢
 obtain ⟨h1, h2⟩ := hc.slice
 refine ⟨by omega, ?_⟩
 by_cases h0 : cs.length = 0
 ·exact .inl ⟨h0, base, cap, by rw [h0], h2⟩
 ·have hlt : 0 < cs.length := by omega
  obtain ⟨b, off, rfl, _⟩ := h.at (i := 0) (x := [cs[0]]) (by simp)
  refine .inr ⟨b, off, cap, rfl, ⟨h1, h2⟩, ?_⟩
  rw [Nat.mul_one]
  refine rdN_ones hlt rfl fun i x hx => ?_
  obtain ⟨b', off', e, hr⟩ := h.at (i := i) (x := [x]) (by rw [List.getElem?_map, hx]; rfl)
  injection e with e
  injection e with e1 e2
  subst e1 e2
  simpa using hr
universe u v
variable {α : Type u} {β : Type v}
theorem yA {f : α → β} {a : α} : Option.map f (some a) = some (f a) := rfl
theorem yB {f : α → β} : Option.map f none = none := rfl
theorem yC (l : List α) : [] ++ l = l := rfl
theorem yD (a : α) (l m : List α) : (a :: l) ++ m = a :: (l ++ m) := rfl
theorem yE {f : α → β} {a : α} {l : List α} : List.map f (a :: l) = f a :: List.map f l := rfl
theorem yF {f : α → β} : List.map f [] = [] := rfl
theorem yG : ([] : List α).length = 0 := rfl
theorem yH {a : α} {l : List α} : (a :: l).length = l.length + 1 := rfl
theorem yI {a : α} {l : List α} : (a :: l)[0]? = some a := rfl
theorem yJ {a : α} {l : List α} {i : Nat} : (a :: l)[i + 1]? = l[i]? := rfl
theorem yK {l : List α} : l.toArray.size = l.length := rfl
theorem yL {p : α → Bool} {a : α} {l : List α} : (a :: l).all p = (p a && l.all p) := rfl
theorem yM {p : α → Bool} : ([] : List α).all p = true := rfl
theorem yN {a b : α} {l : List α} : (a :: l).set 0 b = b :: l := rfl
theorem yO {a b : α} {l : List α} {i : Nat} : (a :: l).set (i + 1) b = a :: l.set i b := rfl
theorem yP {a : α} {l : List α} {i : Nat} : (a :: l).drop (i + 1) = l.drop i := rfl
theorem yQ {l : List α} : l.drop 0 = l := rfl
theorem yR {a : α} {l : List α} {i : Nat} : (a :: l).take (i + 1) = a :: l.take i := rfl
theorem yS {l : List α} : l.take 0 = [] := rfl
theorem yT {l : List α} : l.toArray.toList = l := rfl
theorem yU {a : Array α} : a ++ #[] = a := Array.append_empty
theorem yV {a : Array α} : #[] ++ a = a := Array.empty_append
theorem yW {l : List α} {i : Nat} : l.toArray[i]? = l[i]? := List.getElem?_toArray
end Go.Cn
namespace Go.Cn
open Go Go.RowKit
set_option maxRecDepth 10000
def eY := And.intro @yA.{0,0} (And.intro @yB.{0,0} (And.intro @yC.{0} (And.intro @yD.{0} (And.intro @yE.{0,0} (And.intro @yF.{0,0} (And.intro @yG.{0} (And.intro @yH.{0} (And.intro @yI.{0} (And.intro @yJ.{0} (And.intro @yK.{0} (And.intro @yL.{0} (And.intro @yM.{0} (And.intro @yN.{0} (And.intro @yO.{0} (And.intro @yP.{0} (And.intro @yQ.{0} (And.intro @yR.{0} (And.intro @yS.{0} (And.intro @yT.{0} (And.intro @yU.{0} (And.intro @yV.{0} (And.intro @yW.{0} (And.intro @wantedE.eq_1 (And.intro @wantedE.eq_2 (And.intro @reread.eq_1 (And.intro @Value.cells.eq_1 (And.intro @Value.cells.eq_2 (And.intro @outE.eq_1 (And.intro @lks.eq_1 (And.intro @lks.eq_2 (And.intro @lkR.eq_1 (And.intro @lkR.eq_2 (And.intro @rdV.eq_1 (And.intro @rdV.eq_2 (And.intro @neg1.eq_1 (And.intro @evs.eq_1 (And.intro @evs.eq_2 (And.intro @opt.eq_1 (And.intro @opt.eq_2 (And.intro @Value.oneCell'.eq_1 (And.intro @Value.oneCell'.eq_2 (And.intro @Value.oneCell'.eq_3 (And.intro @sets.eq_1 (And.intro @sets.eq_2 (And.intro @argsE.eq_1 (And.intro @argsE.eq_2 (And.intro @and_self (And.intro @fillL.eq_1 (And.intro @fillL.eq_2 @fillL.eq_3)))))))))))))))))))))))))))))))))))))))))))))))))
def eD := And.intro @eD0 @eD1
def eZ := And.intro @eC0 (And.intro @eC1 (And.intro @eC2 (And.intro @eC3 (And.intro @eC4 (And.intro @eC5 (And.intro @eC6 @eY))))))
theorem appK_at {P : Program} {fn : Fn} {cap args : Array Value} {σ : H} {x : Value} {K : Value → H → Prop} (h : App P fn cap args σ fun v σ' => σ' = σ ∧ v = x) (hk : K x σ) : @appK P fn cap args σ ⟨K⟩ := h.mono fun v σ' q => by
 obtain ⟨rfl, rfl⟩ := q
 exact hk
open Go Go.RowKit Go.ChangeShapes Go.WideShapes
def RdS (P : Program) (σ : H) : Nat → TypeId → List Value → Prop
 |0, _, _ => False
 |f + 1, t, cs =>
  match P.underlying t with
  |some .bool => ∃ b, cs = [.bool b]
  |some (.int k) => ∃ n, cs = [.int k n] ∧ k.min ≤ n ∧ n ≤ k.max
  |some .string => ∃ s, cs = [.string s] ∧ s.size ≤ reachBytes
  |some (.slice e) => cs = [.slice none 0 0] ∨ (∃ b off len cap, cs = [.slice (some ⟨b, off, none⟩) len cap] ∧ 0 < cap ∧ len ≤ cap ∧ cap ≤ maxLen ∧ cap * P.bytesOf e ≤ reachBytes ∧ b < σ.size ∧
    (∀ i, i < cap → ∃ es, rdN σ ⟨b, off + i * P.cellsOf e, none⟩ (P.cellsOf e) = some es ∧ RdS P σ f e es)) ∨ ∃ a, cs = [.slice (some a) 0 0]
  |some (.struct fs) => cs.length = P.cellsOf t ∧ ∀ fd, fd ∈ fs.toList → RdS P σ f fd.type ((cs.drop fd.offset).take (P.cellsOf fd.type))
  |some (.array n e) => cs.length = P.cellsOf t ∧ ∀ i, i < n → RdS P σ f e ((cs.drop (i * P.cellsOf e)).take (P.cellsOf e))
  |_ => False
section
variable {P : Program} {W : World} {H0 : Type} {enc : TypeId × Value → H0}
theorem weightsAll_mem {e : TypeId} : ∀ {l : List (DataW H0)} {d : DataW H0} {w : Nat}, d ∈ l → w ∈ d.weights P e → w ∈ DataW.weightsAll P e l
 |x :: l, d, w, h, hw => by
  simp only [DataW.weightsAll]
  rcases List.mem_cons.1 h with rfl | h
  ·exact List.mem_append_left _ hw
  ·exact List.mem_append_right _ (weightsAll_mem h hw)
theorem weightsEach_get : ∀ {ts : List TypeId} {ds : List (DataW H0)} {i : Nat} {t : TypeId} {d : DataW H0} {w : Nat}, ts[i]? = some t → ds[i]? = some d → w ∈ d.weights P t → w ∈ DataW.weightsEach P ts ds
 |t0 :: ts, d0 :: ds, 0, t, d, w, h1, h2, hw => by
  simp at h1 h2
  subst h1 h2
  simp only [DataW.weightsEach]
  exact List.mem_append_left _ hw
 |t0 :: ts, d0 :: ds, i + 1, t, d, w, h1, h2, hw => by
  simp at h1 h2
  simp only [DataW.weightsEach]
  exact List.mem_append_right _ (weightsEach_get h1 h2 hw)
 |[], _, i, t, d, w, h1, _, _ => by simp at h1
 |_ :: _, [], i, t, d, w, _, h2, _ => by simp at h2
theorem trod_rds : ∀ (g f : Nat) (t : TypeId) (cs : List Value) (d : DataW H0) (ps : List MemPlace) (held : Bool), layR P g t = true → DataW.trod enc P W 0 (fun _ => true) held f t cs = some (d, ps) → (∀ w ∈ d.weights P t, w ≤ reachBytes) →
  (∀ v ∈ cs, VR (emb0 W) v v) ∧ RdS P (abs W) f t cs := by
 intro g
 induction g with
 |zero => intro f t cs d ps held h; cases h
 |succ g ih =>
  intro f t cs d ps held hl h hwt
  cases f with
  |zero => cases h
  |succ f =>
   unfold layR at hl
   unfold DataW.trod at h
   unfold RdS
   cases hu : P.underlying t with
   |none => simp [hu] at hl
   |some k =>
    cases k <;> simp only [hu, Bool.false_eq_true] at hl
    case bool =>
     simp only [hu] at h ⊢
     match cs, h with
     |[.bool b], _ => exact ⟨fun v hv => by simp at hv; subst hv; exact .bool _, b, rfl⟩
    case int k =>
     simp only [hu] at h ⊢
     match cs, h with
     |[.int k' n], h =>
      simp only at h
      split at h
      ·rename_i hk
       obtain ⟨rfl, hw⟩ := hk
       simp only [Lit.wf, Bool.and_eq_true, decide_eq_true_eq] at hw
       exact ⟨fun v hv => by simp at hv; subst hv; exact .int _ _, n, rfl, hw.1, hw.2⟩
      ·cases h
    case string =>
     simp only [hu] at h ⊢
     match cs, h with
     |[.string s], h =>
      simp only at h
      split at h
      ·rename_i hk
       obtain ⟨rfl, rfl⟩ := Prod.mk.inj (Option.some.inj h)
       refine ⟨fun v hv => by simp at hv; subst hv; exact .string _, s, rfl, ?_⟩
       have := hwt s.data.toList.length (by simp [DataW.weights])
       simpa using this
      ·cases h
    case slice e =>
     simp only [Bool.and_eq_true, decide_eq_true_eq] at hl
     simp only [hu] at h ⊢
     match cs, h with
     |[.slice none 0 0], _ => exact ⟨fun v hv => by simp at hv; subst hv; exact .nilSlice, .inl rfl⟩
     |[.slice (some a) len cap], h =>
      simp only at h
      split at h
      ·rename_i hb
       obtain ⟨_, hlc, hcm⟩ := hb
       simp only [Option.bind_eq_some_iff, Option.map_eq_some_iff, ↓reduceIte] at h
       obtain ⟨elems, he, rest, hr, hdd⟩ := h
       obtain ⟨rfl, -⟩ := Prod.mk.inj hdd
       have hwe : ∀ d ∈ elems.map (·.1) ++ rest.map (·.1), ∀ w ∈ d.weights P e, w ≤ reachBytes := fun d hd w hw => hwt w (by
        simp only [DataW.weights, hu]
        refine List.mem_cons_of_mem _ ?_
        rcases List.mem_append.1 hd with hd | hd
        ·exact List.mem_append_left _ (weightsAll_mem hd hw)
        ·exact List.mem_append_right _ (weightsAll_mem hd hw))
       obtain ⟨e1, e2⟩ := mapM_get he
       obtain ⟨r1, r2⟩ := mapM_get hr
       have hwc : cap * P.bytesOf e ≤ reachBytes := by
        have := hwt (((elems.map (·.1)).length + (rest.map (·.1)).length) * P.bytesOf e) (by simp only [DataW.weights, hu]; exact List.mem_cons_self)
        rw [List.length_map, List.length_map] at this
        have h1 : elems.length + rest.length = cap := by simp at e1 r1; omega
        rwa [h1] at this
       have el : ∀ i, i < cap → ∃ es x, W.cells? 0 (a.add (i * P.cellsOf e)) (P.cellsOf e) = some es ∧ DataW.trod enc P W 0 (fun _ => true) held f e es = some x ∧ ∀ w ∈ x.1.weights P e, w ≤ reachBytes := by
        intro i hi
        by_cases hil : i < len
        ·obtain ⟨y, hyy, hy⟩ := e2 i i (by simp [hil])
         simp only [Option.bind_eq_some_iff] at hy
         obtain ⟨es, h1, h2⟩ := hy
         exact ⟨es, y, h1, h2, hwe y.1 (List.mem_append_left _ (List.mem_map_of_mem (List.mem_of_getElem? hyy)))⟩
        ·obtain ⟨y, hyy, hy⟩ := r2 (i - len) (i - len) (by rw [List.getElem?_range (by omega)])
         rw [show len + (i - len) = i by omega] at hy
         simp only [Option.bind_eq_some_iff] at hy
         obtain ⟨es, h1, h2⟩ := hy
         exact ⟨es, y, h1, h2, hwe y.1 (List.mem_append_right _ (List.mem_map_of_mem (List.mem_of_getElem? hyy)))⟩
       by_cases hc0 : cap = 0
       ·subst hc0
        have : len = 0 := by omega
        subst this
        refine ⟨fun v hv => ?_, .inr (.inr ⟨a, rfl⟩)⟩
        simp at hv
        subst hv
        exact .slice _ _ _ _ _ ⟨Nat.zero_le _, fun hn => absurd rfl hn, fun _ => rfl, Nat.le_refl _, fun hn => absurd rfl hn⟩
       ·have key : ∀ i, i < cap → ∃ es, a.spot = none ∧ a.block < W.heap.size ∧ rdN (abs W) ⟨a.block, a.off + i * P.cellsOf e, none⟩ (P.cellsOf e) = some es ∧ RdS P (abs W) f e es := by
         intro i hi
         obtain ⟨es, ⟨d', ps'⟩, h1, h2, h3⟩ := el i hi
         obtain ⟨q1, q2⟩ := ih f e es d' ps' held hl.2 h2 h3
         obtain ⟨es0, ⟨d0, ps0⟩, h10, h20, h30⟩ := el 0 (by omega)
         have hs : a.spot = none := by
          have := (abs_cells hl.1 h10 (ih f e es0 d0 ps0 held hl.2 h20 h30).1).2.1
          simpa [Addr.add] using this
         rw [add_none _ _ hs] at h1
         obtain ⟨_, _, g3, g4⟩ := abs_cells hl.1 h1 q1
         exact ⟨es, hs, g3, g4, q2⟩
        obtain ⟨_, hs, hlt, _⟩ := key 0 (by omega)
        obtain ⟨b, off, spot⟩ := a
        simp only at hs hlt key
        subst hs
        have hcap : cap < big := by unfold maxLen at hcm; unfold big; omega
        refine ⟨fun v hv => ?_, .inr (.inl ⟨b, off, len, cap, rfl, by omega, hlc, hcm, hwc, by rw [abs_size]; exact hlt, fun i hi => let ⟨es, _, _, g3, g4⟩ := key i hi; ⟨es, g3, g4⟩⟩)⟩
        simp at hv
        subst hv
        exact .slice _ _ _ _ _ ⟨by rw [capLow_small hcap]; exact hlc, fun hn => absurd (csz_small hcap) hn, fun _ => rfl, by rw [capLow_small hcap]; exact Nat.le_refl _,
         fun _ => ⟨rfl, _, emb0_lt hlt, by simp, fun hn => absurd (csz_small hcap) hn⟩⟩
      ·cases h
    case struct fs =>
     simp only [Bool.and_eq_true, List.all_eq_true, List.any_eq_true, List.mem_range, decide_eq_true_eq] at hl
     simp only [hu] at h ⊢
     split at h
     ·rename_i hcs
      simp only [Option.map_eq_some_iff] at h
      obtain ⟨xs, hx, hdd⟩ := h
      obtain ⟨rfl, -⟩ := Prod.mk.inj hdd
      obtain ⟨_, g2⟩ := mapM_get hx
      have fld : ∀ fd, fd ∈ fs.toList → (∀ v ∈ (cs.drop fd.offset).take (P.cellsOf fd.type), VR (emb0 W) v v) ∧ RdS P (abs W) f fd.type ((cs.drop fd.offset).take (P.cellsOf fd.type)) := by
       intro fd hfd
       obtain ⟨i, hi⟩ := List.getElem?_of_mem hfd
       obtain ⟨⟨d', ps'⟩, hyy, hy⟩ := g2 i fd hi
       refine ih f fd.type _ d' ps' held (hl.2 fd hfd) hy fun w hw => hwt w ?_
       simp only [DataW.weights, hu]
       exact weightsEach_get (i := i) (t := fd.type) (d := d') (by simp [hi]) (by simp [hyy]) hw
      refine ⟨fun v hv => ?_, hcs, fun fd hfd => (fld fd hfd).2⟩
      obtain ⟨i, hi⟩ := List.getElem?_of_mem hv
      have hlt := (List.getElem?_eq_some_iff.1 hi).1
      obtain ⟨fd, h1, h2, h3⟩ := hl.1 i (by omega)
      exact (fld fd h1).1 v (mem_take_drop hi h2 h3)
     ·cases h
    case array n e =>
     simp only [Bool.and_eq_true, decide_eq_true_eq] at hl
     simp only [hu] at h ⊢
     split at h
     ·rename_i hcs
      simp only [Option.map_eq_some_iff] at h
      obtain ⟨xs, hx, hdd⟩ := h
      obtain ⟨rfl, -⟩ := Prod.mk.inj hdd
      obtain ⟨_, g2⟩ := mapM_get hx
      have fld : ∀ i, i < n → (∀ v ∈ (cs.drop (i * P.cellsOf e)).take (P.cellsOf e), VR (emb0 W) v v) ∧ RdS P (abs W) f e ((cs.drop (i * P.cellsOf e)).take (P.cellsOf e)) := by
       intro i hi
       obtain ⟨⟨d', ps'⟩, hyy, hy⟩ := g2 i i (by simp [hi])
       refine ih f e _ d' ps' held hl.2 hy fun w hw => hwt w ?_
       simp only [DataW.weights, hu]
       exact weightsAll_mem (d := d') (List.mem_map.2 ⟨_, List.mem_of_getElem? hyy, rfl⟩) hw
      refine ⟨fun v hv => ?_, hcs, fun i hi => (fld i hi).2⟩
      obtain ⟨i, hi⟩ := List.getElem?_of_mem hv
      have hlt := (List.getElem?_eq_some_iff.1 hi).1
      have hlt' : i < n * P.cellsOf e := by omega
      have hpos : 0 < P.cellsOf e := by
       rcases Nat.eq_zero_or_pos (P.cellsOf e) with h0 | h0
       ·rw [h0] at hlt'; omega
       ·exact h0
      have hdiv : i / P.cellsOf e < n := Nat.div_lt_of_lt_mul (by rw [Nat.mul_comm]; exact hlt')
      have hmod := Nat.mod_lt i hpos
      have heq := Nat.div_add_mod i (P.cellsOf e)
      rw [Nat.mul_comm] at heq
      exact (fld _ hdiv).1 v (mem_take_drop hi (by omega) (by omega))
     ·cases h
def DatS (P : Program) (σ : H) (t : TypeId) (v : Value) : Prop :=
 match P.underlying t with
 |some (.struct _) | some (.array _ _) => ∃ cs f, v = .agg cs ∧ RdS P σ f t cs.toList
 |_ => ∃ f, RdS P σ f t [v]
theorem dats_of {W : World} {base g : Nat} {t : TypeId} {v : Value} {d : DataW H0} {ps : List MemPlace} (hl : layR P g t = true) (hv : Value.okWide P W .any base t v) (h : DataW.Trod enc P W 0 (fun _ => true) true t v d ps) (hwt : ∀ w ∈ d.weights P t, w ≤ reachBytes) :
  VR (emb0 W) v v ∧ DatS P (abs W) t v := by
 obtain ⟨f, h⟩ := h
 obtain ⟨h1, h2⟩ := trod_rds g f t _ d ps true hl h hwt
 have hvr : VR (emb0 W) v v := by
  cases v with
  |agg cs => exact .agg _ _ rfl fun i hi _ => h1 _ (by simp [Value.cells])
  |_ => exact h1 _ (by simp [Value.cells])
 refine ⟨hvr, ?_⟩
 unfold Value.okWide at hv
 unfold DatS
 have leaf : (∀ cs, v ≠ .agg cs) → ∃ f, RdS P (abs W) f t [v] := fun hn => by
  refine ⟨f, ?_⟩
  cases v with
  |agg cs => exact absurd rfl (hn cs)
  |_ => simpa [Value.cells] using h2
 cases hu : P.underlying t with
 |none =>
  cases g with
  |zero => cases hl
  |succ g => unfold layR at hl; simp [hu] at hl
 |some k =>
  cases k
  case struct fs =>
   simp only [hu] at hv ⊢
   obtain ⟨cs, rfl, _⟩ := hv
   exact ⟨cs, f, rfl, by simpa [Value.cells] using h2⟩
  case array n e =>
   simp only [hu] at hv ⊢
   obtain ⟨cs, rfl, _⟩ := hv
   exact ⟨cs, f, rfl, by simpa [Value.cells] using h2⟩
  all_goals
   refine leaf fun cs hc => ?_
   subst hc
   simp only [hu] at hv
   cases g with
   |zero => cases hl
   |succ g =>
    unfold layR at hl
    unfold Cell.okWide Cell.ok at hv
    simp [hu] at hl hv
end
theorem trodAll_get' {P : Program} {H0 : Type} {enc : TypeId × Value → H0} : ∀ {W : World} {ts : List TypeId} {vs : List Value} {ds : List (DataW H0)} {ps : List MemPlace}, DataW.TrodAll enc P W 0 (fun _ => true) true ts vs ds ps →
  ∀ (j : Nat) (t : TypeId) (v : Value), ts[j]? = some t → vs[j]? = some v → ∃ d p, ds[j]? = some d ∧ DataW.Trod enc P W 0 (fun _ => true) true t v d p
 |_, [], _, _, _, h => fun j t v ht _ => by simp at ht
 |_, t :: ts, vs, ds, ps, h => fun j u v hu hv => by
  obtain ⟨v0, vs', d, ds', p, q, rfl, rfl, rfl, h1, h2⟩ := trodAll_cons h
  cases j with
  |zero => simp at hu hv; subst hu hv; exact ⟨d, p, rfl, h1⟩
  |succ j => obtain ⟨d', p', g1, g2⟩ := trodAll_get' h2 j u v (by simpa using hu) (by simpa using hv); exact ⟨d', p', by simpa using g1, g2⟩
theorem law_laid_sized {H0 : Type} {enc : TypeId × Value → H0} {C : Checked} {os : Os} {f : Nat} {fn : Func} {s : ChangeSpec} {tb : TypeId} {X : World → Prop} {g : Nat} (hX : ∀ (w w' : World), w.heap = w'.heap → X w → X w')
  (own : ownKnob C.prog.godebug = none) (started : os.Started) (noInit : C.prog.inits.idxOf? f = none) (hfn : C.prog.funcs[f]? = some fn) (hbody : fn.body.isSome = true) (hname : (fn.name == "runtime.NumGoroutine") = false)
  (hl : laidOutB C.prog = true) (hr : fn.params.toList.all (fun t => C.prog.readableRec t && decide (t < C.prog.types.size)) = true) (hlay : fn.params.toList.all (layR C.prog g) = true)
  (hsv : s.vars = []) (hsp : ∀ ds : List (DataW H0), ds.length = fn.params.size → (s.fn H0 ds).results = [.lit (.bool true)] ∧ (s.fn H0 ds).args = ds ∧ (s.fn H0 ds).vars = [])
  (hrt : fn.resultTypes = #[tb]) (hub : C.prog.underlying tb = some .bool)
  (witness : ∃ (w : World) (tape : Tape) (i : Input), w.os = os ∧ (w.forCall tape i).Shaped C.prog ∧ i.vars = [] ∧ Input.okWide C.prog (w.forCall tape i) .any w.heap.size f i ∧
   ((s.pre enc C.prog fn [] false (w.forCall tape i).memory i.args ∧ X (w.forCall tape i).memory) ∧ sizedMet enc C.prog fn (OpenSpec.ofChange s) false (w.forCall tape i).memory i.args) ∧ Assume.holds {} C.prog (lone (Frame.enter C.prog f i.args .normal) [] (w.forCall tape i)))
  (hgl : ∀ W : World, W.ShapedOpen C.prog → C.prog.globals.size ≤ W.heap.size)
  (hc : ∀ (W : World) (args : Array Value), X W → args.size = fn.params.size → (∀ (j : Nat) (t : TypeId) (v : Value), fn.params[j]? = some t → args[j]? = some v → DatS C.prog (abs W) t v) →
   App C.prog (.func f) #[] args (abs W) fun v σ' => Old (abs W) σ' ∧ v = .bool true) :
  ReturnsInHanded {} C os f .any (fun w args => (s.pre enc C.prog fn [] false w args ∧ X w) ∧ sizedMet enc C.prog fn (OpenSpec.ofChange s) false w args) (s.post enc C.prog fn false true false false) := by
 refine returnsInHanded_of_calls own started noInit witness ?_
 intro w tape i _ hsh _ hok hpre _
 obtain ⟨_, _, _, fn', hfn', _, _, _, _, hval⟩ := hok
 obtain rfl : fn' = fn := Option.some.inj (hfn'.symm.trans hfn)
 obtain ⟨⟨_, hx⟩, _, ds, gs, before, hw, hwts⟩ := hpre
 have hW0 := DataW.Whole.of_heap (w' := w.forCall tape i) (by rfl) hw
 have hx : X (w.forCall tape i) := hX _ _ (by rfl) hx
 have hW := hW0
 obtain ⟨p, q, hA, hV, rfl, _, _⟩ := hW
 have hlen := trodAll_length hA
 have hsz : i.args.size = fn'.params.size := by simpa using hlen.2
 have hdat : ∀ (j : Nat) (t : TypeId) (v : Value), fn'.params[j]? = some t → i.args[j]? = some v → VR (emb0 (w.forCall tape i)) v v ∧ DatS C.prog (abs (w.forCall tape i)) t v := by
  intro j t v ht hv
  obtain ⟨d, ps, hd0, hd⟩ := trodAll_get' hA j t v (by simpa using ht) (by simpa using hv)
  refine dats_of (g := g) ?_ (hval j t v ht hv) hd fun w hw => of_decide_eq_true (List.all_eq_true.1 hwts w (weightsEach_get (i := j) (t := t) (d := d) ?_ ?_ hw))
  ·exact List.all_eq_true.1 hlay t (by simpa using Array.mem_of_getElem? ht)
  ·rw [List.getElem?_append_left (by have := (Array.getElem?_eq_some_iff.1 ht).1; simpa using this)]; simpa using ht
  ·rw [List.getElem?_append_left (List.getElem?_eq_some_iff.1 hd0).1]; exact hd0
 refine (calls_of_app (hgl _ hsh) hfn hbody hname (fun v hv => ?_) (hc _ i.args hx hsz fun j t v ht hv => (hdat j t v ht hv).2)).mono fun e W' ⟨he, hb⟩ => ?_
 ·obtain ⟨j, hj⟩ := Array.getElem?_of_mem hv
  have hlt := (Array.getElem?_eq_some_iff.1 hj).1
  exact (hdat j fn'.params[j] v (by simp [hsz ▸ hlt]) hj).1
 ·subst he
  exact ChangeSpec.post_blind (law_post hl hr hsv hsp hrt hub hW0 hb)
theorem rds_slice {P : Program} {σ : H} {α : Type} {f e s : Nat} {cs : List Value} {V : α → List Value} {ok : α → Prop} (hs : P.cellsOf e = s) (hV : ∀ l, RdS P σ f e l → ∃ x, ok x ∧ l = V x)
  (h : cs = [.slice none 0 0] ∨ (∃ b off len cap, cs = [.slice (some ⟨b, off, none⟩) len cap] ∧ 0 < cap ∧ len ≤ cap ∧ cap ≤ maxLen ∧ cap * P.bytesOf e ≤ reachBytes ∧ b < σ.size ∧
    (∀ i, i < cap → ∃ es, rdN σ ⟨b, off + i * P.cellsOf e, none⟩ (P.cellsOf e) = some es ∧ RdS P σ f e es)) ∨ ∃ a, cs = [.slice (some a) 0 0]) :
  ∃ (a : Option Addr) (c : Nat) (xs : List α), cs = [.slice a xs.length c] ∧ (∀ x ∈ xs, ok x) ∧ Row σ s (.slice a xs.length c) (xs.map V) ∧ CapOk s (.slice a xs.length c) ∧ xs.length * P.bytesOf e ≤ reachBytes := by
 subst hs
 rcases h with rfl | ⟨b, off, len, cap, rfl, h1, h2, h3, hw, h4, h5⟩ | ⟨a, rfl⟩
 ·exact ⟨none, 0, [], rfl, fun x hx => by simp at hx, ⟨none, 0, rfl, fun i x hx => by simp at hx⟩, ⟨none, 0, 0, rfl, by decide, .inl rfl⟩, by simp⟩
 ·have key : ∀ n, n ≤ cap → ∃ xs : List α, xs.length = n ∧ (∀ x ∈ xs, ok x) ∧ ∀ i x, (xs.map V)[i]? = some x → rdN σ ⟨b, off + i * P.cellsOf e, none⟩ (P.cellsOf e) = some x := by
   intro n
   induction n with
   |zero => intro _; exact ⟨[], rfl, fun x hx => by simp at hx, fun i x hx => by simp at hx⟩
   |succ n ih =>
    intro hn
    obtain ⟨xs, q1, q2, q3⟩ := ih (by omega)
    obtain ⟨es, r1, r2⟩ := h5 n (by omega)
    obtain ⟨x, r3, rfl⟩ := hV es r2
    refine ⟨xs ++ [x], by simp [q1], fun y hy => ?_, fun i y hy => ?_⟩
    ·rcases List.mem_append.1 hy with hy | hy
     ·exact q2 y hy
     ·simp at hy; subst hy; exact r3
    ·rw [List.map_append, List.getElem?_append] at hy
     split at hy
     ·exact q3 i y hy
     ·rename_i hi
      simp only [List.length_map, q1] at hi hy
      have : i = n := by
       by_cases hin : i - n = 0
       ·omega
       ·have : i - n ≥ 1 := by omega
        simp at hy
        rw [List.getElem?_eq_none (by simp; omega)] at hy
        cases hy
      subst this
      simp at hy
      rw [← hy]; exact r1
  obtain ⟨xs, q1, q2, q3⟩ := key len h2
  have hm : maxLen < big := by decide
  subst q1
  exact ⟨some ⟨b, off, none⟩, cap, xs, rfl, q2, ⟨some ⟨b, off, none⟩, cap, by simp, fun i x hx => ⟨b, off, rfl, q3 i x hx⟩⟩, ⟨_, _, _, rfl, by rw [capLow_small (by omega)]; exact h2, .inl (csz_small (by omega))⟩, Nat.le_trans (Nat.mul_le_mul_right _ h2) hw⟩
 ·exact ⟨some a, 0, [], rfl, fun x hx => by simp at hx, ⟨some a, 0, rfl, fun i x hx => by simp at hx⟩, ⟨_, _, _, rfl, Nat.zero_le _, .inl rfl⟩, by simp⟩
theorem rds_rd {P : Program} {σ : H} : ∀ {f : Nat} {t : TypeId} {cs : List Value}, RdS P σ f t cs → Rd P σ f t cs
 |0, _, _, h => h.elim
 |f + 1, t, cs, h => by
  unfold RdS at h
  unfold Rd
  cases hu : P.underlying t with
  |none => simp only [hu] at h
  |some k =>
   cases k <;> simp only [hu] at h ⊢
   case bool => exact h
   case int => exact h
   case string =>
    obtain ⟨s, h1, h2⟩ := h
    exact ⟨s, h1, Nat.le_trans h2 (by decide)⟩
   case slice e =>
    rcases h with h | ⟨b, off, len, cap, h1, h2, h3, h4, _, h5, h6⟩ | h
    ·exact .inl h
    ·exact .inr (.inl ⟨b, off, len, cap, h1, h2, h3, h4, h5, fun i hi => let ⟨es, g1, g2⟩ := h6 i hi; ⟨es, g1, rds_rd g2⟩⟩)
    ·exact .inr (.inr h)
   case struct fs => exact ⟨h.1, fun fd hfd => rds_rd (h.2 fd hfd)⟩
   case array n e => exact ⟨h.1, fun i hi => rds_rd (h.2 i hi)⟩
theorem dats_dat {P : Program} {σ : H} {t : TypeId} {v : Value} (h : DatS P σ t v) : Dat P σ t v := by
 unfold DatS at h
 unfold Dat
 cases hu : P.underlying t with
 |none => simp only [hu] at h ⊢; obtain ⟨f, h⟩ := h; exact ⟨f, rds_rd h⟩
 |some k =>
  cases k <;> simp only [hu] at h ⊢
  case struct => obtain ⟨cs, f, h1, h⟩ := h; exact ⟨cs, f, h1, rds_rd h⟩
  case array => obtain ⟨cs, f, h1, h⟩ := h; exact ⟨cs, f, h1, rds_rd h⟩
  all_goals obtain ⟨f, h⟩ := h; exact ⟨f, rds_rd h⟩
inductive SD where
 |pre (a : S) (d : SD)
 |dfr (ks : List Nat) (l : List O) (f : FuncId) (xs : List Operand) (b : S)
def dfrOf (P : Program) (o : Oper) : Option (FuncId × List Operand) :=
 match o.op with
 |.defer c => match c.callee with
  |.value (.func f) => if o.guard = none ∧ o.dst = none ∧ c.args.toList.all (opdOk P) = true then some (f, c.args.toList) else none
  |_ => none
 |_ => none
def trD (P : Program) (N : Nat) : Code → SD → Option SD
 |.seq a b, .pre s d => match trS P N a s, trD P N b d with | some x, some y => some (.pre x y) | _, _ => none
 |.seq (.region _ ops false) b, .dfr ks _ _ _ t =>
  if ops.all (okO N ops) = true ∧ 0 < ops.size then
   match (ops[ops.size - 1]?).bind (dfrOf P), trS P N b t with
   |some q, some y => some (.dfr ks ((List.range (ops.size - 1)).filterMap fun i => (ops[i]?).map (mkO P ops [])) q.1 q.2 y)
   |_, _ => none
  else none
 |_, _ => none
def okD : SD → Bool
 |.pre a d => okS a && okD d
 |.dfr _ _ _ _ b => okS b
def AppD (P : Program) (f : FuncId) (args : Array Value) (σ : H) (R : H → Prop) : Prop :=
 ∀ (φ : Emb) (w : World) (args' : Array Value), Sim P φ σ w → VRs φ args args' →
  ∃ args2, (invoke (.fn (.func f) #[]) args').run P w = .ok (.enter f args2) w ∧
   ∀ u, CallsDIn (fc none) 0 P f args2 u w fun en u' w' => u' = u ∧ EndK (fun _ w' => ∃ σ' φ', R σ' ∧ Step P φ σ w φ' σ' w') en w'
def dfrK (P : Program) (f : FuncId) (vs : List Value) (K : Exit → Env → H → Prop) : Exit → Env → H → Prop
 |.normal, e, σ | .ret, e, σ => AppD P f vs.toArray σ fun σ' => K .ret e σ'
 |_, _, _ => False
def semD (P : Program) : SD → Env → H → (Exit → Env → H → Prop) → Prop
 |.pre a d, e, σ, K => sem P a e σ (thenK (fun e σ => semD P d e σ K) K)
 |.dfr ks l f xs b, e, σ, K => evL P l e σ fun e1 σ1 => ∃ vs, evs (ev e1) xs = some vs ∧ sem P b (keepE ks e1) σ1 (dfrK P f vs K)
def trFD (P : Program) (fn : Func) (s : SD) : Option SD :=
 match fn.body with
 |some c => if fn.name == "runtime.NumGoroutine" then none else trD P fn.ntmps c s
 |none => none
section
variable {P : Program} {N : Nat}
theorem evL_soundK {ops : Array Oper} {Q : Exit → Act → World → Prop} {D : List Deferred} {rest : List Nat} {K : Env → H → Prop} (hall : ops.all (okO N ops) = true) : ∀ (l : List Nat) {φ : Emb} {σ : H} {w : World} {e : Env} {a : Act}, (∀ i ∈ l, i < ops.size) → Sim P φ σ w → ER φ N D e a →
  evL P (l.filterMap fun i => (ops[i]?).map (mkO P ops [])) e σ K → (∀ φ' e' σ' a' w', K e' σ' → Step P φ σ w φ' σ' w' → ER φ' N D e' a' → wpOpsIn (fc none) 0 P ops Q rest a' w') → wpOpsIn (fc none) 0 P ops Q (l ++ rest) a w
 |[], φ, σ, w, e, a, _, hs, he, h, hk => hk φ e σ a w h (.refl hs) he
 |i :: l, φ, σ, w, e, a, hl, hs, he, h, hk => by
  have hi := hl i (by simp)
  rw [List.cons_append, wpOpsIn_cons]
  have hio : ops[i]? = some ops[i] := by simp [hi]
  simp only [List.filterMap_cons, hio, Option.map_some, evL] at h
  refine step_sound hs he hio (Array.all_eq_true.1 hall i hi) h fun φ' e' σ' a' w' hK hst he' => ?_
  exact evL_soundK hall l (fun j hj => hl j (by simp [hj])) hst.sim he' hK fun φ2 e2 σ2 a2 w2 hK2 hst2 he2 => hk φ2 e2 σ2 a2 w2 hK2 (hst.trans hs hst2) he2
theorem calls_mono {f : FuncId} {args : Array Value} {u : FrameMode} {w : World} {R R' : Ending → FrameMode → World → Prop} (h : CallsDIn (fc none) 0 P f args u w R) (hr : ∀ e u w, R e u w → R' e u w) : CallsDIn (fc none) 0 P f args u w R' :=
 ⟨h.1, fun c cs h1 h2 => let ⟨e, u', w', fr, q1, q2⟩ := h.2 c cs h1 h2; ⟨e, u', w', fr, hr _ _ _ q1, q2⟩⟩
theorem leaves_defer {fn : Func} {tmps : Array Value} {R : Ending → World → Prop} {φ φ0 φ1 : Emb} {σ σ0 : H} {w0 : World} {f : FuncId} {vs vs' : Array Value} {rs : List Nat} {K : H → Prop} (hs0 : Sim P φ0 σ0 w0) (hφ : ∀ b x, φ1 b = some x → φ b = some x) (hv : VRs φ1 vs vs') (hA : AppD P f vs σ K) :
  ∀ (rs2 : List Nat) (w : World), Step P φ0 σ0 w0 φ σ w → Marks w0 w (rs2 ++ rs) →
  (∀ φ' σ' w', K σ' → Step P φ0 σ0 w0 φ' σ' w' → (∀ b x, φ b = some x → φ' b = some x) → ∃ v, (results fn tmps).run P w' = .ok v w' ∧ R (.returned v) w') →
  LeavesInM (fc none) 0 P fn tmps R (rs2.map mkD ++ { target := .fn (.func f) #[], args := vs' } :: rs.map mkD) .returning w
 |[], w, hs, hm, h => by
  obtain ⟨args2, h1, h2⟩ := hA φ w vs' hs.sim (VRs.mono hφ hv)
  refine ⟨by simp, .inr ⟨(fun h => by cases h), _, _, f, args2, rfl, h1, (fun _ _ => trivial), calls_mono (h2 .returning) fun en u' w' hq => ?_⟩⟩
  obtain ⟨rfl, v, rfl, σ', φ', k1, k2⟩ := hq
  refine leaves_marks rs w' (hs.trans hs0 k2) ⟨hm.1, fun r hr => ⟨(hm.2 r hr).1, k2.defs r (hm.2 r hr).2⟩⟩ fun w2 hs2 => ?_
  exact h φ' σ' w2 k1 hs2 fun b x hb => k2.emb hs.sim b x hb
 |r :: rs2, w, hs, hm, h => by
  obtain ⟨h1, h2⟩ := hm.2 r (by simp)
  obtain ⟨n1, n2⟩ := List.nodup_cons.1 (show (r :: (rs2 ++ rs)).Nodup from hm.1)
  refine ⟨by simp, .inl ⟨r, setO w r (.deferred none), rfl, ?_, ?_⟩⟩
  ·simp [Instr.takeDeferred, getObj, setObj, Sem.run, h2, setO]
  ·refine leaves_defer hs0 hφ hv hA rs2 _ (hs.take h2 h1) ⟨n2, fun r' hr' => ⟨(hm.2 r' (by simp only [List.cons_append]; exact List.mem_cons_of_mem _ hr')).1, ?_⟩⟩ h
   exact (setO_other (r := r) (r' := r') fun he => n1 (he ▸ hr')).trans (hm.2 r' (by simp only [List.cons_append]; exact List.mem_cons_of_mem _ hr')).2
theorem deferred_key {fn : Func} {ts : List Rs} {R : Value → H → Prop} {φ0 : Emb} {σ0 : H} {w0 : World} (hm : P.follows .mixedOrders = true) (hs0 : Sim P φ0 σ0 w0) (hr : resT P fn.results.toList = some ts) :
  ∀ {d d0 : SD} {c : Code} {e : Env} {σ : H} {φ : Emb} {w : World} {a : Act} {rs : List Nat}, trD P N c d0 = some d → okD d = true → semD P d e σ (retK ts R) → Step P φ0 σ0 w0 φ σ w → ER φ N (rs.map mkD) e a → Marks w0 w rs →
  c.wpIn (fc none) 0 P (bodyPostM (fc none) 0 P fn (EndK fun v' w' => ∃ v σ' φ', R v σ' ∧ VR φ' v v' ∧ Step P φ0 σ0 w0 φ' σ' w')) a w := by
 intro d d0
 induction d0 generalizing d with
 |pre s0 d0 ih =>
  intro c e σ φ w a rs ht hk h hst he hmk
  cases c <;> try (simp only [trD, reduceCtorEq] at ht; done)
  case seq ca cb =>
  simp only [trD] at ht
  split at ht
  ·rename_i x y g1 g2
   injection ht with ht
   subst ht
   simp only [okD, Bool.and_eq_true] at hk
   simp only [semD] at h
   refine wpIn_seq (wpIn_mono (sem_sound (ro := none) hm g1 hk.1 (.inl rfl) h φ w a _ hst.sim he) fun ex a' w' hE => ?_)
   obtain ⟨e', σ', φ', rs2, k1, k2, k3, k4⟩ := hE
   have fin : (match outE ts e' σ' with | some v => R v σ' | none => False) → LeavesInM (fc none) 0 P fn a'.tmps (EndK fun v' w' => ∃ v σ' φ', R v σ' ∧ VR φ' v v' ∧ Step P φ0 σ0 w0 φ' σ' w') a'.defers .returning w' := by
    intro hh
    split at hh
    ·rename_i v hv
     have hd : a'.defers = (rs2 ++ rs).map mkD := by rw [List.map_append]; exact k3.1.2
     rw [hd]
     refine leaves_marks (rs2 ++ rs) w' (hst.trans hs0 k2) (hmk.trans hst k2 k4) fun w2 hs2 => ?_
     obtain ⟨v', q1, q2⟩ := outE_sound (P := P) (w := w2) hs2.sim hr k3 hv
     exact ⟨v', q1, v', rfl, v, σ', φ', hh, q2, hs2⟩
    ·exact hh.elim
   cases ex with
   |normal => exact ih g2 hk.2 k1 (hst.trans hs0 k2) (by rw [List.map_append]; exact k3) (hmk.trans hst k2 k4)
   |ret => exact fin k1
   |exit id => exact k1.elim
   |goto l => exact k1.elim
   |panic ch => exact k1.elim
   |outgrown => exact k1.elim
  ·cases ht
 |dfr ks0 l0 f0 xs0 s0 =>
  intro c e σ φ w a rs ht hk h hst he hmk
  cases c <;> try (simp only [trD, reduceCtorEq] at ht; done)
  case seq ca cb =>
  cases ca <;> try (simp only [trD, reduceCtorEq] at ht; done)
  case region id ops md =>
  cases md with
  |true => simp only [trD, reduceCtorEq] at ht
  |false =>
  simp only [trD] at ht
  split at ht
  case isFalse => cases ht
  rename_i hall
  obtain ⟨hall, hpos⟩ := hall
  split at ht
  case h_2 => cases ht
  rename_i q y g1 g2
  injection ht with ht
  subst ht
  simp only [okD] at hk
  simp only [semD] at h
  have hlast : ops[ops.size - 1]? = some (ops[ops.size - 1]'(by omega)) := by simp [hpos]
  generalize ops[ops.size - 1]'(by omega) = o at hlast
  rw [hlast] at g1
  simp only [Option.bind_some] at g1
  have hop : ∃ cl, o.op = .defer cl ∧ cl.callee = .value (.func q.1) ∧ o.guard = none ∧ o.dst = none ∧ cl.args.toList.all (opdOk P) = true ∧ q.2 = cl.args.toList := by
   unfold dfrOf at g1
   split at g1
   ·rename_i cl hcl
    split at g1
    ·rename_i f hf
     split at g1
     ·rename_i hh
      injection g1 with g1
      subst g1
      exact ⟨cl, hcl, hf, hh.1, hh.2.1, hh.2.2, rfl⟩
     ·cases g1
    ·cases g1
   ·cases g1
  obtain ⟨cl, o1, o2, o3, o4, o5, o6⟩ := hop
  refine wpIn_seq (wpIn_region ?_)
  have hrange : List.range ops.size = List.range (ops.size - 1) ++ [ops.size - 1] := by
   rw [← List.range_succ]
   congr 1
   omega
  rw [hrange]
  refine evL_soundK hall _ (fun i hi => by have := List.mem_range.1 hi; omega) hst.sim he h fun φ1 e1 σ1 a1 w1 hK hst1 he1 => ?_
  obtain ⟨vs, hvs, hb⟩ := hK
  have hor := he1.or (P := P) hst1.sim
  rw [o6] at hvs
  have ha := evs_VR (ρ' := a1.eval) (fun x hx v hv => hor.1 x v (List.all_eq_true.1 o5 x hx) hv) hvs
  rw [wpOpsIn_cons]
  unfold wpOpIn
  simp only [hlast]
  have hw : Region.wanted o (yielded ops a1.tmps) = true := by unfold Region.wanted; rw [o3]
  rw [hw]
  simp only [if_true]
  have hres : (o.semAt (fc none).round a1.eval).run P w1 = .ok (.defer { target := .fn (.func q.1) #[], args := (cl.args.toList.map a1.eval).toArray }) w1 := by
   have e1 : (cl.args.toList.map a1.eval).toArray = cl.args.map a1.eval := by apply Array.ext'; simp
   have hev : a1.eval (.func q.1) = .func (.func q.1) #[] #[] := rfl
   rw [e1]
   show (execOp a1.eval o).run P w1 = _
   simp [execOp, o1, resolve, o2, hev, Deferred.ofValue]
  refine ⟨fun _ _ => trivial, ?_⟩
  rw [hres, Oper.uponIn_defer, o4]
  show cb.wpIn _ _ _ _ _ _
  have st1 := hst.trans hs0 hst1
  have hmk1 : Marks w0 w1 rs := ⟨hmk.1, fun r hr => ⟨(hmk.2 r hr).1, hst1.defs r (hmk.2 r hr).2⟩⟩
  have he2 : ER φ1 N ({ target := .fn (.func q.1) #[], args := (cl.args.toList.map a1.eval).toArray } :: rs.map mkD) (keepE ks0 e1) { a1 with defers := { target := .fn (.func q.1) #[], args := (cl.args.toList.map a1.eval).toArray } :: a1.defers } :=
   ⟨⟨he1.1.1, by rw [he1.1.2]⟩, fun t v hv => he1.2 t v (lk_keep hv)⟩
  refine wpIn_mono (sem_sound (ro := none) hm g2 hk (.inl rfl) hb φ1 w1 _ _ st1.sim he2) fun ex a' w' hE => ?_
  obtain ⟨e', σ', φ', rs2, k1, k2, k3, k4⟩ := hE
  have fin : AppD P q.1 vs.toArray σ' (fun σ'' => retK ts R .ret e' σ'') → LeavesInM (fc none) 0 P fn a'.tmps (EndK fun v' w' => ∃ v σ' φ', R v σ' ∧ VR φ' v v' ∧ Step P φ0 σ0 w0 φ' σ' w') a'.defers .returning w' := by
   intro hA
   rw [k3.1.2]
   refine leaves_defer hs0 (fun b x hb => k2.emb st1.sim b x hb) ha hA rs2 w' (st1.trans hs0 k2) (hmk1.trans st1 k2 k4) fun φ3 σ3 w3 hR hs3 hemb => ?_
   simp only [retK] at hR
   split at hR
   ·rename_i v hv
    obtain ⟨v', q1, q2⟩ := outE_sound (P := P) (w := w3) hs3.sim hr (k3.mono hemb) hv
    exact ⟨v', q1, v', rfl, v, σ3, φ3, hR, q2, hs3⟩
   ·exact hR.elim
  cases ex with
  |normal => exact fin k1
  |ret => exact fin k1
  |exit id => exact k1.elim
  |goto l => exact k1.elim
  |panic ch => exact k1.elim
  |outgrown => exact k1.elim
theorem App.of_semD {f : Nat} {fn : Func} {s s0 : SD} {ts : List Rs} {cap args : Array Value} {σ : H} {R : Value → H → Prop} (hm : P.follows .mixedOrders = true) (hf : P.funcs[f]? = some fn)
  (ht : trFD P fn s0 = some s) (hk : okD s = true) (hr : resT P fn.results.toList = some ts) (hn : args.size + cap.size ≤ fn.ntmps)
  (h : semD P s (argsE 0 (args ++ cap).toList) σ (retK ts R)) : App P (.func f) cap args σ R := by
 intro ro φ w fn' cap' args' hs h1 h2 h3
 cases h1
 unfold trFD at ht
 split at ht
 ·rename_i c hb
  split at ht
  ·cases ht
  ·rename_i hname
   refine ⟨.enter f (args' ++ cap'), w, ?_, ?_⟩
   ·have hname' : ¬ fn.name = "runtime.NumGoroutine" := fun hh => hname (by rw [hh]; rfl)
    simp [invoke, callFunc, hf, hb, hname']
   ·have hsz : (args' ++ cap').size ≤ fn.ntmps := by simp [← h3.1, ← h2.1]; exact hn
    suffices hER : ER φ fn.ntmps (([] : List Nat).map mkD) (argsE 0 (args ++ cap).toList) { tmps := (args' ++ cap') ++ Array.replicate (fn.ntmps - (args' ++ cap').size) undef, defers := [] } by
     have hc : CallsIn (fc none) 0 P f (args' ++ cap') w (EndK fun v' w' => ∃ v σ' φ', R v σ' ∧ VR φ' v v' ∧ Step P φ σ w φ' σ' w') :=
      callsIn_of_wp_marks hf hb trivial (deferred_key (rs := []) hm hs hr ht hk h (.refl hs) hER .nil)
     exact hc
    refine ⟨⟨by simp only [Array.size_append, Array.size_replicate] at hsz ⊢; omega, rfl⟩, fun t v hv => ?_⟩
    obtain ⟨_, hv⟩ := lk_args hv
    have hv : (args ++ cap)[t]? = some v := by rw [← Array.getElem?_toList]; exact hv
    have hall : VRs φ (args ++ cap) (args' ++ cap') := by
     refine VRs.of_get (by simp [h3.1, h2.1]) fun i u hu => ?_
     rw [Array.getElem?_append] at hu ⊢
     split at hu
     ·rename_i hi
      rw [if_pos (h3.1 ▸ hi)]
      exact h3.get hu
     ·rename_i hi
      rw [if_neg (h3.1 ▸ hi), ← h3.1]
      exact h2.get hu
    obtain ⟨v', q1, q2⟩ := hall.get hv
    have hlt := (Array.getElem?_eq_some_iff.1 q1).1
    exact ⟨v', by simp only; rw [Array.getElem?_append_left hlt]; exact q1, q2⟩
 ·cases ht
theorem AppD.of_ops {f : Nat} {fn : Func} {l l0 : List O} {ts : List Rs} {args : Array Value} {σ : H} {R : H → Prop} (hf : P.funcs[f]? = some fn)
  (ht : trF P fn (.ops l0) = some (.ops l)) (hr : resT P fn.results.toList = some ts) (hn : args.size ≤ fn.ntmps)
  (h : evL P l (argsE 0 args.toList) σ fun e σ => (∃ v, outE ts e σ = some v) ∧ R σ) : AppD P f args σ R := by
 intro φ w args' hs h3
 unfold trF at ht
 split at ht
 ·rename_i c hb
  split at ht
  ·cases ht
  ·rename_i hname
   refine ⟨args', ?_, fun u => ?_⟩
   ·have hname' : ¬ fn.name = "runtime.NumGoroutine" := fun hh => hname (by rw [hh]; rfl)
    simp [invoke, callFunc, hf, hb, hname']
   ·have hsz : args'.size ≤ fn.ntmps := by rw [← h3.1]; exact hn
    refine callsDIn_of_wp hf hb trivial ?_
    have he : ER φ fn.ntmps [] (argsE 0 args.toList) { tmps := args' ++ Array.replicate (fn.ntmps - args'.size) undef, defers := [] } := by
     refine ⟨⟨by simp only [Array.size_append, Array.size_replicate]; omega, rfl⟩, fun t v hv => ?_⟩
     obtain ⟨_, hv⟩ := lk_args hv
     have hv : args[t]? = some v := by rw [← Array.getElem?_toList]; exact hv
     obtain ⟨v', q1, q2⟩ := h3.get hv
     have hlt := (Array.getElem?_eq_some_iff.1 q1).1
     exact ⟨v', by simp only; rw [Array.getElem?_append_left hlt]; exact q1, q2⟩
    cases c <;> try (simp only [trS, reduceCtorEq] at ht; done)
    case region id ops d =>
    cases d with
    |true => cases ht
    |false =>
    simp only [trS] at ht
    split at ht
    ·rename_i hall
     injection ht with ht
     injection ht with ht
     subst ht
     refine wpIn_region (evL_sound hall _ (fun i hi => List.mem_range.1 hi) hs he h fun φ' e' σ' a' w' k1 k2 k3 => ?_)
     obtain ⟨⟨v, hv⟩, hR⟩ := k1
     obtain ⟨v', q1, q2⟩ := outE_sound (P := P) (w := w') k2.sim hr k3 hv
     exact ⟨k3.1.2, v', q1, v', rfl, σ', φ', hR, k2⟩
    ·cases ht
 ·cases ht
end
end Go.Cn
