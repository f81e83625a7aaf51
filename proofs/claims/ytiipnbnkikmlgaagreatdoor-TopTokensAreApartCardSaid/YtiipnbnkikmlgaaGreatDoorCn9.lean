/- An abstract run of a program, and that the model does the same: a part of the framework. Conditions: none. -/
import Derived.Test.YtiipnbnkikmlgaaGreatDoorCn4
import Derived.Maps.RangeRun
set_option linter.all false
namespace Go.Cn
open Go Go.RowKit
section
variable {P : Program} {φ : Emb} {σ : H} {w : World}
theorem cells_of {b : Nat} {x : Loc} {ver : Nat} {cs : List Value} {fz : Nat × Nat} (hs : Sim P φ σ w) (hx : φ b = some x) (hb : σ[b]? = some (.cells ver cs fz)) :
  ∃ c e fr, w.heap[x.r]? = some (.cells c e fr) ∧ (∀ (i : Nat) (v : Value), cs[i]? = some v → ∃ v', c[x.o + i]? = some v' ∧ VR φ v v') ∧
   (∀ i, i < cs.length → ¬ (fz.1 ≤ i ∧ i < fz.2) → ¬ (fr.1 ≤ x.o + i ∧ x.o + i < fr.2)) ∧ x.e ≤ c.size ∧ (∀ i, x.o + cs.length ≤ i → i < x.e → ¬ (fr.1 ≤ i ∧ i < fr.2)) := by
 obtain ⟨ob, h1, h2⟩ := hs.blk b x _ hx hb trivial
 cases h2 with
 |cells _ _ _ c e fr _ hc hf he hg => exact ⟨c, e, fr, h1, hc, hf, he, hg⟩
theorem part_of {b : Nat} {x : Loc} {cs : List (Option Value)} (hs : Sim P φ σ w) (hx : φ b = some x) (hb : σ[b]? = some (.part cs)) :
  ∃ c e fr, w.heap[x.r]? = some (.cells c e fr) ∧ ∀ (i : Nat) (v : Value), cs[i]? = some (some v) → ∃ v', c[x.o + i]? = some v' ∧ VR φ v v' := by
 obtain ⟨ob, h1, h2⟩ := hs.blk b x _ hx hb trivial
 cases h2 with
 |part _ c e fr _ hc => exact ⟨c, e, fr, h1, hc⟩
theorem rd1_sound {a : Addr} {v : Value} {x : Loc} (hs : Sim P φ σ w) (hx : φ a.block = some x) (h : rd1 σ a = some v) : ∃ v', w.cell? ⟨x.r, x.o + a.off, none⟩ = some v' ∧ VR φ v v' := by
 unfold rd1 at h
 split at h
 ·rename_i ver cs fz hb
  obtain ⟨c, e, fr, h1, h2, _⟩ := cells_of hs hx hb
  obtain ⟨v', h3, h4⟩ := h2 _ _ h
  exact ⟨v', by simp [World.cell?, h1, h3], h4⟩
 ·rename_i cs hb
  obtain ⟨c, e, fr, h1, h2⟩ := part_of hs hx hb
  rw [Option.join_eq_some_iff] at h
  obtain ⟨v', h3, h4⟩ := h2 _ _ h
  exact ⟨v', by simp [World.cell?, h1, h3], h4⟩
 ·cases h
theorem allS_spec : ∀ {l : List (Option Value)} {r : List Value}, allS l = some r → r.length = l.length ∧ ∀ (i : Nat) (v : Value), r[i]? = some v → l[i]? = some (some v)
 |[], r, h => by simp only [allS, Option.some.injEq] at h; subst h; exact ⟨rfl, fun i v hv => by simp at hv⟩
 |none :: l, r, h => by cases h
 |some u :: l, r, h => by
  simp only [allS, Option.map_eq_some_iff] at h
  obtain ⟨r', h1, rfl⟩ := h
  obtain ⟨g1, g2⟩ := allS_spec h1
  refine ⟨by simp [g1], fun i v hv => ?_⟩
  cases i with
  |zero => simp at hv ⊢; exact hv
  |succ i => simp at hv ⊢; exact g2 i v hv
theorem rdN_length {a : Addr} {n : Nat} {l : List Value} (h : rdN σ a n = some l) : l.length = n := by
 unfold rdN at h
 split at h
 ·rename_i h0; injection h with h; subst h; simp [h0]
 ·split at h
  ·split at h
   ·injection h with h; subst h; simp; omega
   ·cases h
  ·split at h
   ·rw [(allS_spec h).1]; simp; omega
   ·cases h
  ·cases h
theorem rdN_cells {a : Addr} {n : Nat} {l : List Value} {x : Loc} (hs : Sim P φ σ w) (hx : φ a.block = some x) (h : rdN σ a n = some l) :
  ∃ l' : List Value, l'.length = n ∧ VRs φ l.toArray l'.toArray ∧ ∀ (j : Nat) (v : Value), l'[j]? = some v → w.cell? ⟨x.r, x.o + a.off + j, none⟩ = some v := by
 have hl := rdN_length h
 unfold rdN at h
 split at h
 ·rename_i h0; injection h with h; subst h; exact ⟨[], by simp [h0], ⟨rfl, fun i h => by simp at h⟩, fun j v hv => by simp at hv⟩
 ·split at h
  ·rename_i ver cs fz hb
   split at h
   ·rename_i hle
    injection h with h
    obtain ⟨c, e, fr, h1, h2, _⟩ := cells_of hs hx hb
    have hc : ∀ j, j < n → ∃ v', c[x.o + a.off + j]? = some v' ∧ ∀ v, l[j]? = some v → VR φ v v' := by
     intro j hj
     have hlt : a.off + j < cs.length := by omega
     obtain ⟨v', h3, h4⟩ := h2 (a.off + j) cs[a.off + j] (by simp [hlt])
     refine ⟨v', by rw [Nat.add_assoc]; exact h3, fun v hv => ?_⟩
     rw [← h, List.getElem?_take, if_pos hj, List.getElem?_drop, List.getElem?_eq_getElem hlt] at hv
     injection hv with hv
     rw [← hv]; exact h4
    refine ⟨(List.range n).map fun j => (c[x.o + a.off + j]?).getD undef, by simp, ?_, fun j v hv => ?_⟩
    ·refine VRs.of_get (by simp [hl]) (fun j v hv => ?_)
     have hj : j < n := by
      have := (Array.getElem?_eq_some_iff.1 hv).1
      simpa [hl] using this
     obtain ⟨v', h3, h4⟩ := hc j hj
     exact ⟨v', by simp [hj, h3], h4 v (by simpa using hv)⟩
    ·have hj : j < n := by
      have := (List.getElem?_eq_some_iff.1 hv).1
      simpa using this
     obtain ⟨v', h3, _⟩ := hc j hj
     simp [hj, h3] at hv
     subst hv
     simp [World.cell?, h1, h3]
   ·cases h
  ·rename_i cs hb
   split at h
   ·rename_i hle
    obtain ⟨c, e, fr, h1, h2⟩ := part_of hs hx hb
    have hc : ∀ j, j < n → ∃ v', c[x.o + a.off + j]? = some v' ∧ ∀ v, l[j]? = some v → VR φ v v' := by
     intro j hj
     have hlt : j < l.length := by omega
     have hg := (allS_spec h).2 j l[j] (by simp [hlt])
     rw [List.getElem?_take, if_pos hj, List.getElem?_drop] at hg
     obtain ⟨v', h3, h4⟩ := h2 (a.off + j) _ hg
     refine ⟨v', by rw [Nat.add_assoc]; exact h3, fun v hv => ?_⟩
     rw [List.getElem?_eq_getElem hlt] at hv
     injection hv with hv
     rw [← hv]; exact h4
    refine ⟨(List.range n).map fun j => (c[x.o + a.off + j]?).getD undef, by simp, ?_, fun j v hv => ?_⟩
    ·refine VRs.of_get (by simp [hl]) (fun j v hv => ?_)
     have hj : j < n := by
      have := (Array.getElem?_eq_some_iff.1 hv).1
      simpa [hl] using this
     obtain ⟨v', h3, h4⟩ := hc j hj
     exact ⟨v', by simp [hj, h3], h4 v (by simpa using hv)⟩
    ·have hj : j < n := by
      have := (List.getElem?_eq_some_iff.1 hv).1
      simpa using this
     obtain ⟨v', h3, _⟩ := hc j hj
     simp [hj, h3] at hv
     subst hv
     simp [World.cell?, h1, h3]
   ·cases h
  ·cases h
theorem rdN_sound {a a' : Addr} {n : Nat} {l : List Value} (hs : Sim P φ σ w) (h : rdN σ a n = some l)
  (hx : n ≠ 0 → ∃ x, φ a.block = some x ∧ a' = ⟨x.r, x.o + a.off, none⟩) :
  ∃ l' : List Value, (loadCells a' n).run P w = .ok l'.toArray w ∧ VRs φ l.toArray l'.toArray ∧ l'.length = n := by
 by_cases h0 : n = 0
 ·subst h0
  have : l = [] := List.eq_nil_of_length_eq_zero (rdN_length h)
  subst this
  exact ⟨[], by simp [loadCells, loadCellsFrom], ⟨rfl, fun i h => by simp at h⟩, rfl⟩
 ·obtain ⟨x, h1, rfl⟩ := hx h0
  obtain ⟨l', g1, g2, g3⟩ := rdN_cells hs h1 h
  refine ⟨l', ?_, g2, g1⟩
  rw [← g1]
  refine run_loadCells_list w _ l' (fun j v hv => ?_)
  rw [add_none _ _ rfl]
  exact g3 j v hv
def setsA (c : Array Value) (off : Nat) : List Value → Array Value
 |[] => c
 |v :: l => setsA (c.setIfInBounds off v) (off + 1) l
theorem setsA_size : ∀ (l : List Value) (c : Array Value) (off : Nat), (setsA c off l).size = c.size
 |[], _, _ => rfl
 |v :: l, c, off => by simp [setsA, setsA_size l]
def setO (w : World) (r : Nat) (ob : Obj) : World := { w with heap := w.heap.setIfInBounds r ob }
theorem setO_same {r : Nat} {o ob : Obj} (h : w.heap[r]? = some o) : (setO w r ob).heap[r]? = some ob := by
 have := (Array.getElem?_eq_some_iff.1 h).1
 simp [setO, this]
theorem setO_other {r r' : Nat} {ob : Obj} (h : r' ≠ r) : (setO w r ob).heap[r']? = w.heap[r']? := by
 simp [setO, Array.getElem?_setIfInBounds_ne (Ne.symm h)]
theorem setCell_setO {r i : Nat} {c : Array Value} {t : TypeId} {fr : Nat × Nat} {v : Value} (h : w.heap[r]? = some (.cells c t fr)) :
  w.setCell ⟨r, i, none⟩ v = setO w r (.cells (c.setIfInBounds i v) t fr) := by
 unfold World.setCell setO
 congr 1
 apply Array.ext_getElem?
 intro j
 rw [Array.getElem?_modify]
 by_cases hj : r = j
 ·subst hj
  obtain ⟨h1, h2⟩ := Array.getElem?_eq_some_iff.1 h
  simp [h1, h2]
 ·rw [if_neg hj, Array.getElem?_setIfInBounds_ne hj]
theorem setO_setO (r : Nat) (a b : Obj) : setO (setO w r a) r b = setO w r b := by
 simp [setO]
theorem run_storeCells_fr (g o : Nat) (t : TypeId) (fr : Nat × Nat) : ∀ (vs : List Value) (i : Nat) (c : Array Value) (w : World), w.heap[g]? = some (.cells c t fr) → o + i + vs.length ≤ c.size →
  (∀ v ∈ vs, v.oneCell' = true) → (∀ j, o + i ≤ j → j < o + i + vs.length → ¬ (fr.1 ≤ j ∧ j < fr.2)) →
  (storeCells ⟨g, o, none⟩ vs i).run P w = .ok () (setO w g (.cells (setsA c (o + i) vs) t fr))
 |[], i, c, w, hg, _, _, _ => by
  have : setO w g (.cells c t fr) = w := by
   unfold setO
   have h1 := Array.getElem?_eq_some_iff.1 hg
   obtain ⟨h1, h2⟩ := h1
   congr 1
   apply Array.ext_getElem?
   intro j
   by_cases hj : g = j
   ·subst hj; simp [h1]; rw [← h2]
   ·rw [Array.getElem?_setIfInBounds_ne hj]
  simp [storeCells, setsA, this]
 |v :: rest, i, c, w, hg, hl, h1, hf => by
  have hi : o + i < c.size := by simp at hl; omega
  have hcell : w.cell? ⟨g, o + i, none⟩ = some c[o + i] := by simp [World.cell?, hg, hi]
  have hfro : w.frozen? ⟨g, o + i, none⟩ = false := by
   have := hf (o + i) (Nat.le_refl _) (by simp)
   simp only [World.frozen?, hg]
   simpa using this
  have hst : (store ((⟨g, o, none⟩ : Addr).add i) v).run P w = .ok () (setO w g (.cells (c.setIfInBounds (o + i) v) t fr)) := by
   rw [add_none _ _ rfl, run_store P w _ v _ (h1 v (by simp)), hcell]
   simp [hfro, setCell_setO hg]
  have ih := run_storeCells_fr g o t fr rest (i + 1) (c.setIfInBounds (o + i) v) (setO w g (.cells (c.setIfInBounds (o + i) v) t fr)) (setO_same hg) (by simp at hl ⊢; omega) (fun x hx => h1 x (by simp [hx]))
   (fun j h2 h3 => hf j (by omega) (by simp at h3 ⊢; omega))
  simp only [storeCells, Sem.run_bind, hst, Result.andThen_ok, ih, setO_setO]
  rfl
theorem Step.set {b : Nat} {x : Loc} {k k' : Blk} {ob ob' : Obj} (hs : Sim P φ σ w) (hx : φ b = some x) (hb : σ[b]? = some k) (hl : k.live) (hl' : k'.live) (hv : k.ver < k'.ver)
  (ho : w.heap[x.r]? = some ob) (hr : BR φ k' ob' x) : Step P φ σ w φ (σ.setIfInBounds b k') (setO w x.r ob') := by
 have hlt : b < σ.size := (hs.lt b x hx).1
 have at_b : (σ.setIfInBounds b k')[b]? = some k' := by simp [hlt]
 have at_o : ∀ c, c ≠ b → (σ.setIfInBounds b k')[c]? = σ[c]? := fun c hc => Array.getElem?_setIfInBounds_ne (Ne.symm hc)
 refine ⟨⟨fun c y q hy hq hql => ?_, fun c c' y y' q q' hy hy' hr' hq hq' hql hql' => ?_, fun c y hy => ?_, hs.glob⟩, fun _ _ => rfl, by simp, fun c q hq => ?_, fun c hc hn => ?_, by simp [setO], fun r hr2 hh => ?_, fun c y hc hy _ => ?_, rfl, rfl, rfl, fun r hr2 => (setO_other (fun e => by
  subst e
  obtain ⟨o2, h1, h2⟩ := hs.blk b x k hx hb hl
  rw [hr2] at h1
  injection h1 with h1
  exact h2.notDef h1.symm)).trans hr2⟩
 ·by_cases hc : c = b
  ·subst hc
   rw [hx] at hy
   injection hy with hy
   subst hy
   rw [at_b] at hq
   injection hq with hq
   subst hq
   exact ⟨ob', setO_same ho, hr⟩
  ·rw [at_o c hc] at hq
   obtain ⟨o2, h1, h2⟩ := hs.blk c y q hy hq hql
   refine ⟨o2, ?_, h2⟩
   rw [setO_other (fun e => hc (hs.inj c b y x q k hy hx e hq hb hql hl))]
   exact h1
 ·have old : ∀ (c : Nat) (q : Blk), (σ.setIfInBounds b k')[c]? = some q → q.live → ∃ q0, σ[c]? = some q0 ∧ q0.live := by
   intro c q hq hql
   by_cases hc : c = b
   ·subst hc; exact ⟨k, hb, hl⟩
   ·rw [at_o c hc] at hq; exact ⟨q, hq, hql⟩
  obtain ⟨q0, e1, e2⟩ := old c q hq hql
  obtain ⟨q0', e1', e2'⟩ := old c' q' hq' hql'
  exact hs.inj c c' y y' q0 q0' hy hy' hr' e1 e1' e2 e2'
 ·have := hs.lt c y hy
  simpa [setO] using this
 ·by_cases hc : c = b
  ·subst hc
   rw [hb] at hq
   injection hq with hq
   subst hq
   exact ⟨k', at_b, .inr (.inr ⟨hl, hl', hv⟩)⟩
  ·exact ⟨q, by rw [at_o c hc]; exact hq, Blk.le_refl _⟩
 ·exact at_o c (fun e => by subst e; rw [hx] at hn; cases hn)
 ·refine setO_other (fun e => ?_)
  subst e
  have := hh b x hx rfl
  rw [at_b, hb] at this
  injection this with this
  subst this
  omega
 ·exact absurd (hs.lt c y hy).1 (by omega)
theorem sets_rel : ∀ (l l' : List Value) (off o : Nat) (cs : List Value) (c : Array Value), (∀ (i : Nat) (v : Value), cs[i]? = some v → ∃ v', c[o + i]? = some v' ∧ VR φ v v') →
  VRs φ l.toArray l'.toArray → ∀ (i : Nat) (v : Value), (sets cs off l)[i]? = some v → ∃ v', (setsA c (o + off) l')[o + i]? = some v' ∧ VR φ v v'
 |[], [], off, o, cs, c, h, _, i, v, hv => h i v hv
 |[], _ :: _, _, _, _, _, _, hl, _, _, _ => by have := hl.1; simp at this
 |_ :: _, [], _, _, _, _, _, hl, _, _, _ => by have := hl.1; simp at this
 |u :: l, u' :: l', off, o, cs, c, h, hl, i, v, hv => by
  have hu : VR φ u u' := by have := hl.2 0 (by simp) (by simp); simpa using this
  have htl : VRs φ l.toArray l'.toArray := VRs.of_get (by have := hl.1; simpa using this) (fun j q hq => by
   have := hl.get (i := j + 1) (v := q) (by simpa using hq)
   simpa using this)
  refine sets_rel l l' (off + 1) o (cs.set off u) (c.setIfInBounds (o + off) u') (fun j q hq => ?_) htl i v hv
  rw [List.getElem?_set] at hq
  rw [Array.getElem?_setIfInBounds]
  by_cases hj : off = j
  ·subst hj
   simp only [if_true] at hq ⊢
   split at hq
   ·rename_i hlt
    injection hq with hq
    subst hq
    obtain ⟨v', h1, _⟩ := h off cs[off] (by simp [hlt])
    have := (Array.getElem?_eq_some_iff.1 h1).1
    exact ⟨u', by simp [this], hu⟩
   ·cases hq
  ·rw [if_neg hj] at hq
   rw [if_neg (by omega)]
   exact h j q hq
theorem noFz_spec {fz : Nat × Nat} {off n : Nat} (h : noFz fz off n = true) : ∀ i, off ≤ i → i < off + n → ¬ (fz.1 ≤ i ∧ i < fz.2) := by
 intro i h1 h2 h3
 simp [noFz] at h
 omega
theorem wrN_sound {a a' : Addr} {l l' : List Value} {σ' : H} (hs : Sim P φ σ w) (h : wrN σ a l = some σ') (hl : VRs φ l.toArray l'.toArray)
  (hx : l ≠ [] → ∃ x, φ a.block = some x ∧ a' = ⟨x.r, x.o + a.off, none⟩) : ∃ w', (storeCells a' l').run P w = .ok () w' ∧ Step P φ σ w φ σ' w' := by
 have hlen : l.length = l'.length := by have := hl.1; simpa using this
 unfold wrN at h
 split at h
 ·rename_i h0
  injection h with h
  subst h; subst h0
  have : l' = [] := List.eq_nil_of_length_eq_zero (by simpa using hlen.symm)
  subst this
  exact ⟨w, by simp [storeCells], Step.refl hs⟩
 ·rename_i h0
  obtain ⟨x, hx1, rfl⟩ := hx h0
  split at h
  ·rename_i ver cs fz hb
   split at h
   ·rename_i hc
    obtain ⟨hc1, hc2, hc3⟩ := hc
    injection h with h
    subst h
    obtain ⟨c, e, fr, h1, h2, h3, h4, h5⟩ := cells_of hs hx1 hb
    have hin : ∀ i, i < cs.length → x.o + i < c.size := fun i hi => by
     obtain ⟨v', g1, _⟩ := h2 i cs[i] (by simp [hi])
     exact (Array.getElem?_eq_some_iff.1 g1).1
    have hpos : 0 < l.length := by rcases l with _ | _; exact absurd rfl h0; simp
    have hsz : x.o + a.off + l.length ≤ c.size := by
     have := hin (a.off + l.length - 1) (by omega)
     omega
    have hone : ∀ v ∈ l', v.oneCell' = true := by
     intro v hv
     obtain ⟨i, hi, rfl⟩ := List.getElem_of_mem hv
     have := hl.2 i (by simpa [hlen] using hi) (by simpa using hi)
     simp only [List.getElem_toArray] at this
     rw [this.oneCell]
     exact (List.all_eq_true.1 hc3) _ (by simp)
    refine ⟨_, run_storeCells_fr x.r (x.o + a.off) e fr l' 0 c w h1 (by omega) hone (fun j g1 g2 => ?_), Step.set hs hx1 hb trivial trivial (Nat.lt_succ_self _) h1 ?_⟩
    ·have := h3 (j - x.o) (by omega) (noFz_spec hc2 _ (by omega) (by omega))
     rw [show x.o + (j - x.o) = j from by omega] at this
     exact this
    ·refine .cells _ _ _ _ _ _ _ (fun i v hv => ?_) (fun i hi hn => ?_) (by rw [setsA_size]; exact h4) (fun i g1 g2 => h5 i (by rw [sets_length] at g1; exact g1) g2)
     ·have := sets_rel l l' a.off x.o cs c h2 hl i v hv
      simpa [Nat.add_assoc] using this
     ·exact h3 i (by rw [sets_length] at hi; exact hi) hn
   ·cases h
  ·cases h
def upd (φ : Emb) (b : Nat) (x : Loc) : Emb := fun c => if c = b then some x else φ c
theorem upd_same (φ : Emb) (b : Nat) (x : Loc) : upd φ b x b = some x := by simp [upd]
theorem upd_ext {b : Nat} {x : Loc} (hs : Sim P φ σ w) (hb : σ.size ≤ b) : ∀ c y, φ c = some y → upd φ b x c = some y := by
 intro c y hc
 have := (hs.lt c y hc).1
 simp only [upd]
 rw [if_neg (by omega)]
 exact hc
theorem Step.alloc {k : Blk} {ob : Obj} {e d : Nat} (hs : Sim P φ σ w) (hr : BR (upd φ σ.size ⟨w.heap.size, 0, e⟩) k ob ⟨w.heap.size, 0, e⟩) :
  Step P φ σ w (upd φ σ.size ⟨w.heap.size, 0, e⟩) (σ.push k) { w with heap := w.heap.push ob, drawn := d } := by
 have hext := upd_ext (x := ⟨w.heap.size, 0, e⟩) hs (Nat.le_refl σ.size)
 have inv : ∀ c y, upd φ σ.size ⟨w.heap.size, 0, e⟩ c = some y → (c = σ.size ∧ y = ⟨w.heap.size, 0, e⟩) ∨ (c < σ.size ∧ y.r < w.heap.size ∧ φ c = some y) := by
  intro c y hc
  simp only [upd] at hc
  split at hc
  ·rename_i h; injection hc with hc; exact .inl ⟨h, hc.symm⟩
  ·exact .inr ⟨(hs.lt c y hc).1, (hs.lt c y hc).2, hc⟩
 have hold : ∀ c, c < σ.size → (σ.push k)[c]? = σ[c]? := fun c hc => by rw [Array.getElem?_push, if_neg (by omega)]
 have wold : ∀ r, r < w.heap.size → (w.heap.push ob)[r]? = w.heap[r]? := fun r hr => by rw [Array.getElem?_push, if_neg (by omega)]
 refine ⟨⟨fun c y q hy hq hql => ?_, fun c c' y y' q q' hy hy' hr' hq hq' hql hql' => ?_, fun c y hy => ?_, fun g hg => ?_⟩, fun c hc => ?_, by simp, fun c q hq => ?_, fun c hc hn => hold c hc, by simp, fun r hr2 _ => wold r hr2, fun c y hc hy hlt => ?_, rfl, rfl, rfl, fun r hr2 => (wold r (Array.getElem?_eq_some_iff.1 hr2).1).trans hr2⟩
 ·rcases inv c y hy with ⟨rfl, rfl⟩ | ⟨h1, h2, h3⟩
  ·simp at hq
   subst hq
   exact ⟨ob, by simp, hr⟩
  ·rw [hold c h1] at hq
   obtain ⟨o2, g1, g2⟩ := hs.blk c y q h3 hq hql
   exact ⟨o2, (wold _ h2).trans g1, g2.mono hext⟩
 ·rcases inv c y hy with ⟨rfl, rfl⟩ | ⟨h1, h2, h3⟩ <;> rcases inv c' y' hy' with ⟨rfl, rfl⟩ | ⟨h1', h2', h3'⟩
  ·rfl
  ·simp only at hr'; omega
  ·simp only at hr'; omega
  ·rw [hold c h1] at hq
   rw [hold c' h1'] at hq'
   exact hs.inj c c' y y' q q' h3 h3' hr' hq hq' hql hql'
 ·rcases inv c y hy with ⟨rfl, rfl⟩ | ⟨h1, h2, h3⟩
  ·simp
  ·simp; omega
 ·obtain ⟨e1, he⟩ := hs.glob g hg
  exact ⟨e1, hext _ _ he⟩
 ·simp only [upd]; rw [if_neg (by omega)]
 ·exact ⟨q, by rw [hold c (Array.getElem?_eq_some_iff.1 hq).1]; exact hq, Blk.le_refl _⟩
 ·rcases inv c y hy with ⟨rfl, rfl⟩ | ⟨h1, h2, h3⟩
  ·simp at hlt
  ·omega
theorem Step.over {b : Nat} {x : Loc} {k k0 : Blk} {ob ob' : Obj} {o e' : Nat} (hs : Sim P φ σ w) (hx : φ b = some x) (hb : σ[b]? = some k0) (hl : k0.live) (ho : w.heap[x.r]? = some ob)
  (hr : BR (upd φ σ.size ⟨x.r, o, e'⟩) k ob' ⟨x.r, o, e'⟩) :
  Step P φ σ w (upd φ σ.size ⟨x.r, o, e'⟩) ((σ.setIfInBounds b .dead).push k) (setO w x.r ob') := by
 have hlt : b < σ.size := (hs.lt b x hx).1
 have hext := upd_ext (x := ⟨x.r, o, e'⟩) hs (Nat.le_refl σ.size)
 have inv : ∀ c y, upd φ σ.size ⟨x.r, o, e'⟩ c = some y → (c = σ.size ∧ y = ⟨x.r, o, e'⟩) ∨ (c < σ.size ∧ y.r < w.heap.size ∧ φ c = some y) := by
  intro c y hc
  simp only [upd] at hc
  split at hc
  ·rename_i h; injection hc with hc; exact .inl ⟨h, hc.symm⟩
  ·exact .inr ⟨(hs.lt c y hc).1, (hs.lt c y hc).2, hc⟩
 have hold : ∀ c, c < σ.size → c ≠ b → ((σ.setIfInBounds b .dead).push k)[c]? = σ[c]? := fun c hc hcb => by
  rw [Array.getElem?_push, if_neg (by simp; omega), Array.getElem?_setIfInBounds_ne (Ne.symm hcb)]
 have hdead : ((σ.setIfInBounds b .dead).push k)[b]? = some .dead := by
  rw [Array.getElem?_push, if_neg (by simp; omega)]; simp [hlt]
 have alive : ∀ (c : Nat) (q : Blk), c < σ.size → ((σ.setIfInBounds b .dead).push k)[c]? = some q → q.live → c ≠ b ∧ σ[c]? = some q := by
  intro c q hc hq hql
  by_cases hcb : c = b
  ·subst hcb; rw [hdead] at hq; injection hq with hq; subst hq; exact hql.elim
  ·exact ⟨hcb, by rw [← hold c hc hcb]; exact hq⟩
 refine ⟨⟨fun c y q hy hq hql => ?_, fun c c' y y' q q' hy hy' hr' hq hq' hql hql' => ?_, fun c y hy => ?_, fun g hg => ?_⟩, fun c hc => ?_, by simp, fun c q hq => ?_, fun c hc hn => ?_, by simp [setO], fun r hr2 hh => ?_, fun c y hc hy hlt2 => ?_, rfl, rfl, rfl, fun r hr2 => (setO_other (fun e => by
  subst e
  obtain ⟨o2, h1, h2⟩ := hs.blk b x k0 hx hb hl
  rw [hr2] at h1
  injection h1 with h1
  exact h2.notDef h1.symm)).trans hr2⟩
 ·rcases inv c y hy with ⟨rfl, rfl⟩ | ⟨h1, h2, h3⟩
  ·rw [show ((σ.setIfInBounds b .dead).push k)[σ.size]? = some k from by rw [Array.getElem?_push]; simp] at hq
   injection hq with hq
   subst hq
   exact ⟨ob', setO_same ho, hr⟩
  ·obtain ⟨hcb, hq'⟩ := alive c q h1 hq hql
   obtain ⟨o2, g1, g2⟩ := hs.blk c y q h3 hq' hql
   refine ⟨o2, ?_, g2.mono hext⟩
   rw [setO_other (fun e => hcb (hs.inj c b y x q k0 h3 hx e hq' hb hql hl))]
   exact g1
 ·rcases inv c y hy with ⟨rfl, rfl⟩ | ⟨h1, h2, h3⟩ <;> rcases inv c' y' hy' with ⟨rfl, rfl⟩ | ⟨h1', h2', h3'⟩
  ·rfl
  ·obtain ⟨hcb, hq2⟩ := alive c' q' h1' hq' hql'
   exact absurd (hs.inj c' b y' x q' k0 h3' hx hr'.symm hq2 hb hql' hl) hcb
  ·obtain ⟨hcb, hq2⟩ := alive c q h1 hq hql
   exact absurd (hs.inj c b y x q k0 h3 hx hr' hq2 hb hql hl) hcb
  ·obtain ⟨_, hq2⟩ := alive c q h1 hq hql
   obtain ⟨_, hq2'⟩ := alive c' q' h1' hq' hql'
   exact hs.inj c c' y y' q q' h3 h3' hr' hq2 hq2' hql hql'
 ·rcases inv c y hy with ⟨rfl, rfl⟩ | ⟨h1, h2, h3⟩
  ·exact ⟨by simp, by simpa [setO] using (hs.lt b x hx).2⟩
  ·exact ⟨by simp; omega, by simpa [setO] using h2⟩
 ·obtain ⟨e1, he⟩ := hs.glob g hg
  exact ⟨e1, hext _ _ he⟩
 ·simp only [upd]; rw [if_neg (by omega)]
 ·by_cases hcb : c = b
  ·subst hcb; exact ⟨.dead, hdead, Blk.le_dead _⟩
  ·exact ⟨q, by rw [hold c (Array.getElem?_eq_some_iff.1 hq).1 hcb]; exact hq, Blk.le_refl _⟩
 ·exact hold c hc (fun e => by subst e; rw [hx] at hn; cases hn)
 ·refine setO_other (fun e => ?_)
  subst e
  have := hh b x hx rfl
  rw [hdead, hb] at this
  injection this with this
  subst this
  exact hl
 ·rcases inv c y hy with ⟨rfl, rfl⟩ | ⟨h1, h2, h3⟩
  ·refine ⟨b, x, hx, rfl, fun e => ?_⟩
   rw [hdead, hb] at e
   injection e with e
   subst e
   exact hl
  ·omega
theorem Step.kill {b : Nat} {x : Loc} (hs : Sim P φ σ w) (hx : φ b = some x) : Step P φ σ w φ (σ.setIfInBounds b .dead) w := by
 have hlt : b < σ.size := (hs.lt b x hx).1
 have at_b : (σ.setIfInBounds b .dead)[b]? = some .dead := by simp [hlt]
 have at_o : ∀ c, c ≠ b → (σ.setIfInBounds b .dead)[c]? = σ[c]? := fun c hc => Array.getElem?_setIfInBounds_ne (Ne.symm hc)
 have alive : ∀ (c : Nat) (q : Blk), (σ.setIfInBounds b .dead)[c]? = some q → q.live → σ[c]? = some q := by
  intro c q hq hql
  by_cases hc : c = b
  ·subst hc; rw [at_b] at hq; injection hq with hq; subst hq; exact hql.elim
  ·rw [← at_o c hc]; exact hq
 refine ⟨⟨fun c y q hy hq hql => hs.blk c y q hy (alive c q hq hql) hql, fun c c' y y' q q' hy hy' hr' hq hq' hql hql' => hs.inj c c' y y' q q' hy hy' hr' (alive _ _ hq hql) (alive _ _ hq' hql') hql hql',
  fun c y hy => by simpa using hs.lt c y hy, hs.glob⟩, fun _ _ => rfl, by simp, fun c q hq => ?_, fun c hc hn => at_o c (fun e => by subst e; rw [hx] at hn; cases hn), Nat.le_refl _, fun _ _ _ => rfl, fun c y hc hy _ => absurd (hs.lt c y hy).1 (by omega), rfl, rfl, rfl, fun _ h => h⟩
 by_cases hc : c = b
 ·subst hc; exact ⟨.dead, at_b, Blk.le_dead _⟩
 ·exact ⟨q, by rw [at_o c hc]; exact hq, Blk.le_refl _⟩
end
section
variable {P : Program} {φ : Emb} {σ : H} {w : World} {ρ : Operand → Option Value} {ρ' : Operand → Value}
theorem slice_at {a a' : Addr} {n c c' k : Nat} (hs : SlR φ a a' n c c') (h : k ≠ 0 → n ≠ 0) : k ≠ 0 → ∃ x, φ a.block = some x ∧ a' = ⟨x.r, x.o + a.off, none⟩ := by
 intro hk
 obtain ⟨_, x, h1, h2, _⟩ := hs.at_ (by have := h hk; have := hs.len; have := hs.low; omega)
 exact ⟨x, h1, h2⟩
theorem bytesOf_push {g : Value → ByteArray → Sem (ForInStep ByteArray)} (hg : ∀ n s, g (.int .u8 n) s = pure (ForInStep.yield (s.push (UInt8.ofNat n.toNat)))) :
  ∀ {l : List Value} {bs : List UInt8}, bytesOf l = some bs → ∀ (s : ByteArray) (w : World), (forIn l s g).run P w = .ok ⟨s.data ++ bs.toArray⟩ w
 |[], bs, h, s, w => by simp only [bytesOf, Option.some.injEq] at h; subst h; simp
 |v :: l, bs, h, s, w => by
  unfold bytesOf at h
  split at h
  ·rename_i he; cases he
  ·rename_i n r he
   injection he with h1 h2
   subst h1; subst h2
   simp only [Option.map_eq_some_iff] at h
   obtain ⟨bs', hb, rfl⟩ := h
   rw [List.forIn_cons, hg]
   simp only [pure_bind]
   rw [bytesOf_push hg hb]
   congr 1
   simp [ByteArray.push]
  ·cases h
theorem bytesOf_VR : ∀ {l l' : List Value} {bs : List UInt8}, bytesOf l = some bs → VRs φ l.toArray l'.toArray → l' = l := by
 intro l l' bs h hv
 have key : ∀ (l : List Value) (bs : List UInt8), bytesOf l = some bs → ∀ v ∈ l, ∀ v', VR φ v v' → v' = v := by
  intro l
  induction l with
  |nil => intro bs _ v hv; cases hv
  |cons x l ih =>
   intro bs h v hv v' hvr
   unfold bytesOf at h
   split at h
   ·rename_i he; cases he
   ·rename_i n r he
    injection he with h1 h2
    subst h1; subst h2
    simp only [Option.map_eq_some_iff] at h
    obtain ⟨bs', hb, _⟩ := h
    rcases List.mem_cons.1 hv with rfl | hv
    ·exact hvr.int_inv
    ·exact ih bs' hb v hv v' hvr
   ·cases h
 have hlen : l.length = l'.length := by have := hv.1; simpa using this
 refine List.ext_getElem hlen.symm (fun i h1 h2 => ?_)
 have := hv.2 i (by simpa using h2) (by simpa using h1)
 exact key l bs h _ (by simp) _ (by simpa using this)
def LeafD : Leaf → TypeDesc → Prop
 |.int k, d => d = .int k
 |.bool, d => d = .bool
 |.string, d => d = .string
def FR (φ : Emb) : Option (Nat × Value) → Option (Nat × Value) → Prop
 |none, none => True
 |some p, some q => p.1 = q.1 ∧ VR φ p.2 q.2
 |_, _ => False
theorem findK_sound {d : TypeDesc} {lf : Leaf} (hd : LeafD lf d) {k : Value} (hk : lf.fits k = true) :
  ∀ {es es' : List MapEntry} {i : Nat} {r : Option (Nat × Value)}, es.length = es'.length → (∀ (j : Nat) (e : MapEntry), es[j]? = some e → ∃ e', es'[j]? = some e' ∧ ER1 φ e e') → findK k es i = some r →
  ∃ r', Instr.findNow d k es' i = some r' ∧ FR φ r r'
 |[], [], i, r, _, _, h => by simp only [findK, Option.some.injEq] at h; subst h; exact ⟨none, by simp [Instr.findNow], trivial⟩
 |[], _ :: _, _, _, hl, _, _ => by simp at hl
 |_ :: _, [], _, _, hl, _, _ => by simp at hl
 |e :: es, e' :: es', i, r, hl, he, h => by
  obtain ⟨e2, g1, g2⟩ := he 0 e rfl
  injection g1 with g1
  subst g1
  have hsame : ∀ b, leafEq k e.key = some b → Instr.sameNow d k e'.key = some b := by
   intro b hb
   have hkv := g2.key
   generalize e.key = q at hb hkv
   generalize e'.key = q' at hkv
   cases lf <;> cases k <;> simp [Leaf.fits] at hk <;> cases q <;> simp [leafEq] at hb
   ·obtain ⟨rfl, rfl⟩ := hb
    rw [hkv.int_inv]
    simp only [LeafD] at hd
    subst hd
    simp [Instr.sameNow]; rfl
   ·subst hb; rw [hkv.bool_inv]; simp only [LeafD] at hd; subst hd; simp [Instr.sameNow]; rfl
   ·subst hb; rw [hkv.string_inv]; simp only [LeafD] at hd; subst hd; simp [Instr.sameNow, beq_toListBytes, decide_toList]
  unfold findK at h
  unfold Instr.findNow
  split at h
  ·rename_i hb
   injection h with h
   subst h
   rw [hsame _ hb]
   exact ⟨some (i, e'.val), rfl, rfl, g2.val⟩
  ·rename_i hb
   rw [hsame _ hb]
   exact findK_sound hd hk (by simpa using hl) (fun j q hq => he (j + 1) q hq) h
  ·cases h
def ES (φ : Emb) (es es' : Array MapEntry) : Prop := es.size = es'.size ∧ ∀ (j : Nat) (e : MapEntry), es[j]? = some e → ∃ e', es'[j]? = some e' ∧ ER1 φ e e'
theorem ES.of {es es' : Array MapEntry} (hs : es.size = es'.size) (h : ∀ (i : Nat) (h : i < es.size) (h' : i < es'.size), ER1 φ es[i] es'[i]) : ES φ es es' := by
 refine ⟨hs, fun j e he => ?_⟩
 obtain ⟨h1, rfl⟩ := Array.getElem?_eq_some_iff.1 he
 exact ⟨es'[j], by simp [hs ▸ h1], h j h1 (hs ▸ h1)⟩
theorem ES.to {es es' : Array MapEntry} (h : ES φ es es') : ∀ (i : Nat) (h : i < es.size) (h' : i < es'.size), ER1 φ es[i] es'[i] := by
 intro i h1 h2
 obtain ⟨e', g1, g2⟩ := h.2 i es[i] (by simp [h1])
 rw [Array.getElem?_eq_getElem h2] at g1
 injection g1 with g1
 rw [g1]; exact g2
theorem map_of {b : Nat} {x : Loc} {ver clock : Nat} {es : Array MapEntry} (hs : Sim P φ σ w) (hx : φ b = some x) (hb : σ[b]? = some (.map ver es clock)) :
  ∃ es', w.heap[x.r]? = some (.map es' clock) ∧ ES φ es es' := by
 obtain ⟨ob, h1, h2⟩ := hs.blk b x _ hx hb trivial
 cases h2 with
 |map _ _ es' _ _ h3 h4 => exact ⟨es', h1, ES.of h3 h4⟩
theorem mapOf_sound {x x' : Value} {es : Array MapEntry} (hs : Sim P φ σ w) (h : mapOf σ x = some es) (hx : VR φ x x') :
  ∃ es', ES φ es es' ∧ ((x' = .map none ∧ es' = #[]) ∨ ∃ r clock, x' = .map (some r) ∧ (getObj r).run P w = .ok (.map es' clock) w) := by
 unfold mapOf at h
 split at h
 ·injection h with h; subst h; cases hx; exact ⟨#[], ⟨rfl, fun j e he => by simp at he⟩, .inl ⟨rfl, rfl⟩⟩
 ·split at h
  ·rename_i b ver es1 clock hb
   injection h with h; subst h
   cases hx with
   |map _ y hy =>
    obtain ⟨es', h1, h2⟩ := map_of hs hy hb
    exact ⟨es', h2, .inr ⟨y.r, clock, rfl, by simp [getObj, Sem.run, h1]⟩⟩
  ·cases h
 ·cases h
theorem leaf_under {t : TypeId} {lf : Leaf} (h : oneLeaf P t = some lf) : ∃ d, P.underlying t = some d ∧ LeafD lf d := by
 unfold oneLeaf at h
 split at h <;> first | (injection h with h; subst h; exact ⟨_, ‹_›, rfl⟩) | cases h
theorem run_checkKey {t : TypeId} {lf : Leaf} {k : Value} (b : Bool) (n : Nat) (h : oneLeaf P t = some lf) : (Instr.checkKey b (n + 1) t k).run P w = .ok () w := by
 obtain ⟨d, h1, h2⟩ := leaf_under h
 cases lf <;> simp only [LeafD] at h2 <;> subst h2 <;> simp [Instr.checkKey, run_underlying h1]
theorem fits_same {lf : Leaf} {k k' : Value} (h : lf.fits k = true) (hk : VR φ k k') : k' = k := by
 cases lf <;> cases k <;> simp [Leaf.fits] at h <;> cases hk <;> rfl
theorem run_findKey {t : TypeId} {lf : Leaf} {k : Value} {es es' : Array MapEntry} {r : Option (Nat × Value)} (h : oneLeaf P t = some lf) (hk : lf.fits k = true) (he : ES φ es es') (hr : findK k es.toList 0 = some r) :
  ∃ r', (Instr.findKey t k es'.toList).run P w = .ok r' w ∧ FR φ r r' := by
 obtain ⟨d, h1, h2⟩ := leaf_under h
 obtain ⟨r', g1, g2⟩ := findK_sound (φ := φ) h2 hk (es' := es'.toList) (by simpa using he.1) (fun j e hj => by simpa using he.2 j e (by simpa using hj)) hr
 exact ⟨r', by simp [Instr.findKey, run_underlying h1, g1], g2⟩
theorem lookup_sound {t kt e : TypeId} {lf : Leaf} {z x k x' k' v : Value} {ok : Bool} (hs : Sim P φ σ w) (hu : P.underlying t = some (.map kt e)) (hl : oneLeaf P kt = some lf) (hz : zeroOf P e = some z) (hc : constOk z = true)
  (h : lookupV lf z ok x k σ = some v) (hx : VR φ x x') (hk : VR φ k k') : ∃ v', (Instr.lookup t x' k' ok).run P w = .ok v' w ∧ VR φ v v' := by
 unfold lookupV at h
 split at h
 ·cases h
 ·rename_i es hm
  obtain ⟨es', he, hx'⟩ := mapOf_sound hs hm hx
  split at h
  ·rename_i hf
   have hkk := fits_same hf hk
   subst hkk
   have hzv : (zeroValue e).run P w = .ok z w := by
    unfold zeroOf at hz
    cases hi : P.info? e with
    |none => simp [hi] at hz
    |some i =>
     simp only [hi, Option.bind_some] at hz
     simp [zeroValue, typeInfo, hi, hz]
   have hz2 := VR.constOk (φ := φ) hc
   have fin : ∀ (r : Option (Nat × Value)), findK k' es.toList 0 = some r → ∃ r', (Instr.findKey kt k' es'.toList).run P w = .ok r' w ∧ FR φ r r' :=
    fun r hr => run_findKey hl hf he hr
   have get : ∀ (r' : Option (Nat × Value)), (Instr.findKey kt k' es'.toList).run P w = .ok r' w →
     (Instr.lookup t x' k' ok).run P w = .ok (match r' with | some (_, v) => if ok then .tuple #[v, .bool true] else v | none => if ok then .tuple #[z, .bool false] else z) w := by
    intro r' hr'
    rcases hx' with ⟨rfl, rfl⟩ | ⟨r, clock, rfl, hg⟩
    ·simp only [Instr.lookup, Sem.run_bind, run_underlying hu, Result.andThen_ok, Sem.run_pure, run_checkKey (P := P) (w := w) _ 9999 hl, hr']
     cases r' with
     |none => simp [hzv]
     |some q => obtain ⟨j, u⟩ := q; simp
    ·simp only [Instr.lookup, Sem.run_bind, run_underlying hu, Result.andThen_ok, Sem.run_pure, hg, run_checkKey (P := P) (w := w) _ 9999 hl, hr']
     cases r' with
     |none => simp [hzv]
     |some q => obtain ⟨j, u⟩ := q; simp
   have two : ∀ (u u' : Value) (b : Bool), VR φ u u' → VR φ (if ok then .tuple #[u, .bool b] else u) (if ok then .tuple #[u', .bool b] else u') := by
    intro u u' b huu
    cases ok
    ·exact huu
    ·refine VR.tuples ⟨rfl, fun i h1 h2 => ?_⟩
     rcases i with _ | _ | i
     ·exact huu
     ·exact .bool b
     ·simp at h1; omega
   split at h
   ·cases h
   ·rename_i hr
    obtain ⟨r', g1, g2⟩ := fin _ hr
    cases r' with
    |some q => exact g2.elim
    |none =>
     injection h with h; subst h
     exact ⟨_, get _ g1, two _ _ _ hz2⟩
   ·rename_i j u hr
    obtain ⟨r', g1, g2⟩ := fin _ hr
    cases r' with
    |none => exact g2.elim
    |some q =>
     obtain ⟨j', u'⟩ := q
     injection h with h; subst h
     exact ⟨_, get _ g1, two _ _ _ g2.2⟩
  ·cases h
theorem entryV_sound {x x' v : Value} (hs : Sim P φ σ w) (h : entryV x σ = some v) (hx : VR φ x x') : ∃ v', (Instr.entry x').run P w = .ok v' w ∧ VR φ v v' := by
 unfold entryV at h
 split at h
 case h_2 => cases h
 rename_i r
 obtain ⟨y, hy, hx', rfl⟩ := hx.ptr_inv
 split at h
 case h_2 => cases h
 rename_i ver b since seen stepped hr
 split at h
 case h_2 => cases h
 rename_i stamp ver2 es clock hst hb
 split at h
 case isFalse => cases h
 rename_i hc
 subst hc
 simp only [Option.map_eq_some_iff] at h
 obtain ⟨e, he0, rfl⟩ := h
 obtain ⟨ob, h1, h2⟩ := hs.blk r y _ hy hr trivial
 cases h2 with
 |miter _ _ z _ _ _ _ hz h0 =>
  obtain ⟨es', g1, he⟩ := map_of hs hz hb
  have hget : (getObj y.r).run P w = .ok (.mapIter (some z.r) since seen clock) w := by simp [getObj, Sem.run, h1]
  have hget2 : (getObj z.r).run P w = .ok (.map es' clock) w := by simp [getObj, Sem.run, g1]
  rw [List.find?_eq_some_iff_getElem] at he0
  obtain ⟨hp, j, hj, hje, hbef⟩ := he0
  have hj' : j < es'.size := by rw [← he.1]; simpa using hj
  obtain ⟨e', k1, k2⟩ := he.2 j e (by rw [← hje]; simp)
  have hf : es'.find? (·.born == stamp) = some e' := by
   rw [← Array.find?_toList, List.find?_eq_some_iff_getElem]
   refine ⟨by rw [k2.born]; exact hp, j, by simpa using hj', ?_, fun i hi => ?_⟩
   ·have hk : es'[j]? = some es'[j] := Array.getElem?_eq_getElem hj'
    have := hk.symm.trans k1
    simpa using this
   ·have hi1 : i < es.size := by have := hj; simp at this; omega
    obtain ⟨e2, m1, m2⟩ := he.2 i es[i] (by simp [hi1])
    have hi2 : i < es'.size := by omega
    have m1 : es'[i] = e2 := Option.some.inj ((Array.getElem?_eq_getElem hi2).symm.trans m1)
    have := hbef i hi
    simp only [Array.getElem_toList] at this ⊢
    rw [m1, m2.born]
    exact this
  refine ⟨.tuple #[e'.key, e'.val], ?_, ?_⟩
  ·simp [Instr.entry, h0, hget, hget2, hst, hf]
  ·refine VR.tuples ⟨rfl, fun i h1 h2 => ?_⟩
   match i, h1 with
   |0, _ => exact k2.key
   |1, _ => exact k2.val
theorem read_sound {o : Oper} {f : H → Option Value} {v : Value} (hs : Sim P φ σ w) (hρ : OR P φ ρ ρ') (h : (trOp P o.op).den ρ = .read f) (hf : f σ = some v) : Gives P φ w (execOp ρ' o) v := by
 obtain ⟨dst, op, type, pos, after, guard⟩ := o
 simp only at h
 unfold trOp at h
 split at h
 case isFalse => simp [A.den] at h
 rename_i hop
 have mem : ∀ x ∈ op.operands, ∀ v, ρ x = some v → VR φ v (ρ' x) := fun x hx v hv => hρ.1 x v ((Array.all_eq_true_iff_forall_mem.1 hop) x hx) hv
 cases op <;> simp only [trOp1] at h
 case load t a =>
  split at h
  ·rename_i n hn
   simp only [A.den, Den.read.injEq] at h
   subst h
   split at hf
   ·rename_i ad ha
    obtain ⟨x, h1, h2, h3⟩ := (mem a (by simp [Op.operands]) _ ha).ptr_inv
    unfold shapeOf at hn
    unfold aggOf szOf at hn
    cases hu : P.underlying t with
    |none => simp [hu] at hn
    |some d =>
     cases hi : P.info? t with
     |none => cases d <;> simp [hu, hi] at hn
     |some i =>
      have agg : ∀ l : List Value, rdN σ ad i.size = some l → v = .agg l.toArray → isAgg t = isAgg t → (do if ← isAgg t then pure (Value.agg (← loadCells ⟨x.r, x.o + ad.off, none⟩ (← sizeOf t))) else load ⟨x.r, x.o + ad.off, none⟩ : Sem Value) = loadVar t ⟨x.r, x.o + ad.off, none⟩ →
        (isAgg t).run P w = .ok true w → Gives P φ w (execOp ρ' { dst := dst, op := .load t a, type := type, pos := pos, after := after, guard := guard }) v := by
       intro l hl hv _ hlv hag
       obtain ⟨l', e1, e2, _⟩ := rdN_sound (a' := ⟨x.r, x.o + ad.off, none⟩) hs hl (fun _ => ⟨x, h1, rfl⟩)
       subst hv
       refine gives_of ⟨.agg l'.toArray, ?_, VR.aggs e2⟩
       simp [Instr.loadAt, h3, Instr.sureAddr, loadVar, hag, sizeOf, typeInfo, hi, e1]
      have one : rd1 σ ad = some v → (isAgg t).run P w = .ok false w → Gives P φ w (execOp ρ' { dst := dst, op := .load t a, type := type, pos := pos, after := after, guard := guard }) v := by
       intro hl hag
       obtain ⟨v', e1, e2⟩ := rd1_sound hs h1 hl
       refine gives_of ⟨v', ?_, e2⟩
       simp [Instr.loadAt, h3, Instr.sureAddr, loadVar, hag, e1]
      cases d <;> simp only [hu, hi, Option.map_some, Option.some.injEq] at hn <;> subst hn
      case struct fs =>
       simp only [Option.map_eq_some_iff] at hf
       obtain ⟨l, hl, rfl⟩ := hf
       exact agg l hl rfl rfl rfl (by simp [isAgg, run_underlying hu])
      case array n e =>
       simp only [Option.map_eq_some_iff] at hf
       obtain ⟨l, hl, rfl⟩ := hf
       exact agg l hl rfl rfl rfl (by simp [isAgg, run_underlying hu])
      all_goals exact one hf (by simp [isAgg, run_underlying hu])
   ·cases hf
  ·simp [A.den] at h
 case convert s d x =>
  unfold trConv at h
  split at h
  ·simp [A.den] at h
  ·simp [A.den] at h
  ·split at h <;> simp [A.den] at h
  ·rename_i e hu1 hu2
   split at h
   ·rename_i hue'
    simp only [A.den, Den.read.injEq] at h
    subst h
    split at hf
    ·rename_i n c hx
     injection hf with hf
     subst hf
     have hx' := mem x (by simp [Op.operands]) _ hx
     generalize hq : ρ' x = q at hx'
     cases hx'
     refine gives_of ⟨.string .empty, ?_, .string _⟩
     simp [convert, run_underlying hu1, run_underlying hu2, hq, run_underlying hue', Conv.bytesToString]
    ·rename_i a n c hx
     obtain ⟨a', c', g1, hsl⟩ := (mem x (by simp [Op.operands]) _ hx).slice_inv
     simp only [Option.map_eq_some_iff, Option.bind_eq_some_iff] at hf
     obtain ⟨bs, ⟨l, hl, hb⟩, rfl⟩ := hf
     obtain ⟨l', e1, e2, _⟩ := rdN_sound hs hl (slice_at hsl id)
     have := bytesOf_VR hb e2
     subst this
     refine gives_of ⟨.string ⟨bs.toArray⟩, ?_, .string _⟩
     simp only [convert, Sem.run_bind, run_underlying hu1, run_underlying hu2, Result.andThen_ok, g1, run_underlying hue', Conv.bytesToString, e1]
     rw [List.forIn_toArray, bytesOf_push (fun _ _ => rfl) hb]
     simp
    ·cases hf
   ·simp [A.den] at h
  ·repeat' split at h
   all_goals simp [A.den] at h
  ·simp [A.den] at h
 case alloc t =>
  repeat' split at h
  all_goals simp [A.den] at h
 case build t ps =>
  repeat' split at h
  all_goals simp [A.den] at h
 case buildSlice t n ps =>
  repeat' split at h
  all_goals simp [A.den] at h
 case store t a x =>
  repeat' split at h
  all_goals simp [A.den] at h
 case binOp op t x y u =>
  have hq : ∀ neg, (trEq P neg t x y).den ρ = .read f → False := by
   intro neg hd
   unfold trEq at hd
   repeat' split at hd
   all_goals simp [A.den] at hd
  cases op <;> first
   |exact absurd h (fun h => hq _ h)
   |simp [A.den] at h
 case sliceToArrayPointer t x =>
  repeat' split at h
  all_goals simp [A.den] at h
 case makeFunc fn a b =>
  repeat' split at h
  all_goals simp [A.den] at h
 case makeMap t r =>
  repeat' split at h
  all_goals simp [A.den] at h
 case makeSlice t n c =>
  repeat' split at h
  all_goals simp [A.den] at h
 case slice t x lo hi mx =>
  repeat' split at h
  all_goals simp [A.den] at h
 case fieldAddr t x f =>
  repeat' split at h
  all_goals simp [A.den] at h
 case field t x f =>
  repeat' split at h
  all_goals simp [A.den] at h
 case indexAddr t x i =>
  repeat' split at h
  all_goals simp [A.den] at h
 case index t x i =>
  repeat' split at h
  all_goals simp [A.den] at h
 case mapUpdate t m k x =>
  repeat' split at h
  all_goals simp [A.den] at h
 case insert t m k x =>
  repeat' split at h
  all_goals simp [A.den] at h
 case lookup t x k ok =>
  split at h
  ·rename_i kt e hu
   split at h
   ·rename_i lf z hlf hz
    split at h
    ·rename_i hc
     simp only [A.den, Den.read.injEq] at h
     subst h
     split at hf
     ·rename_i xv kv hx hk
      exact gives_of (lookup_sound hs hu hlf hz hc hf (mem x (by simp [Op.operands]) _ hx) (mem k (by simp [Op.operands]) _ hk))
     ·cases hf
    ·simp [A.den] at h
   ·simp [A.den] at h
  ·simp [A.den] at h
 case call c =>
  split at h
  ·simp [A.den] at h
  ·rename_i b hcal
   obtain ⟨cal, args, ts⟩ := c
   simp only at hcal h
   subst hcal
   have hmem : ∀ x ∈ args.toList, ∀ v, ρ x = some v → VR φ v (ρ' x) := fun x hx v hv => mem x (by simp [Op.operands, Call.operands]; simpa using hx) v hv
   unfold trBuiltin at h
   split at h
   ·rename_i t tl x xl hts hxs
    have hargs : args = (x :: xl).toArray := by rw [← hxs]
    have htys : ts = (t :: tl).toArray := by rw [← hts]
    subst hargs; subst htys
    split at h
    ·simp [A.den] at h
    ·simp [A.den] at h
    ·simp [A.den] at h
    ·split at h <;> simp [A.den] at h
    ·rename_i kt e hu
     simp only [A.den, Den.read.injEq] at h
     subst h
     cases hx : ρ x with
     |none => simp [hx] at hf
     |some xv =>
      simp only [hx, Option.bind_some, Option.map_eq_some_iff] at hf
      obtain ⟨es, hes, rfl⟩ := hf
      obtain ⟨es', he, hx'⟩ := mapOf_sound hs hes (hmem x (by simp) _ hx)
      refine ⟨goInt es'.size, ?_, by rw [he.1]; exact .int _ _⟩
      simp only [execOp, resolve, invoke, builtin, Sem.run_bind, Sem.run_pure, Result.andThen_ok]
      rcases hx' with ⟨hx', rfl⟩ | ⟨r, clock, hx', hg⟩
      ·simp [Builtin.len_, run_underlying hu, hx']
      ·simp [Builtin.len_, run_underlying hu, hx', hg]
    ·simp [A.den] at h
   all_goals
    repeat' split at h
    all_goals simp [A.den] at h
  ·simp [A.den] at h
 case entry x =>
  simp only [A.den, Den.read.injEq] at h
  subst h
  simp only [Option.bind_eq_some_iff] at hf
  obtain ⟨xv, hx, hf⟩ := hf
  exact gives_of (entryV_sound hs hf (mem x (by simp [Op.operands]) _ hx))
 case range t x => split at h <;> simp [A.den] at h
 case next x s => split at h <;> simp [A.den] at h
 all_goals simp [A.den] at h
end
section
variable {P : Program} {φ : Emb} {σ : H} {w : World} {ρ : Operand → Option Value} {ρ' : Operand → Value}
def Makes (P : Program) (φ : Emb) (w : World) (s : Sem Next) (k : Blk) (mk : Nat → Value) : Prop :=
 ∃ ob d e v', s.run P w = .ok (.value v') { w with heap := w.heap.push ob, drawn := d } ∧
  ∀ (φ' : Emb) (n : Nat), (∀ b x, φ b = some x → φ' b = some x) → φ' n = some ⟨w.heap.size, 0, e⟩ → BR φ' k ob ⟨w.heap.size, 0, e⟩ ∧ VR φ' (mk n) v'
theorem BR.fresh {φ : Emb} {cs : List Value} {c : Array Value} {e : TypeId} {r m : Nat} (h : VRs φ cs.toArray c) (hm : m ≤ c.size) : BR φ (.cells 0 cs (0, 0)) (.cells c e) ⟨r, 0, m⟩ :=
 .cells _ _ _ _ _ _ _ (fun i v hv => by simpa using h.get (i := i) (by simpa using hv)) (fun i _ _ => by simp) hm (fun i _ _ => by simp)
theorem BR.spare {φ : Emb} {cs : List Value} {c d : Array Value} {e : TypeId} {fr : Nat × Nat} {r m : Nat} (h : VRs φ cs.toArray c) (hm : m ≤ c.size + d.size) (hf : fr.2 ≤ fr.1 ∨ m ≤ fr.1) (hl : cs.length ≤ m) :
  BR φ (.cells 0 cs (0, 0)) (.cells (c ++ d) e fr) ⟨r, 0, m⟩ := by
 refine .cells _ _ _ _ _ _ _ (fun i v hv => ?_) (fun i h1 _ => by simp; omega) (by simpa using hm) (fun i _ h2 => by simp at h2 ⊢; omega)
 obtain ⟨v', h1, h2⟩ := h.get (i := i) (v := v) (by simpa using hv)
 refine ⟨v', ?_, h2⟩
 have := (Array.getElem?_eq_some_iff.1 h1).1
 rw [Nat.zero_add, Array.getElem?_append_left this]
 exact h1
theorem makes_of {s : Sem Value} {k : Blk} {mk : Nat → Value} (h : ∃ ob d e v', s.run P w = .ok v' { w with heap := w.heap.push ob, drawn := d } ∧
  ∀ (φ' : Emb) (n : Nat), (∀ b x, φ b = some x → φ' b = some x) → φ' n = some ⟨w.heap.size, 0, e⟩ → BR φ' k ob ⟨w.heap.size, 0, e⟩ ∧ VR φ' (mk n) v') : Makes P φ w (do pure (.value (← s))) k mk := by
 obtain ⟨ob, d, e, v', h1, h2⟩ := h
 exact ⟨ob, d, e, v', by simp [h1], h2⟩
theorem makes_var {t : TypeId} {v v' : Value} (hv : VR φ v v') :
  ∃ ob d e u, ((do pure (.pointer (some (← newVar t v'))) : Sem Value)).run P w = .ok u { w with heap := w.heap.push ob, drawn := d } ∧
   ∀ (φ' : Emb) (n : Nat), (∀ b x, φ b = some x → φ' b = some x) → φ' n = some ⟨w.heap.size, 0, e⟩ → BR φ' (.cells 0 v.cells.toList (0, 0)) ob ⟨w.heap.size, 0, e⟩ ∧ VR φ' (.pointer (some ⟨n, 0, none⟩)) u := by
 refine ⟨.cells v'.cells t, w.drawn, 0, .pointer (some ⟨w.heap.size, 0, none⟩), by simp [newVar, newRow], fun φ' n hφ hn => ⟨BR.fresh (by simpa using (hv.mono hφ).cells) (Nat.zero_le _), ?_⟩⟩
 have := VR.ptr (φ := φ') n 0 _ hn
 simpa using this
theorem SlR.new {n m c r e : Nat} {φ : Emb} (hn : φ m = some ⟨r, 0, e⟩) (hlen : n ≤ c) (hc : c < big) : SlR φ ⟨m, 0, none⟩ ⟨r, 0, none⟩ n c c :=
 ⟨by rw [capLow_small hc]; exact hlen, fun h => absurd (csz_small hc) h, fun _ => rfl, Nat.le_of_eq (capLow_small hc), fun _ => ⟨rfl, _, hn, by simp, fun h => absurd (csz_small hc) h⟩⟩
theorem SlR.grown {n m c s r e o : Nat} {φ : Emb} (hn : φ m = some ⟨r, o, e⟩) (hlen : n ≤ c) (hb : n < big) (hs : 0 < s) (he : o + c * s ≤ e) : SlR φ ⟨m, 0, none⟩ ⟨r, o, none⟩ n (inex s n) c := by
 refine ⟨Nat.le_of_eq (capLow_inex hb).symm, fun _ => ⟨_, hn⟩, fun h => ?_, by rw [capLow_inex hb]; exact hlen, fun _ => ⟨rfl, _, hn, by simp, fun _ => by rw [csz_inex hb]; simpa using he⟩⟩
 rw [csz_inex hb] at h
 omega
theorem flatten_rep : ∀ (n : Nat) (z : List Value), (List.replicate n z).flatten = (List.range (n * z.length)).map fun i => (z[i % z.length]?).getD undef := by
 intro n z
 apply List.ext_getElem?
 intro i
 by_cases hi : i < n * z.length
 ·have hz : 0 < z.length := by
   rcases Nat.eq_zero_or_pos z.length with h | h
   ·rw [h] at hi; omega
   ·exact h
  have hlt : i % z.length < z.length := Nat.mod_lt _ hz
  simp only [List.getElem?_map, List.getElem?_range hi, Option.map_some, List.getElem?_eq_getElem hlt, Option.getD_some]
  induction n generalizing i with
  |zero => simp at hi
  |succ n ih =>
   simp only [List.replicate_succ, List.flatten_cons]
   by_cases h1 : i < z.length
   ·rw [List.getElem?_append_left h1]
    simp [Nat.mod_eq_of_lt h1, h1]
   ·rw [List.getElem?_append_right (by omega)]
    have e1 : (i - z.length) % z.length = i % z.length := by
     rw [← Nat.mod_eq_sub_mod (by omega)]
    have := ih (i - z.length) (by rw [Nat.add_mul, Nat.one_mul] at hi; omega) (by rw [e1]; exact hlt)
    rw [this]
    simp [e1]
 ·have h1 : (List.replicate n z).flatten.length = n * z.length := by simp
  rw [List.getElem?_eq_none (by omega), List.getElem?_eq_none (by simp; omega)]
theorem zeroArr {z : Array Value} {n m : Nat} (hm : m = n * z.size) : ((Array.range m).map fun i => z[i % z.size]!) = ((List.replicate n z.toList).flatten).toArray := by
 subst hm
 apply Array.ext_getElem?
 intro i
 rw [flatten_rep]
 by_cases hi : i < n * z.size
 ·have hz : 0 < z.size := by
   rcases Nat.eq_zero_or_pos z.size with h | h
   ·rw [h] at hi; omega
   ·exact h
  have hlt : i % z.size < z.size := Nat.mod_lt _ hz
  simp [hi, hlt]
 ·simp [hi]
theorem freeze_new (h : Array Obj) (c : Array Value) (e : TypeId) (n : Nat) (t : Nat → Question → Nat) (d : Nat) (os : Os) (out : Array (Nat × ByteArray)) :
  ({ heap := h.push (.cells c e), tape := t, drawn := d, os := os, output := out } : World).freeze { block := h.size, off := n } 1 = { heap := h.push (.cells c e (n, n + 1)), tape := t, drawn := d, os := os, output := out } := by
 unfold World.freeze
 rw [if_neg (by omega)]
 congr 1
 apply Array.ext_getElem?
 intro j
 rw [Array.getElem?_modify]
 by_cases hj : h.size = j
 ·subst hj; simp
 ·rw [if_neg hj, Array.getElem?_push, Array.getElem?_push, if_neg (Ne.symm hj), if_neg (Ne.symm hj)]
theorem alloc_sound {o : Oper} {k : Blk} {mk : Nat → Value} (hρ : OR P φ ρ ρ') (h : (trOp P o.op).den ρ = .alloc (some (k, mk))) : Makes P φ w (execOp ρ' o) k mk := by
 obtain ⟨dst, op, type, pos, after, guard⟩ := o
 simp only at h
 unfold trOp at h
 split at h
 case isFalse => simp [A.den] at h
 rename_i hop
 have mem : ∀ x ∈ op.operands, ∀ v, ρ x = some v → VR φ v (ρ' x) := fun x hx v hv => hρ.1 x v ((Array.all_eq_true_iff_forall_mem.1 hop) x hx) hv
 cases op <;> simp only [trOp1] at h
 case alloc t =>
  split at h
  ·rename_i z hz
   split at h
   ·rename_i hc
    simp only [A.den, Den.alloc.injEq, Option.some.injEq, Prod.mk.injEq] at h
    obtain ⟨rfl, rfl⟩ := h
    have hzv : (zeroValue t).run P w = .ok z w := by
     unfold zeroOf at hz
     cases hi : P.info? t with
     |none => simp [hi] at hz
     |some i =>
      simp only [hi, Option.bind_some] at hz
      simp [zeroValue, typeInfo, hi, hz]
    refine makes_of ?_
    obtain ⟨ob, d, e, u, h1, h2⟩ := makes_var (P := P) (w := w) (t := t) (VR.constOk (φ := φ) hc)
    refine ⟨ob, d, e, u, ?_, h2⟩
    simp only [Instr.alloc, Sem.run_bind, hzv, Result.andThen_ok]
    simpa using h1
   ·simp [A.den] at h
  ·simp [A.den] at h
 case box t x =>
  simp only [A.den, Den.alloc.injEq, Option.map_eq_some_iff] at h
  obtain ⟨v, hv, he⟩ := h
  injection he with h1 h2
  subst h1; subst h2
  exact makes_of (makes_var (mem x (by simp [Op.operands]) v hv))
 case build t ps =>
  repeat' split at h
  all_goals simp [A.den] at h
 case buildSlice t n ps =>
  have hps : ∀ p ∈ ps.toList, ∀ v, ρ p.2 = some v → VR φ v (ρ' p.2) := fun p hp v hv => mem p.2 (by simp [Op.operands]; exact ⟨p.1, by simpa using hp⟩) v hv
  split at h
  ·rename_i e hu
   split at h
   ·rename_i s z hs hz
    split at h
    ·rename_i hc
     obtain ⟨hc1, hc2, hc3⟩ := hc
     split at h
     ·rename_i l hl
      simp only [A.den, Den.alloc.injEq, Option.map_eq_some_iff] at h
      obtain ⟨r, hr, he⟩ := h
      injection he with h1 h2
      subst h1; subst h2
      have hz2 : ∃ za : Array Value, ((n * s = 0 ∧ za = #[]) ∨ (n * s ≠ 0 ∧ ∃ zv, (zeroValue e).run P w = .ok zv w ∧ za = zv.cells)) ∧ ((Array.range (n * s)).map fun i => za[i % za.size]!) = z.toArray ∧ VRs φ z.toArray z.toArray := by
       unfold zeroRow at hz
       split at hz
       ·rename_i h0
        injection hz with hz
        subst hz
        have h00 : n * s = 0 := by rw [h0]; simp
        exact ⟨#[], .inl ⟨h00, rfl⟩, by rw [h00]; simp, ⟨rfl, fun i h => by simp at h⟩⟩
       ·split at hz
        ·rename_i zv s' hzo hs'
         rw [hs] at hs'
         injection hs' with hs'
         subst hs'
         split at hz
         ·rename_i hcz
          injection hz with hz
          subst hz
          have hzv : (zeroValue e).run P w = .ok zv w := by
           unfold zeroOf at hzo
           cases hi : P.info? e with
           |none => simp [hi] at hzo
           |some i =>
            simp only [hi, Option.bind_some] at hzo
            simp [zeroValue, typeInfo, hi, hzo]
          have hcv := (VR.constOk (φ := φ) hcz.2).cells
          have hrefl : VRs φ ((List.replicate n zv.cells.toList).flatten).toArray ((List.replicate n zv.cells.toList).flatten).toArray := by
           refine VRs.of_get rfl (fun i v hv => ⟨v, hv, ?_⟩)
           have hm : v ∈ (List.replicate n zv.cells.toList).flatten := by
            have := List.mem_of_getElem? (by simpa using hv : ((List.replicate n zv.cells.toList).flatten)[i]? = some v)
            exact this
           obtain ⟨q, hq1, hq2⟩ := List.mem_flatten.1 hm
           have := List.eq_of_mem_replicate hq1
           subst this
           obtain ⟨j, hj, rfl⟩ := List.getElem_of_mem hq2
           have := hcv.2 j (by simpa using hj) (by simpa using hj)
           simpa using this
          by_cases h0 : n * s = 0
          ·refine ⟨#[], .inl ⟨h0, rfl⟩, ?_, hrefl⟩
           have : (List.replicate n zv.cells.toList).flatten = [] := List.eq_nil_of_length_eq_zero (by rw [hc3]; exact h0)
           simp [h0, this]
          ·exact ⟨zv.cells, .inr ⟨h0, zv, hzv, rfl⟩, zeroArr (by rw [hcz.1]), hrefl⟩
         ·cases hz
        ·cases hz
      obtain ⟨za, e1, e2, e3⟩ := hz2
      obtain ⟨r', g1, g2⟩ := fillL_sound (cells := z) hl hps e3 hr
      refine makes_of ⟨.cells r' e, w.drawn, 0, .slice (some ⟨w.heap.size, 0, none⟩) n n, ?_, fun φ' m hφ hm => ⟨BR.fresh (g2.mono hφ) (Nat.zero_le _), .slice _ _ _ _ _ (SlR.new hm (Nat.le_refl _) hc2)⟩⟩
      have g1' : Instr.fill (fun i => some (i * s, s)) (Array.map (fun i => za[i % za.size]!) (Array.range (n * s))) (Array.map (fun x => (x.fst, ρ' x.snd)) ps).toList = some r' := by
       rw [← g1, e2]; simp
      have g1'' : Instr.fill (fun i => some (i * s, s)) (Array.map (fun x => za[x % za.size]!) (Array.range (n * s))) (Array.map (fun x => match x with | (i, x) => (i, ρ' x)) ps).toList = some r' := g1'
      have hno : ¬ n * s > 2 ^ 24 := by omega
      simp only [Instr.buildSlice, Sem.run_bind, run_underlying hu, Result.andThen_ok, run_sizeOf' hs]
      rcases e1 with ⟨h0, rfl⟩ | ⟨h0, zv, hzv, rfl⟩
      ·simp only [if_neg hno, if_pos h0, pure_bind, g1'']
       simp [newRow]
      ·simp only [if_neg hno, if_neg h0, Sem.run_bind, hzv, Result.andThen_ok, Sem.run_pure, g1'']
       simp [newRow]
     ·simp [A.den] at h
    ·simp [A.den] at h
   ·simp [A.den] at h
  ·simp [A.den] at h
 case convert s d x =>
  unfold trConv at h
  split at h
  ·simp [A.den] at h
  ·simp [A.den] at h
  ·rename_i e hu1 hu2
   split at h
   ·rename_i hue
    simp only [A.den, Den.alloc.injEq] at h
    split at h
    ·rename_i st hx
     split at h
     ·rename_i hb
      injection h with h
      injection h with h1 h2
      subst h1; subst h2
      have hx' := (mem x (by simp [Op.operands]) _ hx).string_inv
      have hge := grownCap_ge w st.size 0 e
      refine makes_of ⟨.cells ((st.data.map fun b => Value.int .u8 b.toNat) ++ Array.replicate (grownCap w st.size 0 e - st.size) (.int .u8 0)) e (grownCap w st.size 0 e, grownCap w st.size 0 e + 1), w.drawn + 1, grownCap w st.size 0 e,
       .slice (some ⟨w.heap.size, 0, none⟩) st.size (grownCap w st.size 0 e), ?_, fun φ' m hφ hm => ⟨BR.spare ?_ ?_ (.inr (Nat.le_refl _)) ?_, .slice _ _ _ _ _ (SlR.grown hm hge hb Nat.one_pos (by omega))⟩⟩
      ·have hsz : st.data.size = st.size := rfl
       simp only [convert, Sem.run_bind, run_underlying hu1, run_underlying hu2, Result.andThen_ok, hx', run_underlying hue, Conv.stringToBytes, run_choose]
       simp only [Question.forced, Bool.false_eq_true, if_false, Result.andThen_ok]
       simp only [newRow, Sem.run_bind, run_newObj, Result.andThen_ok, Sem.run_pure, markStringish, run_shape, World.shape?]
       have hcut : (Question.appendCap st.size 0 e).cut (w.tape w.drawn (Question.appendCap st.size 0 e)) = grownCap w st.size 0 e := rfl
       have hsize : (Array.map (fun b : UInt8 => Value.int .u8 ↑b.toNat) st.data ++ Array.replicate (grownCap w st.size 0 e - st.size) (Value.int .u8 0)).size = grownCap w st.size 0 e := by
        simp only [Array.size_append, Array.size_map, Array.size_replicate, hsz]; omega
       simp only [hcut, Array.getElem?_push_size, hsize, run_freeze, Result.andThen_ok, freeze_new]
      ·refine VRs.of_get (by simp [byteCells]) (fun i v hv => ?_)
       simp only [byteCells, List.getElem?_toArray, List.getElem?_map, Option.map_eq_some_iff] at hv
       obtain ⟨b, hb1, rfl⟩ := hv
       exact ⟨.int .u8 b.toNat, by simp [by simpa using hb1], .int _ _⟩
      ·have hsz : st.data.size = st.size := rfl
       simp only [Array.size_map, Array.size_replicate, hsz]; omega
      ·simp only [byteCells, List.length_map, Array.length_toList]
       exact hge
     ·cases h
    ·cases h
   ·simp [A.den] at h
  ·split at h <;> simp [A.den] at h
  ·repeat' split at h
   all_goals simp [A.den] at h
  ·simp [A.den] at h
 case makeMap t r =>
  have done : ∀ kt e, P.underlying t = some (.map kt e) → (r = none ∨ ∃ k n, r = some (.const (.int k n))) →
    A.den ρ .makeMap = .alloc (some (k, mk)) → Makes P φ w (execOp ρ' { dst := dst, op := .makeMap t r, type := type, pos := pos, after := after, guard := guard }) k mk := by
   intro kt e hu hr hd
   simp only [A.den, Den.alloc.injEq, Option.some.injEq, Prod.mk.injEq] at hd
   obtain ⟨rfl, rfl⟩ := hd
   refine makes_of ⟨.map #[] 0, w.drawn, 0, .map (some w.heap.size), ?_, fun φ' m hφ hm => ⟨.map _ _ _ _ _ rfl (fun i h => by simp at h), .map _ _ hm⟩⟩
   rcases hr with rfl | ⟨k1, n1, rfl⟩
   ·simp [Instr.makeMap]
   ·simp [Instr.makeMap, run_underlying hu, hρ.2, asInt, asIntOf]
  split at h
  ·rename_i hu; exact done _ _ hu (.inl rfl) h
  ·rename_i hu; exact done _ _ hu (.inr ⟨_, _, rfl⟩) h
  ·simp [A.den] at h
 case makeSlice t n c =>
  split at h
  ·rename_i e hu
   split at h
   ·rename_i z s b hz hs hb
    split at h
    ·rename_i hc
     obtain ⟨hc1, hc2, hc3⟩ := hc
     simp only [A.den, Den.alloc.injEq] at h
     split at h
     ·rename_i nv cv hn hcp
      split at h
      ·rename_i hq
       obtain ⟨q1, q2, q3, q4⟩ := hq
       injection h with h
       injection h with h1 h2
       subst h1; subst h2
       have hn' := (mem n (by simp [Op.operands]) _ hn).int_inv
       have hc' := (mem c (by simp [Op.operands]) _ hcp).int_inv
       have hzv : ∃ i, P.info? e = some i ∧ i.zero = some z ∧ i.bytes = b := by
        unfold zeroOf at hz
        cases hi : P.info? e with
        |none => simp [hi] at hz
        |some i => exact ⟨i, rfl, by simpa [hi] using hz, by simpa [hi] using hb⟩
       obtain ⟨i, hi, hiz, hib⟩ := hzv
       have hcb : cv.toNat < big := by unfold big; omega
       have hcv := (VR.constOk (φ := φ) hc2).cells
       have hrefl : VRs φ ((List.replicate cv.toNat z.cells.toList).flatten).toArray ((List.replicate cv.toNat z.cells.toList).flatten).toArray := by
        refine VRs.of_get rfl (fun i v hv => ⟨v, hv, ?_⟩)
        have hm : v ∈ (List.replicate cv.toNat z.cells.toList).flatten := List.mem_of_getElem? (by simpa using hv : ((List.replicate cv.toNat z.cells.toList).flatten)[i]? = some v)
        obtain ⟨q, hq1, hq2⟩ := List.mem_flatten.1 hm
        have := List.eq_of_mem_replicate hq1
        subst this
        obtain ⟨j, hj, rfl⟩ := List.getElem_of_mem hq2
        have := hcv.2 j (by simpa using hj) (by simpa using hj)
        simpa using this
       refine makes_of ⟨.cells ((List.replicate cv.toNat z.cells.toList).flatten).toArray e, w.drawn, 0, .slice (some ⟨w.heap.size, 0, none⟩) nv.toNat cv.toNat, ?_, fun φ' m hφ hm => ⟨BR.fresh (hrefl.mono hφ) (Nat.zero_le _), .slice _ _ _ _ _ (SlR.new hm (by omega) hcb)⟩⟩
       have w1 : IntKind.i64.wrap nv = nv := by rw [IntKind.wrap_i64]; omega
       have w2 : IntKind.i64.wrap cv = cv := by rw [IntKind.wrap_i64]; omega
       have t1 : ¬ (decide (cv < 0) || decide ((b : Int) * cv > 2 ^ 48) || decide (nv < 0) || decide (nv > cv)) = true := by
        have h1 : ¬ cv < 0 := by omega
        have h2 : (b : Int) * cv ≤ 281474976710656 := by omega
        have h3 : ¬ nv < 0 := by omega
        have h4 : ¬ nv > cv := by omega
        simp [h1, h2, h3, h4]
       simp only [Instr.makeSlice, Sem.run_bind, run_underlying hu, Result.andThen_ok, hn', hc', asInt, asIntOf, Sem.run_pure, typeInfo, run_program, hi, w1, w2, hib]
       simp only [if_neg t1, Sem.run_bind, run_askRoom, Result.andThen_ok, run_sizeOf' hs]
       have hz2 := zeroArr (z := z.cells) (n := cv.toNat) (m := cv.toNat * s) (by rw [hc1])
       by_cases h0 : cv.toNat * s = 0
       ·simp only [if_pos h0, pure_bind, Sem.run_bind, newRow, run_newObj, Result.andThen_ok, Sem.run_pure]
        have e0 : (List.replicate cv.toNat z.cells.toList).flatten = [] := by
         refine List.eq_nil_of_length_eq_zero ?_
         rw [flatten_rep]
         simp only [List.length_map, List.length_range, Array.length_toList, hc1]
         exact h0
        simp [h0, e0, Array.range_zero']
       ·have hzv' : (zeroValue e).run P w = .ok z w := by simp [zeroValue, typeInfo, hi, hiz]
        simp only [if_neg h0, Sem.run_bind, hzv', newRow, run_newObj, Result.andThen_ok, Sem.run_pure, hz2]
      ·cases h
     ·cases h
    ·simp [A.den] at h
   ·simp [A.den] at h
  ·simp [A.den] at h
 case load t a =>
  repeat' split at h
  all_goals simp [A.den] at h
 case store t a x =>
  repeat' split at h
  all_goals simp [A.den] at h
 case binOp op t x y u =>
  have hq : ∀ neg, (trEq P neg t x y).den ρ = .alloc (some (k, mk)) → False := by
   intro neg hd
   unfold trEq at hd
   repeat' split at hd
   all_goals simp [A.den] at hd
  cases op <;> first
   |exact absurd h (fun h => hq _ h)
   |simp [A.den] at h
 case sliceToArrayPointer t x =>
  repeat' split at h
  all_goals simp [A.den] at h
 case makeFunc fn a b =>
  repeat' split at h
  all_goals simp [A.den] at h
 case slice t x lo hi mx =>
  repeat' split at h
  all_goals simp [A.den] at h
 case fieldAddr t x f =>
  repeat' split at h
  all_goals simp [A.den] at h
 case field t x f =>
  repeat' split at h
  all_goals simp [A.den] at h
 case indexAddr t x i =>
  repeat' split at h
  all_goals simp [A.den] at h
 case index t x i =>
  repeat' split at h
  all_goals simp [A.den] at h
 case lookup t x k ok =>
  repeat' split at h
  all_goals simp [A.den] at h
 case mapUpdate t m k x =>
  repeat' split at h
  all_goals simp [A.den] at h
 case insert t m k x =>
  repeat' split at h
  all_goals simp [A.den] at h
 case call c =>
  split at h
  ·simp [A.den] at h
  ·unfold trBuiltin at h
   repeat' split at h
   all_goals simp [A.den] at h
  ·simp [A.den] at h
 case range t x => split at h <;> simp [A.den] at h
 case next x s => split at h <;> simp [A.den] at h
 all_goals simp [A.den] at h
end
section
variable {P : Program} {φ : Emb} {σ : H} {w : World} {ρ : Operand → Option Value} {ρ' : Operand → Value}
def Does (P : Program) (φ : Emb) (σ : H) (w : World) (s : Sem Next) (v : Value) (σ' : H) : Prop :=
 ∃ nx v' φ' w', s.run P w = .ok nx w' ∧ (nx = .value v' ∨ (nx = .skip ∧ v' = undef)) ∧ VR φ' v v' ∧ Step P φ σ w φ' σ' w'
theorem does_val {s : Sem Value} {v : Value} {σ' : H} (h : ∃ v' φ' w', s.run P w = .ok v' w' ∧ VR φ' v v' ∧ Step P φ σ w φ' σ' w') : Does P φ σ w (do pure (.value (← s))) v σ' := by
 obtain ⟨v', φ', w', h1, h2, h3⟩ := h
 exact ⟨.value v', v', φ', w', by simp [h1], .inl rfl, h2, h3⟩
theorem does_unit {s : Sem Unit} {σ' : H} (h : ∃ w', s.run P w = .ok () w' ∧ Step P φ σ w φ σ' w') : Does P φ σ w (do s; pure .skip) undef σ' := by
 obtain ⟨w', h1, h3⟩ := h
 exact ⟨.skip, undef, φ, w', by simp [h1], .inr ⟨rfl, rfl⟩, VR.undef, h3⟩
theorem xcells_sound {size m : Nat} {x x' : Value} {l : List Value} (hs : Sim P φ σ w) (h : xcells σ size x = some (m, l)) (hx : VR φ x x') :
  (Builtin.lenOf x').run P w = .ok m w ∧ l.length = m * size ∧ ∃ l' : List Value, (Builtin.firstCells size m x').run P w = .ok l'.toArray w ∧ VRs φ l.toArray l'.toArray ∧
   ∀ k, k ≤ m → (Builtin.firstCells size k x').run P w = .ok (l'.take (k * size)).toArray w := by
 unfold xcells at h
 split at h
 ·rename_i s
  split at h
  ·rename_i h1
   subst h1
   injection h with h
   injection h with h1 h2
   subst h1; subst h2
   rw [hx.string_inv]
   have hr : VRs φ (byteCells s).toArray (byteCells s).toArray := by
    refine VRs.of_get rfl (fun i v hv => ⟨v, hv, ?_⟩)
    simp only [byteCells, List.getElem?_toArray, List.getElem?_map, Option.map_eq_some_iff] at hv
    obtain ⟨b, _, rfl⟩ := hv
    exact .int _ _
   have hk : ∀ k, (Builtin.firstCells 1 k (.string s)).run P w = .ok ((byteCells s).take k).toArray w := by
    intro k
    simp only [Builtin.firstCells, Sem.run_pure]
    congr 1
    apply Array.ext_getElem?
    intro i
    have : (s.extract 0 k).data = s.data.extract 0 k := ByteArray.data_extract
    rw [this]
    simp [byteCells, List.getElem?_take, Array.getElem?_extract]
    by_cases hi : i < s.size
    ·by_cases hk : i < k
     ·rw [if_pos (by omega), if_pos hk]
     ·rw [if_neg (by omega), if_neg hk]
    ·have : s.data[i]? = none := by rw [Array.getElem?_eq_none]; exact Nat.le_of_not_lt hi
     simp [this]
   refine ⟨rfl, by simp [byteCells], byteCells s, ?_, hr, fun k _ => by rw [Nat.mul_one]; exact hk k⟩
   rw [hk s.size]
   have : (byteCells s).length = s.size := by simp [byteCells]
   rw [List.take_of_length_le (by omega)]
  ·cases h
 ·rename_i n c
  split at h
  ·rename_i h0
   injection h with h
   injection h with h1 h2
   subst h1; subst h2; subst h0
   cases hx
   exact ⟨rfl, by simp, [], by simp [Builtin.firstCells], ⟨rfl, fun i h => by simp at h⟩, fun k hk => by simp [Builtin.firstCells]⟩
  ·cases h
 ·rename_i a n c
  simp only [Option.map_eq_some_iff, Prod.mk.injEq] at h
  obtain ⟨l0, hl, rfl, rfl⟩ := h
  obtain ⟨a', c', rfl, hsl⟩ := hx.slice_inv
  have hat := slice_at (k := n * size) hsl (fun h e => h (by rw [e]; simp))
  obtain ⟨l', e1, e2, e3⟩ := rdN_sound hs hl hat
  refine ⟨rfl, rdN_length hl, l', e1, e2, fun k hk => ?_⟩
  simp only [Builtin.firstCells]
  by_cases h0 : n * size = 0
  ·have hl' : l' = [] := List.eq_nil_of_length_eq_zero (by omega)
   have hk0 : k * size = 0 := by
    have : k * size ≤ n * size := Nat.mul_le_mul_right _ hk
    omega
   simp [hk0, hl', loadCells, loadCellsFrom]
  ·obtain ⟨x, hx1, rfl⟩ := hat h0
   obtain ⟨l2, g1, g2, g3⟩ := rdN_cells hs hx1 hl
   have hq : l' = l2 := by
    have := run_loadCells_list (P := P) w ⟨x.r, x.o + a.off, none⟩ l2 (fun j v hv => by rw [add_none _ _ rfl]; exact g3 j v hv)
    rw [g1, e1] at this
    injection this with this
    simpa using this
   subst hq
   have hkl : k * size ≤ n * size := Nat.mul_le_mul_right _ hk
   have hlen : (l'.take (k * size)).length = k * size := by simp; omega
   have := run_loadCells_list (P := P) w ⟨x.r, x.o + a.off, none⟩ (l'.take (k * size)) (fun j v hv => by
    rw [add_none _ _ rfl]
    rw [List.getElem?_take] at hv
    split at hv
    ·exact g3 j v hv
    ·cases hv)
   rw [hlen] at this
   exact this
 ·cases h
theorem store_sound {t : TypeId} {n : Nat} {a : Addr} {v a' v' : Value} {σ' : H} (hs : Sim P φ σ w) (ht : szOf P t = some n) (ha : VR φ (.pointer (some a)) a') (hv : VR φ v v') (hn : v.cells.size = n)
  (h : wrN σ a v.cells.toList = some σ') : ∃ w', (Instr.storeAt t a' v').run P w = .ok () w' ∧ Step P φ σ w φ σ' w' := by
 obtain ⟨x, h1, h2, rfl⟩ := ha.ptr_inv
 have hc := hv.cells
 obtain ⟨w', g1, g2⟩ := wrN_sound (a' := ⟨x.r, x.o + a.off, none⟩) (l' := v'.cells.toList) hs h (by simpa using hc) (fun _ => ⟨x, h1, rfl⟩)
 refine ⟨w', ?_, g2⟩
 have hsz : v'.cells.size = n := by rw [← hc.1]; exact hn
 simp [Instr.storeAt, Instr.sureAddr, storeVar, run_sizeOf' ht, hsz, g1]
def notInt (d : TypeDesc) : Prop := d = .string ∨ ∃ e, d = .slice e
theorem run_append_some {t t' ty e : TypeId} {size m len cap : Nat} {d' : TypeDesc} {x' : Value} {a : Addr} {new' : List Value} {w' : World} (hu : P.underlying t = some (.slice e)) (hd : P.underlying t' = some d') (hn : notInt d') (hz : szOf P e = some size)
  (hl : (Builtin.lenOf x').run P w = .ok m w) (hf : (Builtin.firstCells size m x').run P w = .ok new'.toArray w) (hle : len + m ≤ cap) (hst : (storeCells (a.add (len * size)) new').run P w = .ok () w') :
  (Builtin.append_ #[t, t'] ty #[.slice (some a) len cap, x']).run P w = .ok (.slice (some a) (len + m) cap) w' := by
 rcases hn with rfl | ⟨e', rfl⟩ <;> simp only [Builtin.append_, List.getElem?_toArray, List.getElem?_cons_zero, List.getElem?_cons_succ, Sem.run_bind, run_underlying hu, run_underlying hd, Result.andThen_ok, run_sizeOf' hz, Sem.run_pure, Bool.false_eq_true, Bool.not_false, if_true, if_false, hl, if_pos hle, hf, hst]
theorem run_append_none {t t' ty e : TypeId} {size : Nat} {d' : TypeDesc} {x' : Value} {c : Array Value} (hu : P.underlying t = some (.slice e)) (hd : P.underlying t' = some d') (hn : notInt d') (hz : szOf P e = some size)
  (hl : (Builtin.lenOf x').run P w = .ok 0 w) (hf : (Builtin.firstCells size 0 x').run P w = .ok c w) :
  (Builtin.append_ #[t, t'] ty #[.slice none 0 0, x']).run P w = .ok (.slice none 0 0) w := by
 rcases hn with rfl | ⟨e', rfl⟩ <;> simp only [Builtin.append_, List.getElem?_toArray, List.getElem?_cons_zero, List.getElem?_cons_succ, Sem.run_bind, run_underlying hu, run_underlying hd, Result.andThen_ok, run_sizeOf' hz, Sem.run_pure, Bool.false_eq_true, Bool.not_false, if_true, if_false, hl, Nat.add_zero, Nat.le_refl, hf]
theorem run_append_new {t t' ty e : TypeId} {size bytes m len cap : Nat} {d' : TypeDesc} {x' z : Value} {base : Option Addr} {old' new' : List Value} {i : TypeInfo} (hu : P.underlying t = some (.slice e)) (hd : P.underlying t' = some d') (hn : notInt d')
    (hi : P.info? e = some i) (his : i.size = size) (hib : i.bytes = bytes) (hiz : i.zero = some z)
    (hl : (Builtin.lenOf x').run P w = .ok m w) (hgt : cap < len + m) (hb : (len + m) * bytes ≤ 140737488355328) (h0 : 0 < bytes)
    (ho : (Builtin.firstCells size len (.slice base len cap)).run P w.drew = .ok old'.toArray w.drew) (hf : (Builtin.firstCells size m x').run P w.drew = .ok new'.toArray w.drew) :
    (Builtin.append_ #[t, t'] ty #[.slice base len cap, x']).run P w =
      .ok (.slice (some ⟨w.heap.size, 0, none⟩) (len + m) (grownCap w (len + m) cap e))
        { w with heap := w.heap.push (.cells (old'.toArray ++ new'.toArray ++ Builtin.zeroCells z.cells (grownCap w (len + m) cap e - (len + m))) e), drawn := w.drawn + 1 } := by
  have hn1 : ¬ (len + m ≤ cap) := by omega
  have hsm : len + m ≤ 140737488355328 := Nat.le_trans (Nat.le_mul_of_pos_right _ h0) hb
  have h63 : ¬ (9223372036854775807 < ((len : Int) + (m : Int))) := by omega
  have h48 : ¬ (281474976710656 < Builtin.nextslicecap (len + m) cap * i.bytes) := by rw [hib]; have := growslice_fits hgt hb; omega
  have hib0 : i.bytes ≠ 0 := by omega
  have hsz : szOf P e = some size := by simp [szOf, hi, his]
  have hti : (typeInfo e).run P w = .ok i w := by simp [typeInfo, hi]
  have htd : (typeInfo e).run P w.drew = .ok i w.drew := by simp [typeInfo, hi]
  have hzd : (zeroValue e).run P w.drew = .ok z w.drew := by simp [zeroValue, typeInfo, hi, hiz]
  have hcut : (Question.appendCap (len + m) cap e).cut (w.tape w.drawn (Question.appendCap (len + m) cap e)) = grownCap w (len + m) cap e := rfl
  have t2 : ¬ (Builtin.nextslicecap (len + m) cap * i.bytes > 2 ^ 48) := by omega
  rcases hn with rfl | ⟨e', rfl⟩ <;>
    (simp only [Builtin.append_, List.getElem?_toArray, List.getElem?_cons_zero, List.getElem?_cons_succ, Sem.run_bind, run_underlying hu, run_underlying hd, Result.andThen_ok, run_sizeOf' hsz, Sem.run_pure, Bool.false_eq_true, Bool.not_false, if_true, if_false, hl, if_neg hn1, hti]
     rw [if_neg (by simp only [IntKind.max_i64, false_or]; omega)]
     simp only [Sem.run_bind, hti, Result.andThen_ok, if_neg t2, run_choose, Question.forced, Bool.false_eq_true, if_false, hcut, World.drew_eq, htd, run_askRoom, ho, hf, hzd, newRow, run_newObj, Sem.run_pure]
     rfl)
theorem append_sound {t t' ty e : TypeId} {size bytes : Nat} {z s x v s' x' : Value} {σ' : H} (hs : Sim P φ σ w) (hu : P.underlying t = some (.slice e)) (hu' : (∃ e', P.underlying t' = some (.slice e')) ∨ P.underlying t' = some .string)
    (hz : szOf P e = some size) (hby : (P.info? e).map (·.bytes) = some bytes) (hze : zeroOf P e = some z) (hzs : z.cells.size = size) (hsz : 0 < size)
    (h : append size bytes s x σ = some (v, σ')) (hsv : VR φ s s') (hxv : VR φ x x') :
    ∃ v' φ' w', (Builtin.append_ #[t, t'] ty #[s', x']).run P w = .ok v' w' ∧ VR φ' v v' ∧ Step P φ σ w φ' σ' w' := by
  have hi : ∃ i, P.info? e = some i ∧ i.size = size ∧ i.bytes = bytes ∧ i.zero = some z := by
    obtain ⟨i, hi, h1⟩ := info_of_sz hz
    exact ⟨i, hi, h1, by simpa [hi] using hby, by simpa [zeroOf, hi] using hze⟩
  obtain ⟨i, hi, his, hib, hiz⟩ := hi
  have hut : ∃ d, P.underlying t' = some d ∧ notInt d := by
    rcases hu' with ⟨e', h1⟩ | h1
    · exact ⟨_, h1, .inr ⟨_, rfl⟩⟩
    · exact ⟨_, h1, .inl rfl⟩
  obtain ⟨d', hd', hdm⟩ := hut
  have hsd : Sim P φ σ w.drew := (Step.draw hs (w.drawn + 1)).sim
  unfold append at h
  split at h
  case h_2 => cases h
  rename_i base len cap
  split at h
  case h_1 => cases h
  rename_i m new hxc
  obtain ⟨hlen, hnl, new', hnew, hnewR, _⟩ := xcells_sound hs hxc hxv
  obtain ⟨_, _, new2, hnew2, hnewR2, _⟩ := xcells_sound hsd hxc hxv
  have hnl' : new'.length = m * size := by have := hnewR.1; simp at this; omega
  have hnl2 : new2.length = m * size := by have := hnewR2.1; simp at this; omega
  have hcomp : ∀ (n k : Nat), n ≤ 140737488355328 → n < big := fun n _ h => by unfold big; omega
  have row : ∀ (old old2 : List Value) (cap' : Nat), old.length = len * size → VRs φ old.toArray old2.toArray → (len + m) ≤ 140737488355328 →
      BR (upd φ σ.size ⟨w.heap.size, 0, grownCap w (len + m) cap' e * size⟩) (.cells 0 (old ++ new) (0, 0))
        (.cells (old2.toArray ++ new2.toArray ++ Builtin.zeroCells z.cells (grownCap w (len + m) cap' e - (len + m))) e) ⟨w.heap.size, 0, grownCap w (len + m) cap' e * size⟩ := by
    intro old old2 cap' ho hor hsm
    have hge := grownCap_ge w (len + m) cap' e
    have hext := upd_ext (x := ⟨w.heap.size, 0, grownCap w (len + m) cap' e * size⟩) hs (Nat.le_refl σ.size)
    have e1 : (Builtin.zeroCells z.cells (grownCap w (len + m) cap' e - (len + m))).size = (grownCap w (len + m) cap' e - (len + m)) * size := by rw [size_zeroCells, hzs]
    have e2 : (len + m) * size + (grownCap w (len + m) cap' e - (len + m)) * size = grownCap w (len + m) cap' e * size := by rw [← Nat.add_mul]; congr 1; omega
    have e3 : (len + m) * size = len * size + m * size := Nat.add_mul ..
    have hol : old2.length = len * size := by have := hor.1; simp at this; omega
    refine BR.spare ?_ ?_ (.inl (Nat.le_refl _)) ?_
    · refine VRs.of_get (by simp; omega) (fun j u hu => ?_)
      simp only [List.getElem?_toArray] at hu
      by_cases hj : j < old.length
      · rw [List.getElem?_append_left hj] at hu
        obtain ⟨u', g1, g2⟩ := hor.get (i := j) (v := u) (by simpa using hu)
        exact ⟨u', by rw [Array.getElem?_append_left (by simp; omega)]; exact g1, g2.mono hext⟩
      · rw [List.getElem?_append_right (by omega)] at hu
        obtain ⟨u', g1, g2⟩ := hnewR2.get (i := j - old.length) (v := u) (by simpa using hu)
        refine ⟨u', ?_, g2.mono hext⟩
        rw [Array.getElem?_append_right (by simp; omega)]
        simpa [hol, ← ho] using g1
    · simp only [Array.size_append, List.size_toArray, e1]; omega
    · simp; omega
  split at h
  · rename_i hle
    cases base with
    | none =>
      simp only at h
      split at h
      · rename_i hm0
        injection h with h
        injection h with h1 h2
        subst h1; subst h2; subst hm0
        cases hsv
        exact ⟨.slice none 0 0, φ, w, run_append_none hu hd' hdm hz hlen hnew, .nilSlice, Step.refl hs⟩
      · cases h
    | some a =>
      simp only [Option.map_eq_some_iff, Prod.mk.injEq] at h
      obtain ⟨σ1, hw, rfl, rfl⟩ := h
      obtain ⟨a', c', rfl, hsl⟩ := hsv.slice_inv
      have hlow := hsl.low
      obtain ⟨w1, g1, g2⟩ := wrN_sound (a' := a'.add (len * size)) (l' := new') hs hw hnewR (fun hne => by
        have hm : m ≠ 0 := fun h0 => hne (List.eq_nil_of_length_eq_zero (by rw [hnl, h0]; simp))
        obtain ⟨q1, x1, q2, q3, _⟩ := hsl.at_ (by omega)
        exact ⟨x1, q2, by rw [q3, add_none _ _ rfl, Nat.add_assoc]⟩)
      refine ⟨.slice (some a') (len + m) c', φ, w1, run_append_some hu hd' hdm hz hlen hnew (by omega) g1, .slice _ _ _ _ _ ⟨by omega, hsl.born, hsl.exact, hsl.low, hsl.at_⟩, g2⟩
  · rename_i hgt
    split at h
    case isFalse => cases h
    rename_i hbb
    obtain ⟨hbb, hb0⟩ := hbb
    have hsm : len + m ≤ 140737488355328 := Nat.le_trans (Nat.le_mul_of_pos_right _ hb0) hbb
    have hbig := hcomp (len + m) 0 hsm
    have fresh : ∀ (base' : Option Addr) (cap' : Nat) (old old2 : List Value), cap' < len + m → old.length = len * size → VRs φ old.toArray old2.toArray →
        (Builtin.firstCells size len (.slice base' len cap')).run P w.drew = .ok old2.toArray w.drew →
        ∃ v' φ' w', (Builtin.append_ #[t, t'] ty #[.slice base' len cap', x']).run P w = .ok v' w' ∧ VR φ' (.slice (some ⟨σ.size, 0, none⟩) (len + m) (inex size (len + m))) v' ∧ Step P φ σ w φ' (σ.push (.cells 0 (old ++ new) (0, 0))) w' := by
      intro base' cap' old old2 hc hol hor hfo
      have hge := grownCap_ge w (len + m) cap' e
      refine ⟨_, _, _, run_append_new hu hd' hdm hi his hib hiz hlen hc hbb hb0 hfo hnew2, ?_, Step.alloc (d := w.drawn + 1) hs (row old old2 cap' hol hor hsm)⟩
      exact .slice _ _ _ _ _ (SlR.grown (upd_same _ _ _) hge hbig hsz (by simp))
    cases base with
    | none =>
      simp only at h
      split at h
      · rename_i hl0
        injection h with h
        injection h with h1 h2
        subst h1; subst h2; subst hl0
        cases hsv
        have hm0 : 0 < m := by
          rcases Nat.eq_zero_or_pos m with h | h
          · subst h; simp at hgt
          · exact h
        obtain ⟨v', φ', w', q1, q2, q3⟩ := fresh none 0 [] [] (by omega) (by simp) ⟨rfl, fun i h => by simp at h⟩ (by simp [Builtin.firstCells])
        exact ⟨v', φ', w', q1, by simpa using q2, by simpa using q3⟩
      · cases h
    | some a =>
      simp only at h
      split at h
      · cases h
      · rename_i old hold
        obtain ⟨a', c', rfl, hsl⟩ := hsv.slice_inv
        have hol := rdN_length hold
        have hat := slice_at (k := len * size) hsl (fun h e => h (by rw [e]; simp))
        obtain ⟨old2, p1, p2, p3⟩ := rdN_sound hsd hold hat
        have hfo : ∀ c, (Builtin.firstCells size len (.slice (some a') len c)).run P w.drew = .ok old2.toArray w.drew := fun c => by simpa [Builtin.firstCells] using p1
        split at h
        · rename_i hc0
          injection h with h
          injection h with h1 h2
          subst h1; subst h2
          have hcc := hsl.exact hc0
          have := capLow_exact hc0
          exact fresh (some a') c' old old2 (by omega) hol p2 (hfo c')
        · rename_i hc0
          split at h
          · rename_i hk
            obtain ⟨hk1, hk2, hk3⟩ := hk
            injection h with h
            injection h with h1 h2
            subst h1; subst h2
            obtain ⟨x0, hx0⟩ := hsl.born hc0
            have hblk : ∃ ver cs fz, σ[a.block]? = some (.cells ver cs fz) ∧ fz.2 ≤ fz.1 := by
              unfold noFzAt at hk2
              split at hk2
              · rename_i ver cs fz hq; exact ⟨ver, cs, fz, hq, by simpa using hk2⟩
              · cases hk2
            obtain ⟨ver, cs, fz, hblk, hfz⟩ := hblk
            by_cases hroom : len + m ≤ c'
            ·
              have hm0 : 0 < m := by
                rcases Nat.eq_zero_or_pos m with h | h
                · subst h; have := hsl.len; omega
                · exact h
              obtain ⟨q1, x1, q2, q3, q4⟩ := hsl.at_ (by omega)
              rw [hx0] at q2
              injection q2 with q2
              subst q2
              have q4' := q4 hc0
              rw [hk1] at q4'
              obtain ⟨c, e0, fr, r1, r2, r3, r4, r5⟩ := cells_of hs hx0 hblk
              have hfree : ∀ j, x0.o ≤ j → j < x0.e → ¬ (fr.1 ≤ j ∧ j < fr.2) := by
                intro j g1 g2
                by_cases hj : j < x0.o + cs.length
                · have := r3 (j - x0.o) (by omega) (by omega)
                  rw [show x0.o + (j - x0.o) = j from by omega] at this
                  exact this
                · exact r5 j (by omega) g2
              have hend : x0.o + a.off + (len + m) * size ≤ x0.e := by
                have : (len + m) * size ≤ c' * size := Nat.mul_le_mul_right _ hroom
                omega
              have hexp : (len + m) * size = len * size + m * size := Nat.add_mul ..
              have hone : ∀ u ∈ new', u.oneCell' = true := by
                intro u hu
                obtain ⟨j, hj, rfl⟩ := List.getElem_of_mem hu
                have := hnewR.2 j (by simp; omega) (by simpa using hj)
                simp only [List.getElem_toArray] at this
                rw [this.oneCell]
                exact (List.all_eq_true.1 hk3) _ (by simp)
              have hst := run_storeCells_fr (P := P) x0.r (x0.o + a.off + len * size) e0 fr new' 0 c w r1 (by omega) hone (fun j g1 g2 => hfree j (by omega) (by omega))
              have hadd : a'.add (len * size) = ⟨x0.r, x0.o + a.off + len * size, none⟩ := by rw [q3, add_none _ _ rfl]
              refine ⟨.slice (some a') (len + m) c', _, _, run_append_some hu hd' hdm hz hlen hnew hroom (by rw [hadd]; exact hst), ?_, Step.over (o := x0.o + a.off) (e' := x0.e) hs hx0 hblk trivial r1 ?_⟩
              · rw [q3]
                exact .slice _ _ _ _ _ (SlR.grown (upd_same _ _ _) hroom hbig hsz (by simpa using q4'))
              · have hext := upd_ext (x := ⟨x0.r, x0.o + a.off, x0.e⟩) hs (Nat.le_refl σ.size)
                refine .cells _ _ _ _ _ _ _ (fun j u hu => ?_) (fun j hj _ => ?_) (by rw [setsA_size]; exact r4) (fun j g1 g2 => hfree j (by simp at g1 g2 ⊢; omega) g2)
                ·
                  have hsetl : ∀ (l : List Value) (c : Array Value) (o j : Nat), j < o → (setsA c o l)[j]? = c[j]? := by
                    intro l
                    induction l with
                    | nil => intro c o j _; rfl
                    | cons u l ih =>
                      intro c o j hj
                      simp only [setsA]
                      rw [ih _ _ _ (by omega), Array.getElem?_setIfInBounds_ne (by omega)]
                  have hsetn : ∀ (l : List Value) (c : Array Value) (o j : Nat), o + l.length ≤ c.size → j < l.length → (setsA c o l)[o + j]? = l[j]? := by
                    intro l
                    induction l with
                    | nil => intro c o j _ hj; simp at hj
                    | cons u l ih =>
                      intro c o j hl hj
                      simp only [setsA]
                      cases j with
                      | zero =>
                        have hlt : o < c.size := by simp at hl; omega
                        rw [hsetl _ _ _ _ (by omega)]
                        simp [hlt]
                      | succ j =>
                        have := ih (c.setIfInBounds o u) (o + 1) j (by simp at hl ⊢; omega) (by simp at hj; omega)
                        rw [show o + (j + 1) = o + 1 + j from by omega, this]
                        simp
                  have e0' : x0.o + a.off + len * size + 0 = x0.o + a.off + len * size := rfl
                  by_cases hj : j < old.length
                  · rw [List.getElem?_append_left hj] at hu
                    obtain ⟨u', g1, g2⟩ := p2.get (i := j) (v := u) (by simpa using hu)
                    refine ⟨u', ?_, g2.mono hext⟩
                    show (setsA c (x0.o + a.off + len * size + 0) new')[x0.o + a.off + j]? = _
                    rw [hsetl _ _ _ _ (by omega)]
                    have hlc : len * size ≠ 0 := by omega
                    obtain ⟨l2, z1, z2, z3⟩ := rdN_cells hsd hx0 hold
                    have hq : old2 = l2 := by
                      have hh := run_loadCells_list (P := P) w.drew ⟨x0.r, x0.o + a.off, none⟩ l2 (fun j v hv => by rw [add_none _ _ rfl]; exact z3 j v hv)
                      rw [z1, ← q3, p1] at hh
                      injection hh with hh
                      simpa using hh
                    have : w.cell? ⟨x0.r, x0.o + a.off + j, none⟩ = some u' := z3 j u' (by rw [← hq]; simpa using g1)
                    simpa [World.cell?, r1] using this
                  · rw [List.getElem?_append_right (by omega)] at hu
                    obtain ⟨u', g1, g2⟩ := hnewR.get (i := j - old.length) (v := u) (by simpa using hu)
                    refine ⟨u', ?_, g2.mono hext⟩
                    have hjl : j - old.length < new'.length := by
                      have := (Array.getElem?_eq_some_iff.1 g1).1
                      simpa using this
                    show (setsA c (x0.o + a.off + len * size + 0) new')[x0.o + a.off + j]? = _
                    rw [show x0.o + a.off + j = x0.o + a.off + len * size + 0 + (j - old.length) from by omega, hsetn _ _ _ _ (by omega) hjl]
                    simpa using g1
                · have : (old ++ new).length = (len + m) * size := by simp; omega
                  exact hfree _ (by simp; omega) (by simp; omega)
            ·
              obtain ⟨v', φ', w', q1, q2, q3⟩ := fresh (some a') c' old old2 (by omega) hol p2 (hfo c')
              have hlt := (hs.lt a.block x0 hx0).1
              have hk0 : φ' a.block = some x0 := by rw [q3.old _ hlt]; exact hx0
              have q4 := Step.kill (b := a.block) q3.sim hk0
              have hset : (σ.push (.cells 0 (old ++ new) (0, 0))).setIfInBounds a.block .dead = (σ.setIfInBounds a.block .dead).push (.cells 0 (old ++ new) (0, 0)) := by
                apply Array.ext_getElem?
                intro j
                by_cases hj : a.block = j
                · subst hj
                  have e1 : a.block < (σ.push (.cells 0 (old ++ new) (0, 0))).size := by simp; omega
                  rw [Array.getElem?_setIfInBounds, if_pos rfl, if_pos e1, Array.getElem?_push, if_neg (by simp; omega), Array.getElem?_setIfInBounds, if_pos rfl, if_pos hlt]
                · rw [Array.getElem?_setIfInBounds_ne hj, Array.getElem?_push, Array.getElem?_push, Array.getElem?_setIfInBounds_ne hj]
                  simp
              rw [hset] at q4
              exact ⟨v', φ', w', q1, q2, q3.trans hs q4⟩
          · cases h
theorem freeze_set {w : World} {r : Nat} {c : Array Value} {e : TypeId} {fr : Nat × Nat} (h : w.heap[r]? = some (.cells c e fr)) : ∃ fr', w.freeze ⟨r, c.size, none⟩ 1 = setO w r (.cells c e fr') := by
 refine ⟨if fr.1 == fr.2 then (c.size, c.size + 1) else (min fr.1 c.size, max fr.2 (c.size + 1)), ?_⟩
 unfold World.freeze setO
 rw [if_neg (by omega)]
 congr 1
 apply Array.ext_getElem?
 intro j
 rw [Array.getElem?_modify, Array.getElem?_setIfInBounds]
 have hlt := (Array.getElem?_eq_some_iff.1 h).1
 by_cases hj : r = j
 ·subst hj
  rw [if_pos rfl, if_pos rfl, if_pos hlt, h]
  rfl
 ·rw [if_neg hj, if_neg hj]
theorem mark_sound {d e : TypeId} {x x' v : Value} {σ' : H} (hs : Sim P φ σ w) (hu : P.underlying d = some (.slice e)) (hue : P.underlying e = some (.int .u8)) (h : markV x σ = some (v, σ')) (hx : VR φ x x') :
  ∃ v' φ' w', (convert d d x').run P w = .ok v' w' ∧ VR φ' v v' ∧ Step P φ σ w φ' σ' w' := by
 unfold markV at h
 split at h
 case h_2 => cases h
 rename_i b off n c
 split at h
 case h_2 => cases h
 rename_i ver cs fz hb
 split at h
 case isFalse => cases h
 rename_i hc
 simp only [Option.some.injEq, Prod.mk.injEq] at h
 obtain ⟨rfl, rfl⟩ := h
 obtain ⟨a', c', rfl, hsl⟩ := hx.slice_inv
 have hcc := hsl.exact hc.1
 subst hcc
 obtain ⟨_, x0, hx0, ha', _⟩ := hsl.at_ hc.2
 subst ha'
 obtain ⟨ob, ho, hbr⟩ := hs.blk b x0 _ hx0 hb trivial
 generalize hk : Blk.cells ver cs fz = k at hbr
 cases hbr <;> cases hk
 rename_i c0 e0 fr _ _ _ _
 have hh : ∀ (i : Nat) (v : Value), cs[i]? = some v → ∃ v', c0[x0.o + i]? = some v' ∧ VR φ v v' := by assumption
 obtain ⟨fr', hfr⟩ := freeze_set ho
 refine ⟨.slice (some ⟨x0.r, x0.o + off, none⟩) n c', upd φ σ.size ⟨x0.r, x0.o, 0⟩, setO w x0.r (.cells c0 e0 fr'), ?_, ?_, Step.over hs hx0 hb trivial ho (BR.cells _ _ _ _ _ _ _ (fun i v hv => ?_) (fun i hi hn => absurd ⟨Nat.zero_le _, hi⟩ hn) (Nat.zero_le _) (fun i h1 h2 => absurd h2 (Nat.not_lt_zero _)))⟩
 ·simp only [convert, Sem.run_bind, run_underlying hu, Result.andThen_ok, run_underlying hue, beq_self_eq_true, markStringish, run_shape, World.shape?, ho, run_freeze, hfr, Sem.run_pure]
 ·refine .slice _ _ _ _ _ ⟨hsl.len, fun h0 => absurd hc.1 h0, fun _ => rfl, hsl.low, fun _ => ⟨rfl, ⟨x0.r, x0.o, 0⟩, by simp [upd], rfl, fun h0 => absurd hc.1 h0⟩⟩
 ·obtain ⟨v', g1, g2⟩ := hh i v hv
  exact ⟨v', g1, g2.mono (upd_ext hs (Nat.le_refl σ.size))⟩
theorem copy_sound {t t' ty e : TypeId} {size : Nat} {d x v d0 x' : Value} {σ' : H} (hs : Sim P φ σ w) (hu : P.underlying t = some (.slice e)) (hz : szOf P e = some size)
  (h : copyV size d x σ = some (v, σ')) (hdv : VR φ d d0) (hxv : VR φ x x') :
  ∃ v' w', (Builtin.copy_ #[t, t'] ty #[d0, x']).run P w = .ok v' w' ∧ VR φ v v' ∧ Step P φ σ w φ σ' w' := by
 unfold copyV at h
 split at h
 case h_2 => cases h
 rename_i base dLen cap
 split at h
 case h_1 => cases h
 rename_i m new hxc
 obtain ⟨hlen, hnl, new', hnew, hnewR, hk⟩ := xcells_sound hs hxc hxv
 have hnl' : new'.length = m * size := by have := hnewR.1; simp at this; omega
 cases base with
 |none =>
  simp only [Option.some.injEq, Prod.mk.injEq] at h
  obtain ⟨rfl, rfl⟩ := h
  cases hdv
  refine ⟨goInt 0, w, ?_, .int _ _, Step.refl hs⟩
  have := hk 0 (Nat.zero_le _)
  simp only [Builtin.copy_, List.getElem?_toArray, List.getElem?_cons_zero, List.getElem?_cons_succ, Sem.run_bind, run_underlying hu, Result.andThen_ok, hlen, run_sizeOf' hz]
  have h0 : Nat.min m 0 = 0 := by simp
  simp only [h0, this, Result.andThen_ok, Sem.run_pure]
  simp [goInt]
 |some a =>
  simp only [Option.map_eq_some_iff, Prod.mk.injEq] at h
  obtain ⟨σ1, hw, rfl, rfl⟩ := h
  obtain ⟨a', c', rfl, hsl⟩ := hdv.slice_inv
  have hmin : min m dLen * size ≤ m * size := Nat.mul_le_mul_right _ (Nat.min_le_left _ _)
  have htake : VRs φ (new.take (min m dLen * size)).toArray (new'.take (min m dLen * size)).toArray := by
   refine VRs.of_get (by simp; omega) (fun j u hu => ?_)
   simp only [List.getElem?_toArray, List.getElem?_take] at hu ⊢
   split at hu
   ·rename_i hj
    obtain ⟨u', g1, g2⟩ := hnewR.get (i := j) (v := u) (by simpa using hu)
    exact ⟨u', by simpa [hj] using g1, g2⟩
   ·cases hu
  obtain ⟨w1, g1, g2⟩ := wrN_sound (a' := a') hs hw htake (fun hne => by
   have hd : dLen ≠ 0 := fun h0 => hne (by rw [h0]; simp)
   obtain ⟨q1, x1, q2, q3, _⟩ := hsl.at_ (by have := hsl.len; have := hsl.low; omega)
   exact ⟨x1, q2, q3⟩)
  refine ⟨goInt (min m dLen : Nat), w1, ?_, .int _ _, g2⟩
  have := hk (min m dLen) (Nat.min_le_left _ _)
  simp only [Builtin.copy_, List.getElem?_toArray, List.getElem?_cons_zero, List.getElem?_cons_succ, Sem.run_bind, run_underlying hu, Result.andThen_ok, hlen, run_sizeOf' hz]
  have e1 : Nat.min m dLen = min m dLen := rfl
  simp only [e1, this, Result.andThen_ok, g1, Sem.run_pure]
theorem mapPut_sound {t kt e : TypeId} {lf : Leaf} {x k v x' k' v' : Value} {σ' : H} (hs : Sim P φ σ w) (hu : P.underlying t = some (.map kt e)) (hl : oneLeaf P kt = some lf)
  (h : mapPut lf x k v σ = some σ') (hx : VR φ x x') (hk : VR φ k k') (hv : VR φ v v') : ∃ w', (Instr.mapUpdate t x' k' v').run P w = .ok () w' ∧ Step P φ σ w φ σ' w' := by
 unfold mapPut at h
 split at h
 case h_2 => cases h
 rename_i b
 split at h
 case h_2 => cases h
 rename_i ver es clock hb
 split at h
 case isFalse => cases h
 rename_i hf
 have hkk := fits_same hf hk
 subst hkk
 cases hx with
 |map _ y hy =>
  obtain ⟨es', h1, he⟩ := map_of hs hy hb
  have hget : (getObj y.r).run P w = .ok (.map es' clock) w := by simp [getObj, Sem.run, h1]
  have hset : ∀ (es2 : Array MapEntry) (c2 : Nat), (setObj y.r (.map es2 c2)).run P w = .ok () (setO w y.r (.map es2 c2)) := by
   intro es2 c2; simp [setObj, Sem.run, h1, setO]
  split at h
  ·cases h
  ·rename_i i u hr
   injection h with h
   subst h
   obtain ⟨r', g1, g2⟩ := run_findKey (P := P) (w := w) hl hf he hr
   cases r' with
   |none => exact g2.elim
   |some q =>
    obtain ⟨i', u'⟩ := q
    obtain ⟨hii, _⟩ := g2
    simp only at hii
    subst hii
    have hsame : ∀ e0 : MapEntry, es'[i]? = some e0 → e0.key = k' := by
     intro e0 he0
     have hfk : ∀ (l : List MapEntry) (j : Nat) (r : Nat × Value), findK k' l j = some (some r) → j ≤ r.1 ∧ ∃ e1, l[r.1 - j]? = some e1 ∧ leafEq k' e1.key = some true := by
      intro l
      induction l with
      |nil => intro j r hq; simp [findK] at hq
      |cons e1 l ih =>
       intro j r hq
       unfold findK at hq
       split at hq
       ·rename_i hle
        injection hq with hq
        injection hq with hq
        subst hq
        exact ⟨Nat.le_refl _, e1, by simp, hle⟩
       ·obtain ⟨p1, e2, p2, p3⟩ := ih (j + 1) r hq
        refine ⟨by omega, e2, ?_, p3⟩
        rw [show r.1 - j = (r.1 - (j + 1)) + 1 from by omega]
        simpa using p2
       ·cases hq
     obtain ⟨_, e1, p2, p3⟩ := hfk es.toList 0 (i, u) hr
     have p2' : es[i]? = some e1 := by simpa using p2
     obtain ⟨e2, q1, q2⟩ := he.2 i e1 p2'
     rw [he0] at q1
     injection q1 with q1
     subst q1
     have := q2.key
     generalize e1.key = q at p3 this
     cases lf <;> cases k' <;> simp [Leaf.fits] at hf <;> cases q <;> simp [leafEq] at p3
     ·obtain ⟨rfl, rfl⟩ := p3; exact this.int_inv
     ·subst p3; exact this.bool_inv
     ·subst p3; exact this.string_inv
    have hstay : (Instr.keyThatStays (((es'[i]?).map (·.key)).getD k') k').run P w = .ok k' w := by
     have : ((es'[i]?).map (·.key)).getD k' = k' := by
      cases hq : es'[i]? with
      |none => rfl
      |some e0 => simp [hsame e0 hq]
     rw [this]
     have hsb : ∀ n, Instr.sameBits n k' k' = true := by
      intro n
      cases lf <;> cases k' <;> simp [Leaf.fits] at hf <;> cases n <;> simp [Instr.sameBits, beq_toListBytes]
     simp [Instr.keyThatStays, hsb]
    refine ⟨setO w y.r (.map (es'.modify i fun e => { e with key := k', val := v' }) clock), ?_, Step.set hs hy hb trivial trivial (Nat.lt_succ_self _) h1 ?_⟩
    ·simp only [Instr.mapUpdate, Sem.run_bind, run_underlying hu, Result.andThen_ok, hget, run_checkKey (P := P) (w := w) _ 9999 hl, g1, hstay, hset]
    ·have hm : ES φ (es.modify i fun e => { e with key := k', val := v }) (es'.modify i fun e => { e with key := k', val := v' }) := by
      refine ⟨by simpa using he.1, fun j e0 hj => ?_⟩
      rw [Array.getElem?_modify] at hj ⊢
      split at hj
      ·rename_i hij
       simp only [Option.map_eq_some_iff] at hj
       obtain ⟨e1, q1, rfl⟩ := hj
       obtain ⟨e2, q2, q3⟩ := he.2 j e1 q1
       exact ⟨{ e2 with key := k', val := v' }, by rw [if_pos hij, q2]; rfl, ⟨hk, hv, q3.born⟩⟩
      ·rename_i hij
       rw [if_neg hij]
       exact he.2 j e0 hj
     exact .map _ _ _ _ _ hm.1 hm.to
  ·rename_i hr
   injection h with h
   subst h
   obtain ⟨r', g1, g2⟩ := run_findKey (P := P) (w := w) hl hf he hr
   cases r' with
   |some q => exact g2.elim
   |none =>
    refine ⟨setO w y.r (.map (es'.push { key := k', val := v', born := clock }) (clock + 1)), ?_, Step.set hs hy hb trivial trivial (Nat.lt_succ_self _) h1 ?_⟩
    ·simp only [Instr.mapUpdate, Sem.run_bind, run_underlying hu, Result.andThen_ok, hget, run_checkKey (P := P) (w := w) _ 9999 hl, g1, hset]
    ·have hm : ES φ (es.push { key := k', val := v, born := clock }) (es'.push { key := k', val := v', born := clock }) := by
      refine ⟨by simpa using he.1, fun j e0 hj => ?_⟩
      rw [Array.getElem?_push] at hj ⊢
      rw [← he.1]
      split at hj
      ·rename_i hij
       injection hj with hj
       subst hj
       exact ⟨{ key := k', val := v', born := clock }, by rw [if_pos hij], ⟨hk, hv, rfl⟩⟩
      ·rename_i hij
       rw [if_neg hij]
       exact he.2 j e0 hj
     exact .map _ _ _ _ _ hm.1 hm.to
theorem mapClr_sound {t kt e ty : TypeId} {tl : List TypeId} {x x' : Value} {σ' : H} (hs : Sim P φ σ w) (hu : P.underlying t = some (.map kt e))
  (h : mapClr x σ = some σ') (hx : VR φ x x') : ∃ w', (Builtin.clear_ (t :: tl).toArray ty #[x']).run P w = .ok (.tuple #[]) w' ∧ Step P φ σ w φ σ' w' := by
 unfold mapClr at h
 split at h
 case h_2 => cases h
 rename_i b
 split at h
 case h_2 => cases h
 rename_i ver es clock hb
 injection h with h
 subst h
 cases hx with
 |map _ y hy =>
  obtain ⟨es', h1, he⟩ := map_of hs hy hb
  have hget : (getObj y.r).run P w = .ok (.map es' clock) w := by simp [getObj, Sem.run, h1]
  have hset : ∀ (es2 : Array MapEntry) (c2 : Nat), (setObj y.r (.map es2 c2)).run P w = .ok () (setO w y.r (.map es2 c2)) := by
   intro es2 c2; simp [setObj, Sem.run, h1, setO]
  refine ⟨setO w y.r (.map #[] clock), ?_, Step.set hs hy hb trivial trivial (Nat.lt_succ_self _) h1 (.map _ _ _ _ _ rfl fun i hi => by simp at hi)⟩
  simp only [Builtin.clear_, List.getElem?_toArray, List.getElem?_cons_zero, List.getElem?_cons_succ, Sem.run_bind, run_underlying hu, Result.andThen_ok, hget, hset, Sem.run_pure]
theorem mapDel_sound {t kt e ty : TypeId} {tl : List TypeId} {lf : Leaf} {x k x' k' : Value} {σ' : H} (hs : Sim P φ σ w) (hu : P.underlying t = some (.map kt e)) (hl : oneLeaf P kt = some lf)
  (h : mapDel lf x k σ = some σ') (hx : VR φ x x') (hk : VR φ k k') : ∃ w', (Builtin.delete_ (t :: tl).toArray ty #[x', k']).run P w = .ok (.tuple #[]) w' ∧ Step P φ σ w φ σ' w' := by
 unfold mapDel at h
 split at h
 case h_2 => cases h
 rename_i b
 split at h
 case h_2 => cases h
 rename_i ver es clock hb
 split at h
 case isFalse => cases h
 rename_i hf
 have hkk := fits_same hf hk
 subst hkk
 cases hx with
 |map _ y hy =>
  obtain ⟨es', h1, he⟩ := map_of hs hy hb
  have hget : (getObj y.r).run P w = .ok (.map es' clock) w := by simp [getObj, Sem.run, h1]
  have hset : ∀ (es2 : Array MapEntry) (c2 : Nat), (setObj y.r (.map es2 c2)).run P w = .ok () (setO w y.r (.map es2 c2)) := by
   intro es2 c2; simp [setObj, Sem.run, h1, setO]
  split at h
  ·cases h
  ·rename_i i u hr
   injection h with h
   subst h
   obtain ⟨r', g1, g2⟩ := run_findKey (P := P) (w := w) hl hf he hr
   cases r' with
   |none => exact g2.elim
   |some q =>
    obtain ⟨i', u'⟩ := q
    obtain ⟨hii, _⟩ := g2
    simp only at hii
    subst hii
    refine ⟨setO w y.r (.map (es'.eraseIdxIfInBounds i) clock), ?_, Step.set hs hy hb trivial trivial (Nat.lt_succ_self _) h1 ?_⟩
    ·simp only [Builtin.delete_, List.getElem?_toArray, List.getElem?_cons_zero, List.getElem?_cons_succ, Sem.run_bind, run_underlying hu, Result.andThen_ok, hget, run_checkKey (P := P) (w := w) _ 9999 hl, g1, hset, Sem.run_pure]
    ·have hm : ES φ (es.eraseIdxIfInBounds i) (es'.eraseIdxIfInBounds i) := by
      have hsz := he.1
      refine ⟨?_, fun j e0 hj => ?_⟩
      ·have kz : ∀ (xs : Array MapEntry) (a : Nat), (xs.eraseIdxIfInBounds a).size = if a < xs.size then xs.size - 1 else xs.size := by
        intro xs a
        rw [Array.eraseIdxIfInBounds_eq]
        split
        ·rw [Array.size_eraseIdx]
        ·rfl
       rw [kz, kz, hsz]
      ·have key : ∀ (xs : Array MapEntry) (a b : Nat), (xs.eraseIdxIfInBounds a)[b]? = if b < a then xs[b]? else xs[b + 1]? := by
        intro xs a b
        rw [← Array.getElem?_toList, Array.toList_eraseIdxIfInBounds, List.getElem?_eraseIdx]
        simp only [Array.getElem?_toList]
       rw [key] at hj ⊢
       split
       ·rename_i hji
        rw [if_pos hji] at hj
        exact he.2 j e0 hj
       ·rename_i hji
        rw [if_neg hji] at hj
        exact he.2 (j + 1) e0 hj
     exact .map _ _ _ _ _ hm.1 hm.to
  ·rename_i hr
   injection h with h
   subst h
   obtain ⟨r', g1, g2⟩ := run_findKey (P := P) (w := w) hl hf he hr
   cases r' with
   |some q => exact g2.elim
   |none =>
    refine ⟨setO w y.r (.map es' clock), ?_, Step.set hs hy hb trivial trivial (Nat.lt_succ_self _) h1 ?_⟩
    ·simp only [Builtin.delete_, List.getElem?_toArray, List.getElem?_cons_zero, List.getElem?_cons_succ, Sem.run_bind, run_underlying hu, Result.andThen_ok, hget, run_checkKey (P := P) (w := w) _ 9999 hl, g1, hset, Sem.run_pure]
    ·exact .map _ _ _ _ _ he.1 he.to
theorem rangeV_sound {t kt e : TypeId} {x x' v : Value} {σ' : H} (hs : Sim P φ σ w) (hu : P.underlying t = some (.map kt e)) (h : rangeV x σ = some (v, σ')) (hx : VR φ x x') :
  ∃ v' φ' w', (Instr.range t x').run P w = .ok v' w' ∧ VR φ' v v' ∧ Step P φ σ w φ' σ' w' := by
 unfold rangeV at h
 split at h
 ·injection h with h
  injection h with h1 h2
  subst h1; subst h2
  cases hx
  refine ⟨.pointer (some ⟨w.heap.size, 0, none⟩), _, _, ?_, .ptr σ.size 0 ⟨w.heap.size, 0, 0⟩ (upd_same _ _ _), Step.alloc (ob := .mapIter none 0 #[] 0) (e := 0) (d := w.drawn) hs (.miterNil _ _ _ _ _ rfl)⟩
  simp [Instr.range, run_underlying hu]
 ·split at h
  ·rename_i b ver es clock hb
   injection h with h
   injection h with h1 h2
   subst h1; subst h2
   cases hx with
   |map _ y hy =>
    obtain ⟨es', h1, he⟩ := map_of hs hy hb
    have hget : (getObj y.r).run P w = .ok (.map es' clock) w := by simp [getObj, Sem.run, h1]
    refine ⟨.pointer (some ⟨w.heap.size, 0, none⟩), _, _, ?_, .ptr σ.size 0 ⟨w.heap.size, 0, 0⟩ (upd_same _ _ _), Step.alloc (ob := .mapIter (some y.r) clock #[] clock) (e := 0) (d := w.drawn) hs (.miter _ _ y _ _ _ _ (upd_ext hs (Nat.le_refl _) _ _ hy) rfl)⟩
    simp [Instr.range, run_underlying hu, hget]
  ·cases h
 ·cases h
theorem nextV_sound {x x' : Value} {ty : TypeId} {l : List (Value × H)} (hs : Sim P φ σ w) (h : nextV x σ = some l) (hx : VR φ x x') :
  ∃ q ∈ l, ∃ v' φ' w', (Instr.next x' false ty).run P w = .ok v' w' ∧ VR φ' q.1 v' ∧ Step P φ σ w φ' q.2 w' := by
 unfold nextV at h
 split at h
 case h_2 => cases h
 rename_i r
 obtain ⟨y, hy, hx', rfl⟩ := hx.ptr_inv
 have tup1 : VR φ (.tuple #[.bool false]) (.tuple #[.bool false]) := VR.tuples (VRs.one (.bool false))
 split at h
 ·rename_i ver since seen stepped hr
  injection h with h
  subst h
  obtain ⟨ob, h1, h2⟩ := hs.blk r y _ hy hr trivial
  cases h2 with
  |miterNil _ _ _ _ _ h0 =>
   refine ⟨_, List.mem_singleton.2 rfl, .tuple #[.bool false], φ, w, ?_, tup1, .refl hs⟩
   have hget : (getObj y.r).run P w = .ok (.mapIter none since seen stepped) w := by simp [getObj, Sem.run, h1]
   simp [Instr.next, h0, hget]
 ·rename_i ver b since seen stepped hr
  split at h
  ·rename_i ver2 es clock hb
   split at h
   ·rename_i hc
    obtain ⟨ob, h1, h2⟩ := hs.blk r y _ hy hr trivial
    cases h2 with
    |miter _ _ z _ _ _ _ hz h0 =>
     obtain ⟨es', g1, he⟩ := map_of hs hz hb
     have hold : ∀ x ∈ es'.toList, x.born < since := by
      intro e' he'
      obtain ⟨j, hj⟩ := List.getElem?_of_mem he'
      have hlt : j < es.size := by rw [he.1]; exact (List.getElem?_eq_some_iff.1 hj).1
      obtain ⟨e2, k1, k2⟩ := he.2 j es[j] (by simp [hlt])
      rw [Array.getElem?_toList] at hj
      rw [hj] at k1
      injection k1 with k1
      rw [k1, k2.born]
      exact hc.1 _ (by simp)
     have hmem : ∀ e' ∈ (leftOf es' seen).toList, ∃ e ∈ (leftV es seen).toList, ER1 φ e e' := by
      intro e' he'
      have he' : e' ∈ es' ∧ seen.contains e'.born = false := by simpa [leftOf] using he'
      obtain ⟨j, hlt', rfl⟩ := Array.getElem_of_mem he'.1
      have hlt : j < es.size := by rw [he.1]; exact hlt'
      obtain ⟨e2, k1, k2⟩ := he.2 j es[j] (by simp [hlt])
      rw [Array.getElem?_eq_getElem hlt'] at k1
      injection k1 with k1
      subst k1
      refine ⟨es[j], ?_, k2⟩
      have := he'.2
      rw [k2.born] at this
      simp [leftV]
      simpa using this
     have hsz : (leftV es seen).size = (leftOf es' seen).size := by
      have key : ∀ (a b : List MapEntry), a.length = b.length → (∀ (j : Nat) (e : MapEntry), a[j]? = some e → ∃ e', b[j]? = some e' ∧ ER1 φ e e') → (a.filter fun e => !seen.contains e.born).length = (b.filter fun e => !seen.contains e.born).length := by
       intro a
       induction a with
       |nil => intro b hb _; cases b with | nil => rfl | cons => cases hb
       |cons x a ih =>
        intro b hl hh
        cases b with
        |nil => cases hl
        |cons y b =>
         obtain ⟨e', q1, q2⟩ := hh 0 x rfl
         injection q1 with q1
         subst q1
         have := ih b (by simpa using hl) fun j e hj => hh (j + 1) e hj
         simp only [List.filter_cons, q2.born]
         split
         ·simp only [List.length_cons, this]
         ·exact this
      have := key es.toList es'.toList (by simpa using he.1) fun j e hj => by
       rw [Array.getElem?_toList] at hj ⊢
       exact he.2 j e hj
      simpa [leftV, leftOf, ← Array.length_toList] using this
     have hw : w.heap[y.r]? = some (.mapIter (some z.r) since seen stepped) := h1
     have hpos : (⟨y.r, y.o + 0, none⟩ : Addr) = ⟨y.r, 0, none⟩ := by rw [h0]
     rw [hpos]
     split at h
     ·rename_i hz0
      injection h with h
      subst h
      rcases run_next_at (P := P) w ty y.r z.r since stepped seen es' clock hw g1 hold hc.2 with ⟨_, hrun⟩ | ⟨e', he', _⟩
      ·exact ⟨_, List.mem_singleton.2 rfl, .tuple #[.bool false], φ, w, hrun, tup1, .refl hs⟩
      ·have : (leftOf es' seen).size = 0 := by omega
       rw [Array.eq_empty_of_size_eq_zero this] at he'
       simp at he'
     ·rename_i hz0
      injection h with h
      subst h
      rcases run_next_at (P := P) w ty y.r z.r since stepped seen es' clock hw g1 hold hc.2 with ⟨hz1, _⟩ | ⟨e', he', w1, hw1, hrun⟩
      ·omega
      ·obtain ⟨e, k1, k2⟩ := hmem e' he'
       have hst : Step P φ σ w φ (σ.setIfInBounds r (.miter (ver + 1) (some b) since (seen.push e.born) clock)) (setO w1 y.r (.mapIter (some z.r) since (seen.push e.born) clock)) := by
        have hd : Step P φ σ w φ σ w1 := by
         rcases hw1 with rfl | rfl
         ·exact .refl hs
         ·exact Step.draw hs _
        have ho : w1.heap[y.r]? = some (.mapIter (some z.r) since seen stepped) := by
         rcases hw1 with rfl | rfl
         ·exact hw
         ·exact hw
        exact hd.trans hs (Step.set hd.sim hy hr trivial trivial (Nat.lt_succ_self _) ho (.miter _ _ _ _ _ _ _ hz h0))
       refine ⟨_, List.mem_map.2 ⟨e, k1, rfl⟩, .tuple #[.bool true, e'.key, e'.val], φ, _, hrun, ?_, ?_⟩
       ·refine VR.tuples ⟨rfl, fun i h1 h2 => ?_⟩
        match i, h1 with
        |0, _ => exact .bool true
        |1, _ => exact k2.key
        |2, _ => exact k2.val
       ·rw [k2.born]
        exact hst
   ·cases h
  ·cases h
 ·cases h
end
section
variable {P : Program} {φ : Emb} {σ : H} {w : World} {ρ : Operand → Option Value} {ρ' : Operand → Value}
theorem eff_sound {o : Oper} {f : H → Option (Value × H)} {v : Value} {σ' : H} (hs : Sim P φ σ w) (hρ : OR P φ ρ ρ') (h : (trOp P o.op).den ρ = .eff f) (hf : f σ = some (v, σ')) : Does P φ σ w (execOp ρ' o) v σ' := by
  obtain ⟨dst, op, type, pos, after, guard⟩ := o
  simp only at h
  unfold trOp at h
  split at h
  case isFalse => simp [A.den] at h
  rename_i hop
  have mem : ∀ x ∈ op.operands, ∀ v, ρ x = some v → VR φ v (ρ' x) := fun x hx v hv => hρ.1 x v ((Array.all_eq_true_iff_forall_mem.1 hop) x hx) hv
  cases op <;> simp only [trOp1] at h
  case store t a x =>
    split at h
    · rename_i n hn
      simp only [A.den, Den.eff.injEq] at h
      subst h
      split at hf
      · rename_i ad xv ha hx
        split at hf
        · rename_i hc
          simp only [Option.map_eq_some_iff, Prod.mk.injEq] at hf
          obtain ⟨σ1, h1, rfl, rfl⟩ := hf
          exact does_unit (store_sound hs hn (mem a (by simp [Op.operands]) _ ha) (mem x (by simp [Op.operands]) _ hx) hc h1)
        · cases hf
      · cases hf
    · simp [A.den] at h
  case mapUpdate t m k x =>
    split at h
    · rename_i kt e hu
      split at h
      · rename_i lf hl
        simp only [A.den, Den.eff.injEq] at h
        subst h
        split at hf
        · rename_i mv kv xv hm hk hx
          simp only [Option.map_eq_some_iff, Prod.mk.injEq] at hf
          obtain ⟨σ1, h1, rfl, rfl⟩ := hf
          exact does_unit (mapPut_sound hs hu hl h1 (mem m (by simp [Op.operands]) _ hm) (mem k (by simp [Op.operands]) _ hk) (mem x (by simp [Op.operands]) _ hx))
        · cases hf
      · simp [A.den] at h
    · simp [A.den] at h
  case range t x =>
    split at h
    · rename_i kt e hu
      simp only [A.den, Den.eff.injEq] at h
      subst h
      simp only [Option.bind_eq_some_iff] at hf
      obtain ⟨xv, hx, hf⟩ := hf
      exact does_val (rangeV_sound hs hu hf (mem x (by simp [Op.operands]) _ hx))
    · simp [A.den] at h
  case insert t m k x =>
    split at h
    · rename_i kt e hu
      split at h
      · rename_i lf hl
        simp only [A.den, Den.eff.injEq] at h
        subst h
        split at hf
        · rename_i mv kv xv hm hk hx
          simp only [Option.map_eq_some_iff, Prod.mk.injEq] at hf
          obtain ⟨σ1, h1, rfl, rfl⟩ := hf
          exact does_unit (mapPut_sound hs hu hl h1 (mem m (by simp [Op.operands]) _ hm) (mem k (by simp [Op.operands]) _ hk) (mem x (by simp [Op.operands]) _ hx))
        · cases hf
      · simp [A.den] at h
    · simp [A.den] at h
  case call c =>
    split at h
    · simp [A.den] at h
    · rename_i b hcal
      obtain ⟨cal, args, ts⟩ := c
      simp only at hcal h
      subst hcal
      have hmem : ∀ x ∈ args.toList, ∀ v, ρ x = some v → VR φ v (ρ' x) := fun x hx v hv => mem x (by simp [Op.operands, Call.operands]; simpa using hx) v hv
      unfold trBuiltin at h
      split at h
      case h_1 => repeat' split at h
                  all_goals simp [A.den] at h
      case h_2 => simp [A.den] at h
      case h_3 => simp [A.den] at h
      case h_8 => simp [A.den] at h
      case h_7 t tl x hts hxs =>
        have hargs : args = #[x] := by rw [← Array.toArray_toList (xs := args), hxs]
        have htys : ts = (t :: tl).toArray := by rw [← Array.toArray_toList (xs := ts), hts]
        subst hargs; subst htys
        split at h
        · rename_i kt e hu
          simp only [A.den, Den.eff.injEq] at h
          subst h
          simp only [Option.bind_eq_some_iff, Option.map_eq_some_iff, Prod.mk.injEq] at hf
          obtain ⟨mv, hmv, σ1, h1, rfl, rfl⟩ := hf
          obtain ⟨w', g1, g2⟩ := mapClr_sound (tl := tl) (ty := type) hs hu h1 (hmem x (by simp) _ hmv)
          refine ⟨.value (.tuple #[]), .tuple #[], φ, w', ?_, .inl rfl, VR.tuples ⟨rfl, fun i hi => by simp at hi⟩, g2⟩
          simp only [execOp, resolve, invoke, builtin, Sem.run_bind, Sem.run_pure, Result.andThen_ok, List.map_toArray, List.map_cons, List.map_nil, g1]
        · simp [A.den] at h
      case h_6 t tl x y hts hxs =>
        have hargs : args = #[x, y] := by rw [← Array.toArray_toList (xs := args), hxs]
        have htys : ts = (t :: tl).toArray := by rw [← Array.toArray_toList (xs := ts), hts]
        subst hargs; subst htys
        split at h
        · rename_i kt e hu
          split at h
          · rename_i lf hl
            simp only [A.den, Den.eff.injEq] at h
            subst h
            split at hf
            · rename_i mv kv hmv hkv
              simp only [Option.map_eq_some_iff, Prod.mk.injEq] at hf
              obtain ⟨σ1, h1, rfl, rfl⟩ := hf
              obtain ⟨w', g1, g2⟩ := mapDel_sound (tl := tl) (ty := type) hs hu hl h1 (hmem x (by simp) _ hmv) (hmem y (by simp) _ hkv)
              refine ⟨.value (.tuple #[]), .tuple #[], φ, w', ?_, .inl rfl, VR.tuples ⟨rfl, fun i hi => by simp at hi⟩, g2⟩
              simp only [execOp, resolve, invoke, builtin, Sem.run_bind, Sem.run_pure, Result.andThen_ok, List.map_toArray, List.map_cons, List.map_nil, g1]
            · cases hf
          · simp [A.den] at h
        · simp [A.den] at h
      case h_4 t t' x y hts hxs =>
        have hargs : args = #[x, y] := by rw [← Array.toArray_toList (xs := args), hxs]
        have htys : ts = #[t, t'] := by rw [← Array.toArray_toList (xs := ts), hts]
        subst hargs; subst htys
        have fin : ∀ e, P.underlying t = some (.slice e) → ((∃ e', P.underlying t' = some (.slice e')) ∨ P.underlying t' = some .string) →
            (match szOf P e, (P.info? e).map (·.bytes), zeroOf P e with | some s1, some b1, some z => if z.cells.size = s1 ∧ 0 < s1 then A.append s1 b1 x y else .bad | _, _, _ => .bad : A).den ρ = .eff f →
            Does P φ σ w (execOp ρ' { dst := dst, op := .call { callee := .builtin .append, args := #[x, y], argTypes := #[t, t'] }, type := type, pos := pos, after := after, guard := guard }) v σ' := by
          intro e hu hu' h
          split at h
          · rename_i s1 b1 z h1 h2 h3
            split at h
            · rename_i hc
              simp only [A.den, Den.eff.injEq] at h
              subst h
              split at hf
              · rename_i sv xv hsv hxv
                obtain ⟨v', φ', w', g1, g2, g3⟩ := append_sound (ty := type) hs hu hu' h1 h2 h3 hc.1 hc.2 hf (hmem x (by simp) _ hsv) (hmem y (by simp) _ hxv)
                refine ⟨.value v', v', φ', w', ?_, .inl rfl, g2, g3⟩
                simp only [execOp, resolve, invoke, builtin, Sem.run_bind, Sem.run_pure, Result.andThen_ok, List.map_toArray, List.map_cons, List.map_nil, g1]
              · cases hf
            · simp [A.den] at h
          · simp [A.den] at h
        split at h
        · rename_i e e' hu hu'; exact fin e hu (.inl ⟨_, hu'⟩) h
        · rename_i e hu hu'; exact fin e hu (.inr hu') h
        · simp [A.den] at h
      case h_5 t t' x y hts hxs =>
        have hargs : args = #[x, y] := by rw [← Array.toArray_toList (xs := args), hxs]
        have htys : ts = #[t, t'] := by rw [← Array.toArray_toList (xs := ts), hts]
        subst hargs; subst htys
        split at h
        · rename_i e hu
          split at h
          · rename_i s1 h1
            simp only [A.den, Den.eff.injEq] at h
            subst h
            split at hf
            · rename_i sv xv hsv hxv
              obtain ⟨v', w', g1, g2, g3⟩ := copy_sound (t' := t') (ty := type) hs hu h1 hf (hmem x (by simp) _ hsv) (hmem y (by simp) _ hxv)
              refine ⟨.value v', v', φ, w', ?_, .inl rfl, g2, g3⟩
              simp only [execOp, resolve, invoke, builtin, Sem.run_bind, Sem.run_pure, Result.andThen_ok, List.map_toArray, List.map_cons, List.map_nil, g1]
            · cases hf
          · simp [A.den] at h
        · simp [A.den] at h
    · simp [A.den] at h
  case binOp op t x y u =>
    have hq : ∀ neg, (trEq P neg t x y).den ρ = .eff f → False := by
      intro neg hd
      unfold trEq at hd
      repeat' split at hd
      all_goals simp [A.den] at hd
    cases op <;> first
      | exact absurd h (fun h => hq _ h)
      | simp [A.den] at h
  case convert s d x =>
    unfold trConv at h
    split at h
    · simp [A.den] at h
    · simp [A.den] at h
    · split at h <;> simp [A.den] at h
    · split at h <;> simp [A.den] at h
    · rename_i e e' hu1 hu2
      split at h
      case isFalse => simp [A.den] at h
      rename_i hsd
      subst hsd
      split at h
      · rename_i hue
        simp only [A.den, Den.eff.injEq] at h
        subst h
        simp only [Option.bind_eq_some_iff] at hf
        obtain ⟨xv, hx, hm⟩ := hf
        exact does_val (mark_sound hs hu1 hue hm (mem x (by simp [Op.operands]) _ hx))
      · simp [A.den] at h
    · simp [A.den] at h
  all_goals
    repeat' split at h
    all_goals simp [A.den] at h
theorem any_sound {o : Oper} {f : H → Option (List (Value × H))} {l : List (Value × H)} (hs : Sim P φ σ w) (hρ : OR P φ ρ ρ') (h : (trOp P o.op).den ρ = .any f) (hf : f σ = some l) :
  ∃ q ∈ l, Does P φ σ w (execOp ρ' o) q.1 q.2 := by
 obtain ⟨dst, op, type, pos, after, guard⟩ := o
 simp only at h
 unfold trOp at h
 split at h
 case isFalse => simp [A.den] at h
 rename_i hop
 have mem : ∀ x ∈ op.operands, ∀ v, ρ x = some v → VR φ v (ρ' x) := fun x hx v hv => hρ.1 x v ((Array.all_eq_true_iff_forall_mem.1 hop) x hx) hv
 cases op <;> simp only [trOp1] at h
 case next x s =>
  split at h
  ·simp [A.den] at h
  ·rename_i hs'
   have hs' : s = false := by simpa using hs'
   subst hs'
   simp only [A.den, Den.any.injEq] at h
   subst h
   simp only [Option.bind_eq_some_iff] at hf
   obtain ⟨xv, hx, hf⟩ := hf
   obtain ⟨q, hq, v', φ', w', h1, h2, h3⟩ := nextV_sound (ty := type) hs hf (mem x (by simp [Op.operands]) _ hx)
   exact ⟨q, hq, does_val ⟨v', φ', w', h1, h2, h3⟩⟩
 case call c =>
  split at h
  ·simp [A.den] at h
  ·unfold trBuiltin at h
   repeat' split at h
   all_goals simp [A.den] at h
  ·simp [A.den] at h
 case binOp op t x y u =>
  have hq : ∀ neg, (trEq P neg t x y).den ρ = .any f → False := by
   intro neg hd
   unfold trEq at hd
   repeat' split at hd
   all_goals simp [A.den] at hd
  cases op <;> first
   |exact absurd h (fun h => hq _ h)
   |simp [A.den] at h
 case convert s d x =>
  unfold trConv at h
  repeat' split at h
  all_goals simp [A.den] at h
 all_goals
  repeat' split at h
  all_goals simp [A.den] at h
theorem call_sound {o : Oper} {fn : Fn} {xs cap : Array Value} {args : List Value} (hρ : OR P φ ρ ρ') (h : (trOp P o.op).den ρ = .call (some (.func fn xs cap)) (some args)) :
  ∃ fn' cap' args', FnR φ fn fn' ∧ VRs φ cap cap' ∧ VRs φ (xs ++ args.toArray) args' ∧ (execOp ρ' o).run P w = (invoke (.fn fn' cap') args').run P w := by
 obtain ⟨dst, op, type, pos, after, guard⟩ := o
 simp only at h
 unfold trOp at h
 split at h
 case isFalse => simp [A.den] at h
 rename_i hop
 have mem : ∀ x ∈ op.operands, ∀ v, ρ x = some v → VR φ v (ρ' x) := fun x hx v hv => hρ.1 x v ((Array.all_eq_true_iff_forall_mem.1 hop) x hx) hv
 cases op <;> simp only [trOp1] at h
 case call c =>
  split at h
  ·rename_i f hcal
   obtain ⟨cal, as, ts⟩ := c
   simp only at hcal h
   subst hcal
   simp only [A.den, Den.call.injEq] at h
   have hf := mem f (by simp [Op.operands, Call.operands]) _ h.1
   have ha := evs_VR (ρ' := ρ') (fun x hx v hv => mem x (by simp [Op.operands, Call.operands]; exact .inr (by simpa using hx)) v hv) h.2
   generalize hq : ρ' f = q at hf
   cases hf with
   |func _ fn' _ xs' _ cap' hfn h1 h2 h3 h4 =>
    refine ⟨fn', cap', xs' ++ (as.toList.map ρ').toArray, hfn, ⟨h2, h4⟩, ?_, ?_⟩
    ·refine VRs.of_get (by have := ha.1; simp at this ⊢; omega) (fun i u hu => ?_)
     by_cases hi : i < xs.size
     ·rw [Array.getElem?_append_left hi] at hu
      rw [Array.getElem?_append_left (by omega)]
      exact (show VRs φ xs xs' from ⟨h1, h3⟩).get hu
     ·rw [Array.getElem?_append_right (by omega)] at hu
      rw [Array.getElem?_append_right (by omega), ← h1]
      exact ha.get hu
    ·have e1 : (as.toList.map ρ').toArray = as.map ρ' := by apply Array.ext'; simp
     rw [e1]
     simp [execOp, resolve, hq, Deferred.ofValue]
  ·unfold trBuiltin at h
   repeat' split at h
   all_goals simp [A.den] at h
  ·simp [A.den] at h
 case binOp op t x y u =>
  have hq : ∀ neg, (trEq P neg t x y).den ρ = .call (some (.func fn xs cap)) (some args) → False := by
   intro neg hd
   unfold trEq at hd
   repeat' split at hd
   all_goals simp [A.den] at hd
  cases op <;> first
   |exact absurd h (fun h => hq _ h)
   |simp [A.den] at h
 case convert s d x =>
  unfold trConv at h
  repeat' split at h
  all_goals simp [A.den] at h
 all_goals
  repeat' split at h
  all_goals simp [A.den] at h
end
end Go.Cn
