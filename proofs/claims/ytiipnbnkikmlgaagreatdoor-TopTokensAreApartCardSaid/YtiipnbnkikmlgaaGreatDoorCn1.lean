/- An abstract run of a program, and that the model does the same: a part of the framework. Conditions: none. -/
import Derived.RangeFuncLeaves
import Derived.Below
import Derived.Orders
import Derived.Laws.StructEq
set_option linter.all false
namespace Go.Cn
open Go Go.RowKit
def big : Nat := 2 ^ 80
def capLow (c : Nat) : Nat := c % big
def csz (c : Nat) : Nat := c / big
def inex (s n : Nat) : Nat := n + big * s
theorem big_pos : 0 < big := by decide
theorem capLow_inex {s n : Nat} (h : n < big) : capLow (inex s n) = n := by simp [capLow, inex, Nat.mod_eq_of_lt h]
theorem csz_inex {s n : Nat} (h : n < big) : csz (inex s n) = s := by
 unfold csz inex
 rw [Nat.add_mul_div_left _ _ big_pos, Nat.div_eq_of_lt h, Nat.zero_add]
theorem capLow_small {n : Nat} (h : n < big) : capLow n = n := Nat.mod_eq_of_lt h
theorem csz_small {n : Nat} (h : n < big) : csz n = 0 := Nat.div_eq_of_lt h
theorem csz_zero {c : Nat} (h : csz c = 0) : c < big := by
 unfold csz at h
 rcases Nat.div_eq_zero_iff.1 h with h | h
 ·exact absurd h (by decide)
 ·exact h
structure Loc where
 r : Nat
 o : Nat
 e : Nat
abbrev Emb := Nat → Option Loc
inductive FnR (φ : Emb) : Fn → Fn → Prop
 |func (f : FuncId) : FnR φ (.func f) (.func f)
 |method (n : String) : FnR φ (.method n) (.method n)
 |methodOf (t : TypeId) (n : String) : FnR φ (.methodOf t n) (.methodOf t n)
 |via (t : TypeId) (p : Array FieldStep) (f : FuncId) (b : Bool) : FnR φ (.via t p f b) (.via t p f b)
 |yield (l : Nat) (x : Loc) (h : φ l = some x) : FnR φ (.yield l) (.yield x.r)
structure SlR (φ : Emb) (a a' : Addr) (n c c' : Nat) : Prop where
 len : n ≤ capLow c
 born : csz c ≠ 0 → ∃ x, φ a.block = some x
 exact : csz c = 0 → c' = c
 low : capLow c ≤ c'
 at_ : c' ≠ 0 → a.spot = none ∧ ∃ x, φ a.block = some x ∧ a' = ⟨x.r, x.o + a.off, none⟩ ∧ (csz c ≠ 0 → x.o + a.off + c' * csz c ≤ x.e)
inductive VR (φ : Emb) : Value → Value → Prop
 |bool (b : Bool) : VR φ (.bool b) (.bool b)
 |int (k : IntKind) (n : Int) : VR φ (.int k n) (.int k n)
 |string (s : ByteArray) : VR φ (.string s) (.string s)
 |nilPtr : VR φ (.pointer none) (.pointer none)
 |ptr (b off : Nat) (x : Loc) (h : φ b = some x) : VR φ (.pointer (some ⟨b, off, none⟩)) (.pointer (some ⟨x.r, x.o + off, none⟩))
 |nilSlice : VR φ (.slice none 0 0) (.slice none 0 0)
 |slice (a a' : Addr) (n c c' : Nat) (h : SlR φ a a' n c c') : VR φ (.slice (some a) n c) (.slice (some a') n c')
 |nilMap : VR φ (.map none) (.map none)
 |map (b : Nat) (x : Loc) (h : φ b = some x) : VR φ (.map (some b)) (.map (some x.r))
 |func (fn fn' : Fn) (xs xs' ys ys' : Array Value) (hf : FnR φ fn fn') (hx : xs.size = xs'.size) (hy : ys.size = ys'.size)
   (h1 : ∀ (i : Nat) (h : i < xs.size) (h' : i < xs'.size), VR φ xs[i] xs'[i]) (h2 : ∀ (i : Nat) (h : i < ys.size) (h' : i < ys'.size), VR φ ys[i] ys'[i]) :
   VR φ (.func fn xs ys) (.func fn' xs' ys')
 |nilFunc : VR φ .nilFunc .nilFunc
 |iface (t : TypeId) (v v' : Value) (h : VR φ v v') : VR φ (.iface t v) (.iface t v')
 |nilIface : VR φ .nilIface .nilIface
 |agg (xs xs' : Array Value) (hx : xs.size = xs'.size) (h : ∀ (i : Nat) (h : i < xs.size) (h' : i < xs'.size), VR φ xs[i] xs'[i]) : VR φ (.agg xs) (.agg xs')
 |tuple (xs xs' : Array Value) (hx : xs.size = xs'.size) (h : ∀ (i : Nat) (h : i < xs.size) (h' : i < xs'.size), VR φ xs[i] xs'[i]) : VR φ (.tuple xs) (.tuple xs')
def VRs (φ : Emb) (xs xs' : Array Value) : Prop := xs.size = xs'.size ∧ ∀ (i : Nat) (h : i < xs.size) (h' : i < xs'.size), VR φ xs[i] xs'[i]
section
variable {φ φ' : Emb}
theorem VRs.get {xs xs' : Array Value} (h : VRs φ xs xs') {i : Nat} {v : Value} (hv : xs[i]? = some v) : ∃ v', xs'[i]? = some v' ∧ VR φ v v' := by
 obtain ⟨hi, rfl⟩ := Array.getElem?_eq_some_iff.1 hv
 have hi' : i < xs'.size := h.1 ▸ hi
 exact ⟨xs'[i], by simp [hi'], h.2 i hi hi'⟩
theorem VRs.of_get {xs xs' : Array Value} (hs : xs.size = xs'.size) (h : ∀ (i : Nat) (v : Value), xs[i]? = some v → ∃ v', xs'[i]? = some v' ∧ VR φ v v') : VRs φ xs xs' := by
 refine ⟨hs, fun i hi hi' => ?_⟩
 obtain ⟨v', h1, h2⟩ := h i xs[i] (by simp [hi])
 rw [Array.getElem?_eq_getElem hi'] at h1
 injection h1 with h1
 rw [h1]; exact h2
theorem FnR.mono (h : ∀ b x, φ b = some x → φ' b = some x) {f f' : Fn} (hf : FnR φ f f') : FnR φ' f f' := by
 cases hf
 ·exact .func _
 ·exact .method _
 ·exact .methodOf _ _
 ·exact .via _ _ _ _
 ·exact .yield _ _ (h _ _ ‹_›)
theorem SlR.mono (h : ∀ b x, φ b = some x → φ' b = some x) {a a' : Addr} {n c c' : Nat} (hs : SlR φ a a' n c c') : SlR φ' a a' n c c' :=
 ⟨hs.len, fun hn => let ⟨x, hx⟩ := hs.born hn; ⟨x, h _ _ hx⟩, hs.exact, hs.low, fun hn => let ⟨h1, x, h2, h3⟩ := hs.at_ hn; ⟨h1, x, h _ _ h2, h3⟩⟩
theorem VR.mono (h : ∀ b x, φ b = some x → φ' b = some x) {v v' : Value} (hv : VR φ v v') : VR φ' v v' := by
 induction hv with
 |bool b => exact .bool b
 |int k n => exact .int k n
 |string s => exact .string s
 |nilPtr => exact .nilPtr
 |ptr b off x hb => exact .ptr _ _ _ (h _ _ hb)
 |nilSlice => exact .nilSlice
 |slice a a' n c c' hs => exact .slice _ _ _ _ _ (hs.mono h)
 |nilMap => exact .nilMap
 |map b x hb => exact .map _ _ (h _ _ hb)
 |func fn fn' xs xs' ys ys' hf hx hy h1 h2 ih1 ih2 => exact .func _ _ _ _ _ _ (hf.mono h) hx hy ih1 ih2
 |nilFunc => exact .nilFunc
 |iface t v v' hv ih => exact .iface _ _ _ ih
 |nilIface => exact .nilIface
 |agg xs xs' hx hh ih => exact .agg _ _ hx ih
 |tuple xs xs' hx hh ih => exact .tuple _ _ hx ih
theorem VRs.mono (h : ∀ b x, φ b = some x → φ' b = some x) {xs xs' : Array Value} (hv : VRs φ xs xs') : VRs φ' xs xs' :=
 ⟨hv.1, fun i h1 h2 => (hv.2 i h1 h2).mono h⟩
theorem VR.oneCell {v v' : Value} (h : VR φ v v') : v'.oneCell' = v.oneCell' := by cases h <;> rfl
theorem VRs.one {v v' : Value} (h : VR φ v v') : VRs φ #[v] #[v'] :=
 ⟨rfl, fun i h1 h2 => by
  have : i = 0 := by simp at h1; omega
  subst this; exact h⟩
theorem VR.cells {v v' : Value} (h : VR φ v v') : VRs φ v.cells v'.cells := by
 cases h with
 |agg xs xs' hx hh => exact ⟨hx, hh⟩
 |bool b => exact VRs.one (.bool b)
 |int k n => exact VRs.one (.int k n)
 |string s => exact VRs.one (.string s)
 |nilPtr => exact VRs.one .nilPtr
 |ptr b off x hb => exact VRs.one (.ptr _ _ _ hb)
 |nilSlice => exact VRs.one .nilSlice
 |slice a a' n c c' hs => exact VRs.one (.slice _ _ _ _ _ hs)
 |nilMap => exact VRs.one .nilMap
 |map b x hb => exact VRs.one (.map _ _ hb)
 |func fn fn' xs xs' ys ys' hf hx hy h1 h2 => exact VRs.one (.func _ _ _ _ _ _ hf hx hy h1 h2)
 |nilFunc => exact VRs.one .nilFunc
 |iface t v v' hv => exact VRs.one (.iface _ _ _ hv)
 |nilIface => exact VRs.one .nilIface
 |tuple xs xs' hx hh => exact VRs.one (.tuple _ _ hx hh)
theorem VR.aggs {xs xs' : Array Value} (h : VRs φ xs xs') : VR φ (.agg xs) (.agg xs') := .agg _ _ h.1 h.2
theorem VR.tuples {xs xs' : Array Value} (h : VRs φ xs xs') : VR φ (.tuple xs) (.tuple xs') := .tuple _ _ h.1 h.2
theorem VR.undef : VR φ undef undef := .tuple _ _ rfl (fun i h => by simp at h)
end
structure Rnd where
 e : Nat → Option Value
 N : Nat
 ps : Array Tmp
 assign : Code
 body : Code
inductive Blk where
 |cells (ver : Nat) (cs : List Value) (fz : Nat × Nat)
 |part (cs : List (Option Value))
 |map (ver : Nat) (es : Array MapEntry) (clock : Nat)
 |siter (ver : Nat) (s : ByteArray) (pos : Nat)
 |miter (ver : Nat) (m : Option Nat) (since : Nat) (seen : Array Nat) (stepped : Nat)
 |loop (ver : Nat) (st : LoopState) (pend : Option Code) (R : Rnd)
 |dead
 deriving Inhabited
abbrev H := Array Blk
structure ER1 (φ : Emb) (e e' : MapEntry) : Prop where
 key : VR φ e.key e'.key
 val : VR φ e.val e'.val
 born : e'.born = e.born
inductive BR (φ : Emb) : Blk → Obj → Loc → Prop
 |cells (ver : Nat) (cs : List Value) (fz : Nat × Nat) (c : Array Value) (e : TypeId) (fr : Nat × Nat) (x : Loc)
   (h : ∀ (i : Nat) (v : Value), cs[i]? = some v → ∃ v', c[x.o + i]? = some v' ∧ VR φ v v')
   (hf : ∀ i, i < cs.length → ¬ (fz.1 ≤ i ∧ i < fz.2) → ¬ (fr.1 ≤ x.o + i ∧ x.o + i < fr.2))
   (he : x.e ≤ c.size) (hg : ∀ i, x.o + cs.length ≤ i → i < x.e → ¬ (fr.1 ≤ i ∧ i < fr.2)) : BR φ (.cells ver cs fz) (.cells c e fr) x
 |part (cs : List (Option Value)) (c : Array Value) (e : TypeId) (fr : Nat × Nat) (x : Loc) (h : ∀ (i : Nat) (v : Value), cs[i]? = some (some v) → ∃ v', c[x.o + i]? = some v' ∧ VR φ v v') : BR φ (.part cs) (.cells c e fr) x
 |map (ver : Nat) (es es' : Array MapEntry) (clock : Nat) (x : Loc) (hs : es.size = es'.size) (h : ∀ (i : Nat) (h : i < es.size) (h' : i < es'.size), ER1 φ es[i] es'[i]) :
   BR φ (.map ver es clock) (.map es' clock) x
 |siter (ver : Nat) (s : ByteArray) (pos : Nat) (x : Loc) (h : x.o = 0) : BR φ (.siter ver s pos) (.stringIter s pos) x
 |miterNil (ver since : Nat) (seen : Array Nat) (stepped : Nat) (x : Loc) (h : x.o = 0) : BR φ (.miter ver none since seen stepped) (.mapIter none since seen stepped) x
 |miter (ver b : Nat) (y : Loc) (since : Nat) (seen : Array Nat) (stepped : Nat) (x : Loc) (h : φ b = some y) (h0 : x.o = 0) : BR φ (.miter ver (some b) since seen stepped) (.mapIter (some y.r) since seen stepped) x
 |loop (ver : Nat) (st : LoopState) (pend : Option Code) (R : Rnd) (q : Loop) (x : Loc) (h0 : x.o = 0) (hs : q.state = st) (hq : q.pending = pend) (hN : q.tmps.size = R.N) (hp : q.params = R.ps) (ha : q.assign = R.assign) (hb : q.body = R.body)
   (h : ∀ (t : Nat) (v : Value), R.e t = some v → ∃ v', q.tmps[t]? = some v' ∧ VR φ v v') : BR φ (.loop ver st pend R) (.loop q) x
theorem BR.mono {φ φ' : Emb} (h : ∀ b x, φ b = some x → φ' b = some x) {k : Blk} {o : Obj} {n : Loc} (hb : BR φ k o n) : BR φ' k o n := by
 cases hb with
 |cells ver cs fz c e fr x hc hf he hg => exact .cells _ _ _ _ _ _ _ (fun i v hv => let ⟨v', h1, h2⟩ := hc i v hv; ⟨v', h1, h2.mono h⟩) hf he hg
 |part cs c e fr x hc => exact .part _ _ _ _ _ (fun i v hv => let ⟨v', h1, h2⟩ := hc i v hv; ⟨v', h1, h2.mono h⟩)
 |map ver es es' clock x hs he => exact .map _ _ _ _ _ hs (fun i h1 h2 => ⟨(he i h1 h2).key.mono h, (he i h1 h2).val.mono h, (he i h1 h2).born⟩)
 |siter v s pos x h0 => exact .siter _ _ _ _ h0
 |miterNil v a b c x h0 => exact .miterNil _ _ _ _ _ h0
 |miter v b r a c d x hb h0 => exact .miter _ _ _ _ _ _ _ (h _ _ hb) h0
 |loop v st pend R q x h0 hs hq h1 h2 h3 h4 h5 => exact .loop _ _ _ _ _ _ h0 hs hq h1 h2 h3 h4 (fun t v hv => let ⟨v', g1, g2⟩ := h5 t v hv; ⟨v', g1, g2.mono h⟩)
theorem BR.notDef {φ : Emb} {k : Blk} {o : Obj} {x : Loc} (h : BR φ k o x) {ds : Option (List Deferred)} : o ≠ .deferred ds := by cases h <;> simp
def Blk.live : Blk → Prop
 |.dead => False
 |_ => True
def Blk.ver : Blk → Nat
 |.cells v _ _ | .map v _ _ | .siter v _ _ | .miter v _ _ _ _ | .loop v _ _ _ => v
 |.part _ => 0
 |.dead => 0
def Blk.le (k k' : Blk) : Prop := k' = k ∨ k' = .dead ∨ (k.live ∧ k'.live ∧ k.ver < k'.ver)
theorem Blk.le_refl (k : Blk) : k.le k := .inl rfl
theorem Blk.le_dead (k : Blk) : k.le .dead := .inr (.inl rfl)
theorem Blk.dead_le {k : Blk} (h : Blk.le .dead k) : k = .dead := by
 rcases h with h | h | h
 ·exact h
 ·exact h
 ·exact h.1.elim
theorem Blk.le_trans {a b c : Blk} (h : a.le b) (k : b.le c) : a.le c := by
 rcases h with rfl | rfl | h
 ·exact k
 ·rw [Blk.dead_le k]; exact le_dead _
 ·rcases k with rfl | rfl | k
  ·exact .inr (.inr h)
  ·exact le_dead _
  ·exact .inr (.inr ⟨h.1, k.2.1, Nat.lt_trans h.2.2 k.2.2⟩)
theorem Blk.le_anti {a b : Blk} (h : a.le b) (k : b.le a) : b = a := by
 rcases h with rfl | rfl | h
 ·rfl
 ·exact (Blk.dead_le k).symm
 ·rcases k with rfl | rfl | k
  ·rfl
  ·exact h.1.elim
  ·omega
structure Sim (P : Program) (φ : Emb) (σ : H) (w : World) : Prop where
 blk : ∀ (b : Nat) (x : Loc) (k : Blk), φ b = some x → σ[b]? = some k → k.live → ∃ ob, w.heap[x.r]? = some ob ∧ BR φ k ob x
 inj : ∀ (b b' : Nat) (x x' : Loc) (k k' : Blk), φ b = some x → φ b' = some x' → x.r = x'.r → σ[b]? = some k → σ[b']? = some k' → k.live → k'.live → b = b'
 lt : ∀ b x, φ b = some x → b < σ.size ∧ x.r < w.heap.size
 glob : ∀ g, g < P.globals.size → ∃ e, φ g = some ⟨g, 0, e⟩
structure Step (P : Program) (φ : Emb) (σ : H) (w : World) (φ' : Emb) (σ' : H) (w' : World) : Prop where
 sim : Sim P φ' σ' w'
 old : ∀ b, b < σ.size → φ' b = φ b
 size : σ.size ≤ σ'.size
 le : ∀ (b : Nat) (k : Blk), σ[b]? = some k → ∃ k', σ'[b]? = some k' ∧ k.le k'
 unborn : ∀ (b : Nat), b < σ.size → φ b = none → σ'[b]? = σ[b]?
 wsize : w.heap.size ≤ w'.heap.size
 frame : ∀ (r : Nat), r < w.heap.size → (∀ (b : Nat) (x : Loc), φ b = some x → x.r = r → σ'[b]? = σ[b]?) → w'.heap[r]? = w.heap[r]?
 fresh : ∀ (b : Nat) (x : Loc), σ.size ≤ b → φ' b = some x → x.r < w.heap.size → ∃ (b1 : Nat) (x1 : Loc), φ b1 = some x1 ∧ x1.r = x.r ∧ σ'[b1]? ≠ σ[b1]?
 os : w'.os = w.os
 tape : w'.tape = w.tape
 output : w'.output = w.output
 defs : ∀ (r : Nat), w.heap[r]? = some (.deferred (some [])) → w'.heap[r]? = some (.deferred (some []))
section
variable {P : Program} {φ φ' φ'' : Emb} {σ σ' σ'' : H} {w w' w'' : World}
theorem Step.emb (h : Step P φ σ w φ' σ' w') (hs : Sim P φ σ w) : ∀ b x, φ b = some x → φ' b = some x :=
 fun b x hb => by rw [h.old b (hs.lt b x hb).1]; exact hb
theorem Step.refl (h : Sim P φ σ w) : Step P φ σ w φ σ w :=
 ⟨h, fun _ _ => rfl, Nat.le_refl _, fun _ k hk => ⟨k, hk, Blk.le_refl _⟩, fun _ _ _ => rfl, Nat.le_refl _, fun _ _ _ => rfl,
  fun b x hb hx _ => absurd (h.lt b x hx).1 (by omega), rfl, rfl, rfl, fun _ h => h⟩
theorem Step.draw (h : Sim P φ σ w) (n : Nat) : Step P φ σ w φ σ { w with drawn := n } :=
  ⟨⟨h.blk, h.inj, h.lt, h.glob⟩, fun _ _ => rfl, Nat.le_refl _, fun _ k hk => ⟨k, hk, Blk.le_refl _⟩, fun _ _ _ => rfl, Nat.le_refl _, fun _ _ _ => rfl,
    fun b x hb hx _ => absurd (h.lt b x hx).1 (by omega), rfl, rfl, rfl, fun _ h => h⟩
theorem Step.mid (h : Step P φ σ w φ' σ' w') (k : Step P φ' σ' w' φ'' σ'' w'') {b : Nat} (hb : b < σ.size) (he : σ''[b]? = σ[b]?) : σ'[b]? = σ[b]? := by
 have h0 : σ[b]? = some σ[b] := by simp [hb]
 obtain ⟨k1, h1, l1⟩ := h.le b _ h0
 obtain ⟨k2, h2, l2⟩ := k.le b k1 h1
 rw [he, h0] at h2
 injection h2 with h2
 subst h2
 rw [h1, h0, Blk.le_anti l1 l2]
theorem Step.trans (hs : Sim P φ σ w) (h : Step P φ σ w φ' σ' w') (k : Step P φ' σ' w' φ'' σ'' w'') : Step P φ σ w φ'' σ'' w'' where
 sim := k.sim
 old b hb := (k.old b (Nat.lt_of_lt_of_le hb h.size)).trans (h.old b hb)
 size := Nat.le_trans h.size k.size
 le b q hq := let ⟨q1, h1, l1⟩ := h.le b q hq; let ⟨q2, h2, l2⟩ := k.le b q1 h1; ⟨q2, h2, Blk.le_trans l1 l2⟩
 unborn b hb hn := (k.unborn b (Nat.lt_of_lt_of_le hb h.size) (by rw [h.old b hb]; exact hn)).trans (h.unborn b hb hn)
 wsize := Nat.le_trans h.wsize k.wsize
 frame r hr hx := by
  have h1 : ∀ b x, φ b = some x → x.r = r → σ'[b]? = σ[b]? := fun b x hb hxr => h.mid k (hs.lt b x hb).1 (hx b x hb hxr)
  have h2 := h.frame r hr h1
  rw [← h2]
  refine k.frame r (Nat.lt_of_lt_of_le hr h.wsize) (fun b x hb hxr => ?_)
  by_cases hlt : b < σ.size
  ·rw [h.old b hlt] at hb
   rw [hx b x hb hxr, h1 b x hb hxr]
  ·obtain ⟨b1, x1, e1, e2, e3⟩ := h.fresh b x (by omega) hb (by omega)
   exact absurd (h1 b1 x1 e1 (by omega)) e3
 fresh b x hb hx hr := by
  by_cases hlt : b < σ'.size
  ·rw [k.old b hlt] at hx
   obtain ⟨b1, x1, e1, e2, e3⟩ := h.fresh b x hb hx hr
   exact ⟨b1, x1, e1, e2, fun e => e3 (h.mid k (hs.lt b1 x1 e1).1 e)⟩
  ·obtain ⟨b1, x1, e1, e2, e3⟩ := k.fresh b x (by omega) hx (Nat.lt_of_lt_of_le hr h.wsize)
   by_cases hl1 : b1 < σ.size
   ·rw [h.old b1 hl1] at e1
    refine ⟨b1, x1, e1, e2, fun e => e3 ?_⟩
    rw [e, h.mid k hl1 e]
   ·obtain ⟨b2, x2, f1, f2, f3⟩ := h.fresh b1 x1 (by omega) e1 (by omega)
    exact ⟨b2, x2, f1, by omega, fun e => f3 (h.mid k (hs.lt b2 x2 f1).1 e)⟩
 os := k.os.trans h.os
 tape := k.tape.trans h.tape
 output := k.output.trans h.output
 defs r hr := k.defs r (h.defs r hr)
end
abbrev Env := List (Nat × Value)
def lk : Env → Nat → Option Value
 |[], _ => none
 |p :: e, t => if p.1 = t then some p.2 else lk e t
def ev (e : Env) : Operand → Option Value
 |.tmp t => lk e t
 |.const v => some v
 |.global g => some (.pointer (some ⟨g, 0, none⟩))
 |.func f => some (.func (.func f) #[] #[])
def noFz (fz : Nat × Nat) (off n : Nat) : Bool := fz.2 ≤ fz.1 || fz.2 ≤ off || off + n ≤ fz.1
def sets (cs : List Value) (off : Nat) : List Value → List Value
 |[] => cs
 |v :: l => sets (cs.set off v) (off + 1) l
def allS : List (Option Value) → Option (List Value)
 |[] => some []
 |some v :: l => (allS l).map (v :: ·)
 |none :: _ => none
def rd1 (σ : H) (a : Addr) : Option Value :=
 match σ[a.block]? with
 |some (.cells _ cs _) => cs[a.off]?
 |some (.part cs) => (cs[a.off]?).join
 |_ => none
def rdN (σ : H) (a : Addr) (n : Nat) : Option (List Value) :=
 if n = 0 then some [] else
 match σ[a.block]? with
 |some (.cells _ cs _) => if a.off + n ≤ cs.length then some ((cs.drop a.off).take n) else none
 |some (.part cs) => if a.off + n ≤ cs.length then allS ((cs.drop a.off).take n) else none
 |_ => none
def wrN (σ : H) (a : Addr) (l : List Value) : Option H :=
 if l = [] then some σ else
 match σ[a.block]? with
 |some (.cells v cs fz) =>
  if a.off + l.length ≤ cs.length ∧ noFz fz a.off l.length = true ∧ l.all Value.oneCell' = true then some (σ.setIfInBounds a.block (.cells (v + 1) (sets cs a.off l) fz)) else none
 |_ => none
def binInt (op : BinOp) (k : IntKind) (a b : Int) : Option Value :=
 match op with
 |.add => some (.int k (k.wrap (a + b)))
 |.sub => some (.int k (k.wrap (a - b)))
 |.mul => some (.int k (k.wrap (a * b)))
 |.quo => if b = 0 then none else some (.int k (k.wrap (a.tdiv b)))
 |.rem => if b = 0 then none else some (.int k (a.tmod b))
 |.and => some (.int k (k.wrap (BitVec.ofInt k.bits a &&& BitVec.ofInt k.bits b).toNat))
 |.or => some (.int k (k.wrap (BitVec.ofInt k.bits a ||| BitVec.ofInt k.bits b).toNat))
 |.xor => some (.int k (k.wrap (BitVec.ofInt k.bits a ^^^ BitVec.ofInt k.bits b).toNat))
 |.andNot => some (.int k (k.wrap (BitVec.ofInt k.bits a &&& ~~~ BitVec.ofInt k.bits b).toNat))
 |.eql => some (.bool (decide (a = b)))
 |.neq => some (.bool (!decide (a = b)))
 |.lss => some (.bool (decide (a < b)))
 |.leq => some (.bool (decide (a ≤ b)))
 |.gtr => some (.bool (decide (b < a)))
 |.geq => some (.bool (decide (b ≤ a)))
 |_ => none
def shift (op : BinOp) (k : IntKind) (a b : Int) : Option Value :=
 if b < 0 then none else
 match op with
 |.shl => some (.int k (k.wrap (a * 2 ^ (min b.toNat k.bits))))
 |.shr => some (.int k (a.fdiv (2 ^ (min b.toNat k.bits))))
 |_ => none
def binStr (op : BinOp) (a b : ByteArray) : Option Value :=
 match op with
 |.add => if a.size + b.size ≤ 9223372036854775807 then some (.string (a ++ b)) else none
 |.eql => some (.bool (decide (a = b)))
 |.neq => some (.bool (!decide (a = b)))
 |.lss => some (.bool (Op.bytesLess a.toList b.toList))
 |.leq => some (.bool (Op.bytesLess a.toList b.toList || decide (a = b)))
 |.gtr => some (.bool (!(Op.bytesLess a.toList b.toList || decide (a = b))))
 |.geq => some (.bool (!Op.bytesLess a.toList b.toList))
 |_ => none
def isShift : BinOp → Bool
 |.shl | .shr => true
 |_ => false
def bin (op : BinOp) (x y : Value) : Option Value :=
 match x, y with
 |.int k a, .int k' b => if isShift op then shift op k a b else if k = k' then binInt op k a b else none
 |.string a, .string b => binStr op a b
 |_, _ => none
def leafEq : Value → Value → Option Bool
 |.int k a, .int k' b => if k = k' then some (decide (a = b)) else none
 |.bool a, .bool b => some (decide (a = b))
 |.string a, .string b => some (decide (a = b))
 |_, _ => none
inductive Leaf where
 |int (k : IntKind) | bool | string
 deriving DecidableEq
def Leaf.fits : Leaf → Value → Bool
 |.int k, .int k' _ => k = k'
 |.bool, .bool _ => true
 |.string, .string _ => true
 |_, _ => false
def aggEq : List Leaf → List Value → List Value → Option Bool
 |[], [], [] => some true
 |l :: ls, x :: xs, y :: ys =>
  if l.fits x = true ∧ l.fits y = true then
   match leafEq x y, aggEq ls xs ys with
   |some a, some b => some (a && b)
   |_, _ => none
  else none
 |_, _, _ => none
def neg1 (neg : Bool) (b : Bool) : Value := .bool (if neg then !b else b)
def isNil : Nat → Value → Option Bool
 |0, .pointer a => some a.isNone
 |1, .slice a _ _ => some a.isNone
 |2, .map a => some a.isNone
 |3, .nilFunc => some true
 |3, .func .. => some false
 |_, _ => none
def unop (op : UnOp) (x : Value) : Option Value :=
 match op, x with
 |.neg, .int k n => some (.int k (k.wrap (0 - n)))
 |.xor, .int k n => some (.int k (k.wrap (BitVec.ofInt k.bits (if k.signed then -1 else k.max) ^^^ BitVec.ofInt k.bits n).toNat))
 |.not, .bool b => some (.bool !b)
 |_, _ => none
def partOf (n : Option Nat) (cs : Array Value) (off : Nat) : Option Value :=
 match n with
 |none => cs[off]?
 |some n => some (.agg (cs.extract off (off + n)))
def asI : Value → Option Int
 |.int _ n => some n
 |_ => none
def bnd (x : Option Value) (d y : Nat) : Option Nat :=
 match x with
 |none => some d
 |some v =>
  match asI v with
  |some i => if 0 ≤ i ∧ i ≤ y then some i.toNat else none
  |none => none
def bnds (len cap : Nat) (lo hi mx : Option Value) : Option (Nat × Nat × Nat) :=
 match mx, hi with
 |some _, none => none
 |_, _ =>
  match bnd mx cap (capLow cap) with
  |none => none
  |some m =>
   match bnd hi len (capLow m) with
   |none => none
   |some h =>
    match bnd lo 0 h with
    |none => none
    |some l => some (l, h, m)
def sliceV (size : Nat) (x : Value) (lo hi mx : Option Value) : Option Value :=
 match x with
 |.slice a len cap =>
  if csz cap = 0 ∨ csz cap = size then
   match bnds len cap lo hi mx with
   |some (l, h, m) => some (.slice (a.map fun a => ⟨a.block, a.off + l * size, none⟩) (h - l) (m - l))
   |none => none
  else none
 |_ => none
def sliceStr (x : Value) (lo hi : Option Value) : Option Value :=
 match x with
 |.string s =>
  match bnd hi s.size s.size with
  |none => none
  |some h =>
   match bnd lo 0 h with
   |none => none
   |some l => some (.string (s.extract l h))
 |_ => none
def sliceArr (n size : Nat) (x : Value) (lo hi mx : Option Value) : Option Value :=
 match x with
 |.pointer (some a) =>
  match bnds n n lo hi mx with
  |some (l, h, m) => some (.slice (some ⟨a.block, a.off + l * size, none⟩) (h - l) (m - l))
  |none => none
 |_ => none
def fillL (cells : List Value) : List (Nat × Nat × Option Value) → Option (List Value)
 |[] => some cells
 |(off, size, v) :: r =>
  match v with
  |none => none
  |some v => if v.cells.size = size ∧ off + size ≤ cells.length then fillL (sets cells off v.cells.toList) r else none
def minV (isMax : Bool) : Value → List Value → Option Value
 |v, [] => some v
 |.int k x, .int k' y :: r => if k = k' then minV isMax (.int k (if isMax then (if x < y then y else x) else (if y < x then y else x))) r else none
 |_, _ => none
def bytesOf : List Value → Option (List UInt8)
 |[] => some []
 |.int .u8 n :: r => (bytesOf r).map (UInt8.ofNat n.toNat :: ·)
 |_ => none
def byteCells (s : ByteArray) : List Value := s.data.toList.map fun b => .int .u8 b.toNat
def xcells (σ : H) (size : Nat) (x : Value) : Option (Nat × List Value) :=
 match x with
 |.string s => if size = 1 then some (s.size, byteCells s) else none
 |.slice none m _ => if m = 0 then some (0, []) else none
 |.slice (some a) m _ => (rdN σ a (m * size)).map (m, ·)
 |_ => none
def noFzAt (σ : H) (b : Nat) : Bool :=
 match σ[b]? with
 |some (.cells _ _ fz) => decide (fz.2 ≤ fz.1)
 |_ => false
def append (size bytes : Nat) (s x : Value) (σ : H) : Option (Value × H) :=
  match s with
  | .slice base len cap =>
    match xcells σ size x with
    | none => none
    | some (m, new) =>
      if len + m ≤ capLow cap then
        match base with
        | none => if m = 0 then some (.slice none len cap, σ) else none
        | some a => (wrN σ ⟨a.block, a.off + len * size, none⟩ new).map fun σ' => (.slice base (len + m) cap, σ')
      else if (len + m) * bytes ≤ 140737488355328 ∧ 0 < bytes then
        match base with
        | none => if len = 0 then some (.slice (some ⟨σ.size, 0, none⟩) m (inex size m), σ.push (.cells 0 new (0, 0))) else none
        | some a =>
          match rdN σ a (len * size) with
          | none => none
          | some old =>
            if csz cap = 0 then some (.slice (some ⟨σ.size, 0, none⟩) (len + m) (inex size (len + m)), σ.push (.cells 0 (old ++ new) (0, 0)))
            else if csz cap = size ∧ noFzAt σ a.block = true ∧ new.all Value.oneCell' = true then
              some (.slice (some ⟨σ.size, 0, none⟩) (len + m) (inex size (len + m)), (σ.setIfInBounds a.block .dead).push (.cells 0 (old ++ new) (0, 0)))
            else none
      else none
  | _ => none
def copyV (size : Nat) (d x : Value) (σ : H) : Option (Value × H) :=
 match d with
 |.slice base dLen _ =>
  match xcells σ size x with
  |none => none
  |some (m, new) =>
   match base with
   |none => some (.int .i64 0, σ)
   |some a => (wrN σ a (new.take (min m dLen * size))).map fun σ' => (.int .i64 (min m dLen : Nat), σ')
 |_ => none
def findK (k : Value) : List MapEntry → Nat → Option (Option (Nat × Value))
 |[], _ => some none
 |e :: es, i =>
  match leafEq k e.key with
  |some true => some (some (i, e.val))
  |some false => findK k es (i + 1)
  |none => none
def mapOf (σ : H) (x : Value) : Option (Array MapEntry) :=
 match x with
 |.map none => some #[]
 |.map (some b) => match σ[b]? with | some (.map _ es _) => some es | _ => none
 |_ => none
def lookupV (lf : Leaf) (zero : Value) (ok : Bool) (x k : Value) (σ : H) : Option Value :=
 match mapOf σ x with
 |none => none
 |some es =>
  if lf.fits k = true then
   match findK k es.toList 0 with
   |none => none
   |some none => some (if ok then .tuple #[zero, .bool false] else zero)
   |some (some (_, v)) => some (if ok then .tuple #[v, .bool true] else v)
  else none
def mapPut (lf : Leaf) (x k v : Value) (σ : H) : Option H :=
 match x with
 |.map (some b) =>
  match σ[b]? with
  |some (.map ver es clock) =>
   if lf.fits k = true then
    match findK k es.toList 0 with
    |none => none
    |some (some (i, _)) => some (σ.setIfInBounds b (.map (ver + 1) (es.modify i fun e => { e with key := k, val := v }) clock))
    |some none => some (σ.setIfInBounds b (.map (ver + 1) (es.push { key := k, val := v, born := clock }) (clock + 1)))
   else none
  |_ => none
 |_ => none
def mapDel (lf : Leaf) (x k : Value) (σ : H) : Option H :=
 match x with
 |.map (some b) =>
  match σ[b]? with
  |some (.map ver es clock) =>
   if lf.fits k = true then
    match findK k es.toList 0 with
    |none => none
    |some (some (i, _)) => some (σ.setIfInBounds b (.map (ver + 1) (es.eraseIdxIfInBounds i) clock))
    |some none => some (σ.setIfInBounds b (.map (ver + 1) es clock))
   else none
  |_ => none
 |_ => none
def mapClr (x : Value) (σ : H) : Option H :=
 match x with
 |.map (some b) =>
  match σ[b]? with
  |some (.map ver _ clock) => some (σ.setIfInBounds b (.map (ver + 1) #[] clock))
  |_ => none
 |_ => none
def rangeV (x : Value) (σ : H) : Option (Value × H) :=
 match x with
 |.map none => some (.pointer (some ⟨σ.size, 0, none⟩), σ.push (.miter 0 none 0 #[] 0))
 |.map (some b) =>
  match σ[b]? with
  |some (.map _ _ clock) => some (.pointer (some ⟨σ.size, 0, none⟩), σ.push (.miter 0 (some b) clock #[] clock))
  |_ => none
 |_ => none
def leftV (es : Array MapEntry) (seen : Array Nat) : Array MapEntry := es.filter fun e => !seen.contains e.born
def nextV (x : Value) (σ : H) : Option (List (Value × H)) :=
 match x with
 |.pointer (some ⟨r, 0, none⟩) =>
  match σ[r]? with
  |some (.miter _ none _ _ _) => some [(.tuple #[.bool false], σ)]
  |some (.miter ver (some b) since seen stepped) =>
   match σ[b]? with
   |some (.map _ es clock) =>
    if (∀ e ∈ es.toList, e.born < since) ∧ since ≤ stepped then
     if (leftV es seen).size = 0 then some [(.tuple #[.bool false], σ)]
     else some ((leftV es seen).toList.map fun e => (.tuple #[.bool true, e.key, e.val], σ.setIfInBounds r (.miter (ver + 1) (some b) since (seen.push e.born) clock)))
    else none
   |_ => none
  |_ => none
 |_ => none
def entryV (x : Value) (σ : H) : Option Value :=
 match x with
 |.pointer (some ⟨r, 0, none⟩) =>
  match σ[r]? with
  |some (.miter _ (some b) _ seen stepped) =>
   match seen.back?, σ[b]? with
   |some stamp, some (.map _ es clock) => if clock = stepped then (es.toList.find? (·.born == stamp)).map fun e => .tuple #[e.key, e.val] else none
   |_, _ => none
  |_ => none
 |_ => none
def markV (v : Value) (σ : H) : Option (Value × H) :=
 match v with
 |.slice (some ⟨b, off, none⟩) n c =>
  match σ[b]? with
  |some (.cells _ cs _) => if csz c = 0 ∧ c ≠ 0 then some (.slice (some ⟨σ.size, off, none⟩) n c, (σ.setIfInBounds b .dead).push (.cells 0 cs (0, cs.length))) else none
  |_ => none
 |_ => none
inductive A where
 |move (x : Operand)
 |pick (c a b : Operand)
 |box (x : Operand)
 |alloc (z : Value)
 |build (zero : List Value) (parts : List (Nat × Nat × Operand))
 |buildSlice (len : Nat) (zero : List Value) (parts : List (Nat × Nat × Operand))
 |load (n : Option Nat) (a : Operand)
 |store (n : Nat) (a v : Operand)
 |nilCheck (x : Operand)
 |bin (op : BinOp) (x y : Operand)
 |eqBool (neg : Bool) (x y : Operand)
 |eqAgg (neg : Bool) (ls : List Leaf) (x y : Operand)
 |eqNil (k : Nat) (neg : Bool) (x y : Operand)
 |un (op : UnOp) (x : Operand)
 |convInt (k : IntKind) (x : Operand)
 |convStr (x : Operand)
 |strBytes (x : Operand)
 |bytesStr (x : Operand)
 |mark (x : Operand)
 |fieldAddr (off : Nat) (x : Operand)
 |field (off : Nat) (n : Option Nat) (x : Operand)
 |indexAddr (size : Nat) (x i : Operand)
 |indexArr (len size : Nat) (x i : Operand)
 |indexAgg (len size : Nat) (n : Option Nat) (x i : Operand)
 |indexStr (x i : Operand)
 |slice (size : Nat) (x : Operand) (lo hi mx : Option Operand)
 |sliceStr (x : Operand) (lo hi : Option Operand)
 |sliceArr (n size : Nat) (x : Operand) (lo hi mx : Option Operand)
 |s2ap (n : Nat) (x : Operand)
 |extract (x : Operand) (i : Nat)
 |makeFunc (fn : Fn) (first captured : List Operand)
 |makeSlice (bytes : Nat) (zero : List Value) (len cap : Operand)
 |makeMap
 |len (x : Operand)
 |lenStr (x : Operand)
 |lenC (n : Nat)
 |lenMap (x : Operand)
 |minmax (isMax : Bool) (xs : List Operand)
 |append (size bytes : Nat) (s x : Operand)
 |copy (size : Nat) (d x : Operand)
 |lookup (lf : Leaf) (zero : Value) (ok : Bool) (x k : Operand)
 |mapPut (lf : Leaf) (x k v : Operand)
 |mapDel (lf : Leaf) (x k : Operand)
 |mapClr (x : Operand)
 |mkIter (x : Operand)
 |next (x : Operand)
 |entry (x : Operand)
 |call (f : Operand) (args : List Operand)
 |bad
inductive Den where
 |pure (v : Option Value)
 |read (f : H → Option Value)
 |alloc (x : Option (Blk × (Nat → Value)))
 |eff (f : H → Option (Value × H))
 |any (f : H → Option (List (Value × H)))
 |call (f : Option Value) (args : Option (List Value))
 |bad
def evs (ρ : Operand → Option Value) : List Operand → Option (List Value)
 |[] => some []
 |x :: r => match ρ x, evs ρ r with | some v, some vs => some (v :: vs) | _, _ => none
def opt (ρ : Operand → Option Value) : Option Operand → Option (Option Value)
 |none => some none
 |some x => (ρ x).map some
def A.den (ρ : Operand → Option Value) : A → Den
 |.move x => .pure (ρ x)
 |.pick c a b => .pure (match ρ c with | some (.bool t) => if t then ρ a else ρ b | _ => none)
 |.box x => .alloc ((ρ x).map fun v => (.cells 0 v.cells.toList (0, 0), fun n => .pointer (some ⟨n, 0, none⟩)))
 |.alloc v => .alloc (some (.cells 0 v.cells.toList (0, 0), fun n => .pointer (some ⟨n, 0, none⟩)))
 |.build z ps => .pure ((fillL z (ps.map fun p => (p.1, p.2.1, ρ p.2.2))).map fun l => .agg l.toArray)
 |.buildSlice n z ps => .alloc ((fillL z (ps.map fun p => (p.1, p.2.1, ρ p.2.2))).map fun l => (.cells 0 l (0, 0), fun k => .slice (some ⟨k, 0, none⟩) n n))
 |.load n a => .read fun σ =>
   match ρ a with
   |some (.pointer (some a)) => match n with | none => rd1 σ a | some n => (rdN σ a n).map fun l => .agg l.toArray
   |_ => none
 |.store n a v => .eff fun σ =>
   match ρ a, ρ v with
   |some (.pointer (some a)), some v => if v.cells.size = n then (wrN σ a v.cells.toList).map fun σ' => (undef, σ') else none
   |_, _ => none
 |.nilCheck x => .pure (match ρ x with | some (.pointer (some a)) => some (.pointer (some a)) | some (.func fn a b) => (match fn with | .method _ => none | _ => some (.func fn a b)) | _ => none)
 |.bin op x y => .pure (match ρ x, ρ y with | some x, some y => Cn.bin op x y | _, _ => none)
 |.eqBool neg x y => .pure (match ρ x, ρ y with | some (.bool a), some (.bool b) => some (neg1 neg (decide (a = b))) | _, _ => none)
 |.eqAgg neg ls x y => .pure (match ρ x, ρ y with | some (.agg x), some (.agg y) => (aggEq ls x.toList y.toList).map (neg1 neg) | _, _ => none)
 |.eqNil k neg x y => .pure (match ρ x, ρ y with | some x, some y => (match isNil k x, isNil k y with | some a, some true => some (neg1 neg a) | some true, some b => some (neg1 neg b) | _, _ => none) | _, _ => none)
 |.un op x => .pure ((ρ x).bind (unop op))
 |.convInt k x => .pure (match ρ x with | some (.int _ n) => some (.int k (k.wrap n)) | _ => none)
 |.convStr x => .pure (match ρ x with | some (.string s) => some (.string s) | _ => none)
 |.strBytes x => .alloc (match ρ x with | some (.string s) => if s.size < big then some (.cells 0 (byteCells s) (0, 0), fun n => .slice (some ⟨n, 0, none⟩) s.size (inex 1 s.size)) else none | _ => none)
 |.bytesStr x => .read fun σ =>
   match ρ x with
   |some (.slice none _ _) => some (.string .empty)
   |some (.slice (some a) n _) => ((rdN σ a n).bind bytesOf).map fun l => .string ⟨l.toArray⟩
   |_ => none
 |.fieldAddr off x => .pure (match ρ x with | some (.pointer (some a)) => some (.pointer (some ⟨a.block, a.off + off, none⟩)) | _ => none)
 |.field off n x => .pure (match ρ x with | some (.agg cs) => partOf n cs off | _ => none)
 |.indexAddr size x i => .pure (match ρ x, ρ i with
   |some (.slice (some a) n _), some (.int _ i) => if 0 ≤ i ∧ i < n then some (.pointer (some ⟨a.block, a.off + i.toNat * size, none⟩)) else none
   |_, _ => none)
 |.indexArr ln size x i => .pure (match ρ x, ρ i with
   |some (.pointer (some a)), some (.int _ i) => if 0 ≤ i ∧ i < ln then some (.pointer (some ⟨a.block, a.off + i.toNat * size, none⟩)) else none
   |_, _ => none)
 |.indexAgg ln size n x i => .pure (match ρ x, ρ i with
   |some (.agg cs), some (.int _ i) => if 0 ≤ i ∧ i < ln then partOf n cs (i.toNat * size) else none
   |_, _ => none)
 |.indexStr x i => .pure (match ρ x, ρ i with
   |some (.string s), some (.int _ i) => if 0 ≤ i then (s[i.toNat]?).map fun b => .int .u8 b.toNat else none
   |_, _ => none)
 |.slice size x lo hi mx => .pure (match ρ x, opt ρ lo, opt ρ hi, opt ρ mx with | some x, some lo, some hi, some mx => sliceV size x lo hi mx | _, _, _, _ => none)
 |.sliceStr x lo hi => .pure (match ρ x, opt ρ lo, opt ρ hi with | some x, some lo, some hi => Cn.sliceStr x lo hi | _, _, _ => none)
 |.sliceArr n size x lo hi mx => .pure (match ρ x, opt ρ lo, opt ρ hi, opt ρ mx with | some x, some lo, some hi, some mx => Cn.sliceArr n size x lo hi mx | _, _, _, _ => none)
 |.s2ap n x => .pure (match ρ x with
   |some (.slice (some a) m _) => if n ≤ m ∧ 0 < n then some (.pointer (some ⟨a.block, a.off, none⟩)) else none
   |_ => none)
 |.extract x i => .pure (match ρ x with | some (.tuple vs) => vs[i]? | _ => none)
 |.makeFunc fn a b => .pure (match evs ρ a, evs ρ b with | some a, some b => some (.func fn a.toArray b.toArray) | _, _ => none)
 |.makeSlice bytes z n c => .alloc (match ρ n, ρ c with
   |some (.int .i64 n), some (.int .i64 c) => if 0 ≤ n ∧ n ≤ c ∧ bytes * c ≤ 140737488355328 ∧ c < 9223372036854775808 then
     some (.cells 0 ((List.replicate c.toNat z).flatten) (0, 0), fun k => .slice (some ⟨k, 0, none⟩) n.toNat c.toNat) else none
   |_, _ => none)
 |.makeMap => .alloc (some (.map 0 #[] 0, fun n => .map (some n)))
 |.len x => .pure (match ρ x with | some (.slice _ n _) => some (.int .i64 n) | _ => none)
 |.lenStr x => .pure (match ρ x with | some (.string s) => some (.int .i64 s.size) | _ => none)
 |.lenC n => .pure (some (.int .i64 n))
 |.lenMap x => .read fun σ => (ρ x).bind fun x => (mapOf σ x).map fun es => .int .i64 es.size
 |.minmax b xs => .pure (match evs ρ xs with | some (v :: r) => minV b v r | _ => none)
 |.mark x => .eff fun σ => (ρ x).bind fun x => markV x σ
 |.append size bytes s x => .eff fun σ => match ρ s, ρ x with | some s, some x => Cn.append size bytes s x σ | _, _ => none
 |.copy size d x => .eff fun σ => match ρ d, ρ x with | some d, some x => copyV size d x σ | _, _ => none
 |.lookup lf z ok x k => .read fun σ => match ρ x, ρ k with | some x, some k => lookupV lf z ok x k σ | _, _ => none
 |.mapPut lf x k v => .eff fun σ => match ρ x, ρ k, ρ v with | some x, some k, some v => (Cn.mapPut lf x k v σ).map fun σ' => (undef, σ') | _, _, _ => none
 |.mapDel lf x k => .eff fun σ => match ρ x, ρ k with | some x, some k => (Cn.mapDel lf x k σ).map fun σ' => (undef, σ') | _, _ => none
 |.mapClr x => .eff fun σ => (ρ x).bind fun x => (Cn.mapClr x σ).map fun σ' => (undef, σ')
 |.mkIter x => .eff fun σ => (ρ x).bind fun x => rangeV x σ
 |.next x => .any fun σ => (ρ x).bind fun x => nextV x σ
 |.entry x => .read fun σ => (ρ x).bind fun x => entryV x σ
 |.call f args => .call (ρ f) (evs ρ args)
 |.bad => .bad
def constLeaf : Value → Bool
 |.bool _ | .int _ _ | .string _ | .pointer none | .slice none 0 0 | .map none | .nilFunc | .nilIface => true
 |_ => false
def constOk : Value → Bool
 |.agg cs => cs.all constLeaf
 |.tuple cs => cs.all constLeaf
 |.func (.func _) xs ys => xs.isEmpty && ys.isEmpty
 |v => constLeaf v
def opdOk (P : Program) : Operand → Bool
 |.tmp _ => true
 |.const v => constOk v
 |.global g => decide (g < P.globals.size)
 |.func _ => true
def zeroOf (P : Program) (t : TypeId) : Option Value := (P.info? t).bind (·.zero)
def szOf (P : Program) (t : TypeId) : Option Nat := (P.info? t).map (·.size)
def aggOf (P : Program) (t : TypeId) : Option Bool :=
 (P.underlying t).map fun | .struct _ | .array _ _ => true | _ => false
def shapeOf (P : Program) (t : TypeId) : Option (Option Nat) :=
 match aggOf P t, szOf P t with
 |some true, some n => some (some n)
 |some false, some _ => some none
 |_, _ => none
def oneLeaf (P : Program) (t : TypeId) : Option Leaf :=
 match P.underlying t with
 |some (.int k) => some (.int k)
 |some .bool => some .bool
 |some .string => some .string
 |_ => none
def leavesGo (P : Program) (f : TypeId → Option (List Leaf)) : List Field → Nat → Option (List Leaf)
 |[], _ => some []
 |fd :: fs, off =>
  if fd.name = "_" ∨ fd.offset ≠ off then none else
  match f fd.type, szOf P fd.type with
  |some l, some s =>
   if l.length = s then
    match leavesGo P f fs (off + s) with
    |some r => some (l ++ r)
    |none => none
   else none
  |_, _ => none
def leaves (P : Program) : Nat → TypeId → Option (List Leaf)
 |0, _ => none
 |d + 1, t =>
  match P.underlying t with
  |some (.int k) => some [.int k]
  |some .bool => some [.bool]
  |some .string => some [.string]
  |some (.struct fs) => if P.stoodInHeld t then none else leavesGo P (leaves P d) fs.toList 0
  |some (.array n e) =>
   match leaves P d e, szOf P e with
   |some l, some s => if l.length = s then some (List.replicate n l).flatten else none
   |_, _ => none
  |_ => none
def partsOf (f : Nat → Option (Nat × Nat)) : List (Nat × Operand) → Option (List (Nat × Nat × Operand))
 |[] => some []
 |(i, x) :: r =>
  match f i, partsOf f r with
  |some (off, size), some l => some ((off, size, x) :: l)
  |_, _ => none
def fieldPlaces (P : Program) (fs : Array Field) (i : Nat) : Option (Nat × Nat) :=
 match fs[i]? with
 |some f => (szOf P f.type).map (f.offset, ·)
 |none => none
def zeroRow (P : Program) (e : TypeId) (n : Nat) : Option (List Value) :=
 if n = 0 then some [] else
 match zeroOf P e, szOf P e with
 |some z, some s => if z.cells.size = s ∧ constOk z = true then some (List.replicate n z.cells.toList).flatten else none
 |_, _ => none
def trConv (P : Program) (src dst : TypeId) (x : Operand) : A :=
 match P.underlying src, P.underlying dst with
 |some (.int _), some (.int k) => .convInt k x
 |some .string, some .string => .convStr x
 |some .string, some (.slice e) => match P.underlying e with | some (.int .u8) => .strBytes x | _ => .bad
 |some (.slice e), some .string => match P.underlying e with | some (.int .u8) => .bytesStr x | _ => .bad
 |some (.slice e), some (.slice _) => if src = dst then match P.underlying e with | some (.int .u8) => .mark x | _ => .bad else .bad
 |_, _ => .bad
def trEq (P : Program) (neg : Bool) (t : TypeId) (x y : Operand) : A :=
 match P.underlying t with
 |some (.int _) | some .string => .bin (if neg then .neq else .eql) x y
 |some .bool => .eqBool neg x y
 |some (.struct _) | some (.array _ _) => if P.eqGuardType P.depth t then .bad else match leaves P 9 t with | some ls => .eqAgg neg ls x y | none => .bad
 |some (.pointer _) => .eqNil 0 neg x y
 |some (.slice _) => .eqNil 1 neg x y
 |some (.map _ _) => .eqNil 2 neg x y
 |some (.func ..) => .eqNil 3 neg x y
 |_ => .bad
def trBuiltin (P : Program) (b : Builtin) (ts : Array TypeId) (xs : Array Operand) : A :=
 match b, ts.toList, xs.toList with
 |.len, t :: _, x :: _ =>
  match P.underlying t with
  |some .string => .lenStr x
  |some (.slice _) => .len x
  |some (.array n _) => .lenC n
  |some (.pointer a) => match P.underlying a with | some (.array n _) => .lenC n | _ => .bad
  |some (.map _ _) => .lenMap x
  |_ => .bad
 |.min, _, x :: r => .minmax false (x :: r)
 |.max, _, x :: r => .minmax true (x :: r)
 |.append, [t, t'], [s, x] =>
  match P.underlying t, P.underlying t' with
  |some (.slice e), some (.slice _) | some (.slice e), some .string => match szOf P e, (P.info? e).map (·.bytes), zeroOf P e with | some s1, some b1, some z => if z.cells.size = s1 ∧ 0 < s1 then .append s1 b1 s x else .bad | _, _, _ => .bad
  |_, _ => .bad
 |.copy, [t, _], [s, x] =>
  match P.underlying t with
  |some (.slice e) => match szOf P e with | some s1 => .copy s1 s x | _ => .bad
  |_ => .bad
 |.delete, t :: _, [m, k] =>
  match P.underlying t with
  |some (.map kt _) => match oneLeaf P kt with | some lf => .mapDel lf m k | none => .bad
  |_ => .bad
 |.clear, t :: _, [m] => match P.underlying t with | some (.map _ _) => .mapClr m | _ => .bad
 |_, _, _ => .bad
def trOp1 (P : Program) : Op → A
 |.move x | .assign x => .move x
 |.pick c a b => .pick c a b
 |.alloc t => match zeroOf P t with | some z => if constOk z then .alloc z else .bad | none => .bad
 |.box _ x => .box x
 |.build t ps =>
  match P.underlying t, zeroOf P t with
  |some (.struct fs), some z => if constOk z = true ∧ fs.all (fun f => (szOf P f.type).isSome) = true then match partsOf (fieldPlaces P fs) ps.toList with | some l => .build z.cells.toList l | none => .bad else .bad
  |some (.array _ e), some z => if constOk z = true then match szOf P e with | some s => (match partsOf (fun i => some (i * s, s)) ps.toList with | some l => .build z.cells.toList l | none => .bad) | none => .bad else .bad
  |_, _ => .bad
 |.buildSlice t n ps =>
  match P.underlying t with
  |some (.slice e) =>
   match szOf P e, zeroRow P e n with
   |some s, some z => if n * s ≤ 2 ^ 24 ∧ n < big ∧ z.length = n * s then match partsOf (fun i => some (i * s, s)) ps.toList with | some l => .buildSlice n z l | none => .bad else .bad
   |_, _ => .bad
  |_ => .bad
 |.load t a => match shapeOf P t with | some n => .load n a | none => .bad
 |.store t a v => match szOf P t with | some n => .store n a v | none => .bad
 |.nilCheck x => .nilCheck x
 |.binOp op t x y _ =>
  match op with
  |.eql => trEq P false t x y
  |.neq => trEq P true t x y
  |op => .bin op x y
 |.unOp op _ x => .un op x
 |.convert s d x => trConv P s d x
 |.sliceToArrayPointer t x => match P.underlying t with | some (.array n _) => .s2ap n x | _ => .bad
 |.makeFunc fn a b => match fn with | .func _ => .makeFunc fn a.toList b.toList | _ => .bad
 |.makeMap t r => match P.underlying t, r with | some (.map _ _), none => .makeMap | some (.map _ _), some (.const (.int _ _)) => .makeMap | _, _ => .bad
 |.makeSlice t n c =>
  match P.underlying t with
  |some (.slice e) => match zeroOf P e, szOf P e, (P.info? e).map (·.bytes) with
   |some z, some s, some b => if z.cells.size = s ∧ constOk z = true ∧ 0 < s then .makeSlice b z.cells.toList n c else .bad
   |_, _, _ => .bad
  |_ => .bad
 |.slice t x lo hi mx =>
  match P.underlying t with
  |some .string => if mx.isSome then .bad else .sliceStr x lo hi
  |some (.slice e) => match szOf P e with | some s => .slice s x lo hi mx | none => .bad
  |some (.array n e) => match szOf P e with | some s => if n < big then .sliceArr n s x lo hi mx else .bad | none => .bad
  |some (.pointer a) => match P.underlying a with | some (.array n e) => (match szOf P e with | some s => if n < big then .sliceArr n s x lo hi mx else .bad | none => .bad) | _ => .bad
  |_ => .bad
 |.fieldAddr t x f =>
  match P.underlying t with
  |some (.struct fs) => match fs[f]? with | some fd => (match szOf P fd.type with | some (_ + 1) => .fieldAddr fd.offset x | _ => .bad) | none => .bad
  |_ => .bad
 |.field t x f =>
  match P.underlying t with
  |some (.struct fs) => match fs[f]? with | some fd => (match shapeOf P fd.type with | some n => .field fd.offset n x | none => .bad) | none => .bad
  |_ => .bad
 |.indexAddr t x i =>
  match P.underlying t with
  |some (.slice e) => match szOf P e with | some s => .indexAddr s x i | none => .bad
  |some (.array n e) => match szOf P e with | some s => .indexArr n s x i | none => .bad
  |_ => .bad
 |.index t x i =>
  match P.underlying t with
  |some (.array n e) => match szOf P e, shapeOf P e with | some s, some m => .indexAgg n s m x i | _, _ => .bad
  |some .string => .indexStr x i
  |_ => .bad
 |.extract x i => .extract x i
 |.lookup t x k ok =>
  match P.underlying t with
  |some (.map kt e) => match oneLeaf P kt, zeroOf P e with | some lf, some z => if constOk z then .lookup lf z ok x k else .bad | _, _ => .bad
  |_ => .bad
 |.mapUpdate t m k v | .insert t m k v =>
  match P.underlying t with
  |some (.map kt _) => match oneLeaf P kt with | some lf => .mapPut lf m k v | none => .bad
  |_ => .bad
 |.range t x => match P.underlying t with | some (.map _ _) => .mkIter x | _ => .bad
 |.next x s => if s = true then .bad else .next x
 |.entry x => .entry x
 |.call c =>
  match c.callee with
  |.value f => .call f c.args.toList
  |.builtin b => trBuiltin P b c.argTypes c.args
  |_ => .bad
 |_ => .bad
def trOp (P : Program) (o : Op) : A := if o.operands.all (opdOk P) then trOp1 P o else .bad
theorem VR.constLeaf {φ : Emb} {v : Value} (h : constLeaf v = true) : VR φ v v := by
 unfold Cn.constLeaf at h
 split at h
 ·exact .bool _
 ·exact .int _ _
 ·exact .string _
 ·exact .nilPtr
 ·exact .nilSlice
 ·exact .nilMap
 ·exact .nilFunc
 ·exact .nilIface
 ·cases h
theorem VRs.constLeaf {φ : Emb} {cs : Array Value} (h : cs.all Cn.constLeaf = true) : VRs φ cs cs :=
 ⟨rfl, fun i hi _ => VR.constLeaf ((Array.all_eq_true.1 h) i hi)⟩
theorem VR.constOk {φ : Emb} {v : Value} (h : constOk v = true) : VR φ v v := by
 unfold Cn.constOk at h
 split at h
 ·exact VR.aggs (VRs.constLeaf h)
 ·exact VR.tuples (VRs.constLeaf h)
 ·simp only [Bool.and_eq_true, Array.isEmpty_iff] at h
  obtain ⟨rfl, rfl⟩ := h
  exact .func _ _ _ _ _ _ (.func _) rfl rfl (fun i h => by simp at h) (fun i h => by simp at h)
 ·exact VR.constLeaf h
def OR (P : Program) (φ : Emb) (ρ : Operand → Option Value) (ρ' : Operand → Value) : Prop :=
 (∀ x v, opdOk P x = true → ρ x = some v → VR φ v (ρ' x)) ∧ ∀ v, ρ' (.const v) = v
def ER (φ : Emb) (N : Nat) (D : List Deferred) (e : Env) (a : Act) : Prop :=
 (a.tmps.size = N ∧ a.defers = D) ∧ ∀ t v, lk e t = some v → ∃ v', a.tmps[t]? = some v' ∧ VR φ v v'
theorem ER.or {P : Program} {φ : Emb} {N : Nat} {D : List Deferred} {e : Env} {a : Act} {σ : H} {w : World} (hs : Sim P φ σ w) (h : ER φ N D e a) : OR P φ (ev e) a.eval := by
 refine ⟨?_, fun _ => rfl⟩
 intro x v hx hv
 cases x with
 |tmp t =>
  obtain ⟨v', h1, h2⟩ := h.2 t v hv
  have : a.eval (.tmp t) = v' := by simp [Act.eval, Array.getD_eq_getD_getElem?, h1]
  rw [this]; exact h2
 |const c =>
  injection hv with hv
  subst hv
  exact VR.constOk hx
 |global g =>
  injection hv with hv
  subst hv
  obtain ⟨e1, he⟩ := hs.glob g (of_decide_eq_true hx)
  exact .ptr g 0 ⟨g, 0, e1⟩ he
 |func f =>
  injection hv with hv
  subst hv
  exact .func _ _ _ _ _ _ (.func _) rfl rfl (fun i h => by simp at h) (fun i h => by simp at h)
end Go.Cn
