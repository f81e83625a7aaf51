/- An abstract run of a program, and that the model does the same: a part of the framework. Conditions: none. -/
import Derived.Test.YtiipnbnkikmlgaaGreatDoorCn17
import Derived.RangeFuncIn
set_option linter.all false
namespace Go.Cn
open Go Go.RowKit
inductive RnF (m : Nat → Option Nat) : Fn → Fn → Prop
 |func (f : FuncId) : RnF m (.func f) (.func f)
 |method (n : String) : RnF m (.method n) (.method n)
 |methodOf (t : TypeId) (n : String) : RnF m (.methodOf t n) (.methodOf t n)
 |via (t : TypeId) (p : Array FieldStep) (f : FuncId) (b : Bool) : RnF m (.via t p f b) (.via t p f b)
 |yield (l l' : Nat) (h : m l = some l') : RnF m (.yield l) (.yield l')
inductive RnV (m : Nat → Option Nat) : Value → Value → Prop
 |bool (b : Bool) : RnV m (.bool b) (.bool b)
 |int (k : IntKind) (n : Int) : RnV m (.int k n) (.int k n)
 |string (s : ByteArray) : RnV m (.string s) (.string s)
 |nilPtr : RnV m (.pointer none) (.pointer none)
 |ptr (b b' off : Nat) (h : m b = some b') : RnV m (.pointer (some ⟨b, off, none⟩)) (.pointer (some ⟨b', off, none⟩))
 |nilSlice (n c : Nat) : RnV m (.slice none n c) (.slice none n c)
 |slice (b b' off n c : Nat) (h : m b = some b') : RnV m (.slice (some ⟨b, off, none⟩) n c) (.slice (some ⟨b', off, none⟩) n c)
 |nilMap : RnV m (.map none) (.map none)
 |map (b b' : Nat) (h : m b = some b') : RnV m (.map (some b)) (.map (some b'))
 |func (fn fn' : Fn) (xs xs' ys ys' : Array Value) (hf : RnF m fn fn') (hx : xs.size = xs'.size) (hy : ys.size = ys'.size)
   (h1 : ∀ (i : Nat) (h : i < xs.size) (h' : i < xs'.size), RnV m xs[i] xs'[i]) (h2 : ∀ (i : Nat) (h : i < ys.size) (h' : i < ys'.size), RnV m ys[i] ys'[i]) :
   RnV m (.func fn xs ys) (.func fn' xs' ys')
 |nilFunc : RnV m .nilFunc .nilFunc
 |iface (t : TypeId) (v v' : Value) (h : RnV m v v') : RnV m (.iface t v) (.iface t v')
 |nilIface : RnV m .nilIface .nilIface
 |agg (xs xs' : Array Value) (hx : xs.size = xs'.size) (h : ∀ (i : Nat) (h : i < xs.size) (h' : i < xs'.size), RnV m xs[i] xs'[i]) : RnV m (.agg xs) (.agg xs')
 |tuple (xs xs' : Array Value) (hx : xs.size = xs'.size) (h : ∀ (i : Nat) (h : i < xs.size) (h' : i < xs'.size), RnV m xs[i] xs'[i]) : RnV m (.tuple xs) (.tuple xs')
def rnE (m : Nat → Option Nat) (φ : Emb) : Emb := fun b => (m b).bind φ
theorem RnV.vr {m : Nat → Option Nat} {φ : Emb} {v0 v : Value} (h : RnV m v0 v) : ∀ {v' : Value}, VR φ v v' → VR (rnE m φ) v0 v' := by
 induction h with
 |bool b => intro v' h; cases h; exact .bool _
 |int k n => intro v' h; cases h; exact .int _ _
 |string s => intro v' h; cases h; exact .string _
 |nilPtr => intro v' h; cases h; exact .nilPtr
 |ptr b b' off hm => intro v' h; cases h with | ptr _ _ x hx => exact .ptr _ _ _ (by simp [rnE, hm, hx])
 |nilSlice n c => intro v' h; cases h; exact .nilSlice
 |slice b b' off n c hm =>
  intro v' h
  cases h with
  |slice _ a' _ _ c' hs =>
   exact .slice _ _ _ _ _ ⟨hs.len, fun hc => let ⟨x, hx⟩ := hs.born hc; ⟨x, by simp [rnE, hm]; exact hx⟩, hs.exact, hs.low, fun hc => let ⟨h1, x, h2, h3, h4⟩ := hs.at_ hc; ⟨rfl, x, by simp [rnE, hm]; exact h2, h3, h4⟩⟩
 |nilMap => intro v' h; cases h; exact .nilMap
 |map b b' hm => intro v' h; cases h with | map _ x hx => exact .map _ _ (by simp [rnE, hm, hx])
 |func fn fn' xs xs' ys ys' hf hx hy h1 h2 ih1 ih2 =>
  intro v' h
  cases h with
  |func _ fn2 _ xs2 _ ys2 hf2 hx2 hy2 g1 g2 =>
   refine .func _ _ _ _ _ _ ?_ (hx.trans hx2) (hy.trans hy2) (fun i hi hi' => ih1 i hi (hx ▸ hi) (g1 i (hx ▸ hi) hi')) (fun i hi hi' => ih2 i hi (hy ▸ hi) (g2 i (hy ▸ hi) hi'))
   cases hf with
   |func f => cases hf2; exact .func _
   |method f => cases hf2; exact .method _
   |methodOf f => cases hf2; exact .methodOf _ _
   |via f => cases hf2; exact .via _ _ _ _
   |yield l l' hm => cases hf2 with | yield _ x hx => exact .yield _ _ (by simp [rnE, hm, hx])
 |nilFunc => intro v' h; cases h; exact .nilFunc
 |iface t v v' hv ih => intro u h; cases h with | iface _ _ _ h => exact .iface _ _ _ (ih h)
 |nilIface => intro v' h; cases h; exact .nilIface
 |agg xs xs' hx hh ih => intro u h; cases h with | agg _ ys hy g => exact .agg _ _ (hx.trans hy) fun i hi hi' => ih i hi (hx ▸ hi) (g i (hx ▸ hi) hi')
 |tuple xs xs' hx hh ih => intro u h; cases h with | tuple _ ys hy g => exact .tuple _ _ (hx.trans hy) fun i hi hi' => ih i hi (hx ▸ hi) (g i (hx ▸ hi) hi')
def RnVs (m : Nat → Option Nat) (xs ys : List Value) : Prop := xs.length = ys.length ∧ ∀ (i : Nat) (v : Value), xs[i]? = some v → ∃ v', ys[i]? = some v' ∧ RnV m v v'
inductive RnB (m : Nat → Option Nat) : Blk → Blk → Prop
 |cells (ver ver' : Nat) (cs cs' : List Value) (fz : Nat × Nat) (h : RnVs m cs cs') : RnB m (.cells ver cs fz) (.cells ver' cs' fz)
 |map (ver ver' : Nat) (es es' : Array MapEntry) (clock : Nat) (hs : es.size = es'.size) (h : ∀ (i : Nat) (h : i < es.size) (h' : i < es'.size), RnV m es[i].key es'[i].key ∧ RnV m es[i].val es'[i].val ∧ es'[i].born = es[i].born) :
   RnB m (.map ver es clock) (.map ver' es' clock)
 |siter (ver ver' : Nat) (s : ByteArray) (pos : Nat) : RnB m (.siter ver s pos) (.siter ver' s pos)
theorem RnB.br {m : Nat → Option Nat} {φ : Emb} {k0 k : Blk} {o : Obj} {x : Loc} (h : RnB m k0 k) (hb : BR φ k o x) : BR (rnE m φ) k0 o x := by
 cases h with
 |cells ver ver' cs cs' fz h =>
  cases hb with
  |cells _ _ _ c e fr _ g1 g2 g3 g4 =>
   refine .cells _ _ _ _ _ _ _ (fun i v hv => ?_) (fun i hi => g2 i (h.1 ▸ hi)) g3 (fun i hi => g4 i (h.1 ▸ hi))
   obtain ⟨v1, q1, q2⟩ := h.2 i v hv
   obtain ⟨v2, q3, q4⟩ := g1 i v1 q1
   exact ⟨v2, q3, q2.vr q4⟩
 |map ver ver' es es' clock hs h =>
  cases hb with
  |map _ _ es2 _ _ hs2 g =>
   exact .map _ _ _ _ _ (hs.trans hs2) fun i hi hi' => let ⟨a1, a2, a3⟩ := h i hi (hs ▸ hi); let q := g i (hs ▸ hi) hi'; ⟨a1.vr q.key, a2.vr q.val, q.born.trans a3⟩
 |siter ver ver' s pos => cases hb with | siter _ _ _ _ h => exact .siter _ _ _ _ h
theorem RnB.live {m : Nat → Option Nat} {k0 k : Blk} (h : RnB m k0 k) : k.live := by cases h <;> trivial
theorem VR.back {φ φ' : Emb} (hm : ∀ b x, φ b = some x → φ' b = some x) {v v' : Value} (h : VR φ' v v') : ∀ {u : Value}, VR φ v u → VR φ v v' := by
 have one : ∀ {b : Nat} {x y : Loc}, φ' b = some x → φ b = some y → φ b = some x := fun h1 h2 => by
  have := hm _ _ h2
  rw [h1] at this
  injection this with this
  rw [this]; exact h2
 induction h with
 |bool b => intro u h; exact .bool _
 |int k n => intro u h; exact .int _ _
 |string s => intro u h; exact .string _
 |nilPtr => intro u h; exact .nilPtr
 |ptr b off x hx => intro u h; cases h with | ptr _ _ y hy => exact .ptr _ _ _ (one hx hy)
 |nilSlice => intro u h; exact .nilSlice
 |slice a a' n c c' hs =>
  intro u h
  cases h with
  |slice _ a2 _ _ c2 hs2 =>
   refine .slice _ _ _ _ _ ⟨hs.len, hs2.born, hs.exact, hs.low, fun hc => ?_⟩
   obtain ⟨g1, x, g2, g3, g4⟩ := hs.at_ hc
   by_cases hz : csz c = 0
   ·have hcc : c2 = c' := (hs2.exact hz).trans (hs.exact hz).symm
    obtain ⟨_, y, hy, _⟩ := hs2.at_ (hcc ▸ hc)
    exact ⟨g1, x, one g2 hy, g3, g4⟩
   ·obtain ⟨y, hy⟩ := hs2.born hz
    exact ⟨g1, x, one g2 hy, g3, g4⟩
 |nilMap => intro u h; exact .nilMap
 |map b x hx => intro u h; cases h with | map _ y hy => exact .map _ _ (one hx hy)
 |func fn fn' xs xs' ys ys' hf hx hy h1 h2 ih1 ih2 =>
  intro u h
  cases h with
  |func _ fn2 _ xs2 _ ys2 hf2 hx2 hy2 g1 g2 =>
   refine .func _ _ _ _ _ _ ?_ hx hy (fun i hi hi' => ih1 i hi hi' (g1 i hi (hx2 ▸ hi))) (fun i hi hi' => ih2 i hi hi' (g2 i hi (hy2 ▸ hi)))
   cases hf with
   |func f => exact .func _
   |method f => exact .method _
   |methodOf f => exact .methodOf _ _
   |via f => exact .via _ _ _ _
   |yield l x hx => cases hf2 with | yield _ y hy => exact .yield _ _ (one hx hy)
 |nilFunc => intro u h; exact .nilFunc
 |iface t v v' hv ih => intro u h; cases h with | iface _ _ _ h => exact .iface _ _ _ (ih h)
 |nilIface => intro u h; exact .nilIface
 |agg xs xs' hx hh ih => intro u h; cases h with | agg _ ys hy g => exact .agg _ _ hx fun i hi hi' => ih i hi hi' (g i hi (hy ▸ hi))
 |tuple xs xs' hx hh ih => intro u h; cases h with | tuple _ ys hy g => exact .tuple _ _ hx fun i hi hi' => ih i hi hi' (g i hi (hy ▸ hi))
theorem BR.back {φ φ' : Emb} (hm : ∀ b x, φ b = some x → φ' b = some x) {k : Blk} {o o0 : Obj} {x x0 : Loc} (h : BR φ' k o x) (h0 : BR φ k o0 x0) : BR φ k o x := by
 cases h with
 |cells ver cs fz c e fr _ g1 g2 g3 g4 =>
  refine .cells _ _ _ _ _ _ _ (fun i v hv => ?_) g2 g3 g4
  obtain ⟨v', q1, q2⟩ := g1 i v hv
  cases h0 with
  |cells _ _ _ _ _ _ _ f1 _ _ _ =>
   obtain ⟨u, _, q3⟩ := f1 i v hv
   exact ⟨v', q1, q2.back hm q3⟩
 |loop ver st pend R q _ e0 e1 e2 e3 e4 e5 e6 g1 =>
  refine .loop _ _ _ _ _ _ e0 e1 e2 e3 e4 e5 e6 fun t v hv => ?_
  obtain ⟨v', q1, q2⟩ := g1 t v hv
  cases h0 with
  |loop _ _ _ _ _ _ _ _ _ _ _ _ _ f1 =>
   obtain ⟨u, _, q3⟩ := f1 t v hv
   exact ⟨v', q1, q2.back hm q3⟩
 |part cs c e fr _ g1 =>
  refine .part _ _ _ _ _ fun i v hv => ?_
  obtain ⟨v', q1, q2⟩ := g1 i v hv
  cases h0 with
  |part _ _ _ _ _ f1 =>
   obtain ⟨u, _, q3⟩ := f1 i v hv
   exact ⟨v', q1, q2.back hm q3⟩
 |map ver es es' clock _ hs g =>
  refine .map _ _ _ _ _ hs fun i hi hi' => ?_
  cases h0 with
  |map _ _ es2 _ _ hs2 f =>
   have q := g i hi hi'
   have q0 := f i hi (hs2 ▸ hi)
   exact ⟨q.key.back hm q0.key, q.val.back hm q0.val, q.born⟩
 |siter v s pos _ h => exact .siter _ _ _ _ h
 |miterNil v a b c _ h => exact .miterNil _ _ _ _ _ h
 |miter v b y s se st _ hb hz =>
  cases h0 with
  |miter _ _ y0 _ _ _ _ hb0 _ =>
   have := hm _ _ hb0
   rw [hb] at this
   injection this with this
   subst this
   exact .miter _ _ _ _ _ _ _ hb0 hz
structure Ren (σ σ' : H) (m : Nat → Option Nat) (σ2 : H) : Prop where
 old : ∀ b, b < σ.size → m b = some b
 rng : ∀ b c, m b = some c → b < σ2.size
 size : σ.size ≤ σ2.size
 inj : ∀ b b' c, m b = some c → m b' = some c → b = b'
 same : ∀ b, b < σ.size → σ'[b]? = σ[b]? → σ2[b]? = σ[b]?
 chg : ∀ b, b < σ.size → σ'[b]? ≠ σ[b]? → ∃ k k2, σ[b]? = some k ∧ σ2[b]? = some k2 ∧ (k2 = .dead ∨ k2.live ∧ k.ver < k2.ver) ∧ (k2 = k → False)
 new : ∀ (b c : Nat) (k2 : Blk), m b = some c → σ2[b]? = some k2 → k2.live → (σ.size ≤ b ∨ σ'[b]? ≠ σ[b]?) → ∃ k', σ'[c]? = some k' ∧ RnB m k2 k'
theorem Step.ren {P : Program} {φ φ' : Emb} {σ σ' σ2 : H} {w w' : World} {m : Nat → Option Nat} (hs : Sim P φ σ w) (h : Step P φ σ w φ' σ' w') (r : Ren σ σ' m σ2) : Step P φ σ w (rnE m φ') σ2 w' := by
 have hemb := h.emb hs
 have hold : ∀ b, b < σ.size → rnE m φ' b = φ b := fun b hb => by simp only [rnE, r.old b hb, Option.bind_some]; exact h.old b hb
 have hext : ∀ b x, φ b = some x → rnE m φ' b = some x := fun b x hb => by rw [hold b (hs.lt b x hb).1]; exact hb
 have hsame : ∀ b, b < σ.size → σ2[b]? = σ[b]? → σ'[b]? = σ[b]? := fun b hb he => by
  apply Classical.byContradiction
  intro hn
  obtain ⟨k, k2, h1, h2, h3, h4⟩ := r.chg b hb hn
  rw [h1, h2] at he
  injection he with he
  exact h4 he
 have inv : ∀ b x, rnE m φ' b = some x → ∃ c, m b = some c ∧ φ' c = some x := fun b x hb => by
  simp only [rnE, Option.bind_eq_some_iff] at hb
  exact hb
 have at_ : ∀ (b c : Nat) (k2 : Blk), m b = some c → σ2[b]? = some k2 → k2.live → ∃ k', σ'[c]? = some k' ∧ k'.live := fun b c k2 hm hk hl => by
  by_cases hb : b < σ.size ∧ σ'[b]? = σ[b]?
  ·have := r.old b hb.1
   rw [hm] at this
   injection this with this
   subst this
   refine ⟨k2, ?_, hl⟩
   rw [hb.2, ← r.same c hb.1 hb.2]; exact hk
  ·obtain ⟨k', h1, h2⟩ := r.new b c k2 hm hk hl (by
    by_cases hlt : b < σ.size
    ·exact .inr fun he => hb ⟨hlt, he⟩
    ·exact .inl (by omega))
   exact ⟨k', h1, h2.live⟩
 refine ⟨⟨fun b x k2 hx hk hl => ?_, fun b b' x x' k k' hx hx' hr hk hk' hl hl' => ?_, fun b x hx => ?_, fun g hg => ?_⟩, hold, r.size, fun b k hk => ?_, fun b hb hn => ?_, h.wsize, fun q hq hx => ?_, fun b x hb hx hq => ?_, h.os, h.tape, h.output, h.defs⟩
 ·obtain ⟨c, hm, hc⟩ := inv b x hx
  by_cases hb : b < σ.size ∧ σ'[b]? = σ[b]?
  ·have := r.old b hb.1
   rw [hm] at this
   injection this with this
   subst this
   have hk0 : σ[c]? = some k2 := by rw [← r.same c hb.1 hb.2]; exact hk
   have hk' : σ'[c]? = some k2 := by rw [hb.2]; exact hk0
   have hφ : φ c = some x := by rw [← h.old c hb.1]; exact hc
   obtain ⟨ob, q1, q2⟩ := h.sim.blk c x k2 hc hk' hl
   obtain ⟨ob0, q3, q4⟩ := hs.blk c x k2 hφ hk0 hl
   exact ⟨ob, q1, (q2.back hemb q4).mono hext⟩
  ·obtain ⟨k', h1, h2⟩ := r.new b c k2 hm hk hl (by
    by_cases hlt : b < σ.size
    ·exact .inr fun he => hb ⟨hlt, he⟩
    ·exact .inl (by omega))
   obtain ⟨ob, q1, q2⟩ := h.sim.blk c x k' hc h1 h2.live
   exact ⟨ob, q1, h2.br q2⟩
 ·obtain ⟨c, hm, hc⟩ := inv b x hx
  obtain ⟨c', hm', hc'⟩ := inv b' x' hx'
  obtain ⟨j, g1, g2⟩ := at_ b c k hm hk hl
  obtain ⟨j', g1', g2'⟩ := at_ b' c' k' hm' hk' hl'
  have := h.sim.inj c c' x x' j j' hc hc' hr g1 g1' g2 g2'
  subst this
  exact r.inj b b' c hm hm'
 ·obtain ⟨c, hm, hc⟩ := inv b x hx
  exact ⟨r.rng b c hm, (h.sim.lt c x hc).2⟩
 ·obtain ⟨e, he⟩ := hs.glob g hg
  exact ⟨e, hext _ _ he⟩
 ·have hb : b < σ.size := (Array.getElem?_eq_some_iff.1 hk).1
  by_cases he : σ'[b]? = σ[b]?
  ·exact ⟨k, (r.same b hb he).trans hk, Blk.le_refl _⟩
  ·obtain ⟨k0, k2, h1, h2, h3, h4⟩ := r.chg b hb he
   rw [hk] at h1
   injection h1 with h1
   subst h1
   refine ⟨k2, h2, ?_⟩
   rcases h3 with h3 | ⟨h3, h5⟩
   ·rw [h3]; exact Blk.le_dead _
   ·refine .inr (.inr ⟨?_, h3, h5⟩)
    cases k with
    |dead =>
     obtain ⟨k', e1, e2⟩ := h.le b _ hk
     rw [Blk.dead_le e2] at e1
     exact absurd (e1.trans hk.symm) he
    |_ => trivial
 ·exact r.same b hb (h.unborn b hb hn)
 ·exact h.frame q hq fun b x hb hxr => hsame b (hs.lt b x hb).1 (hx b x hb hxr)
 ·obtain ⟨c, hm, hc⟩ := inv b x hx
  by_cases hlt : c < σ.size
  ·have := r.inj b c c hm (r.old c hlt)
   omega
  ·obtain ⟨b1, x1, e1, e2, e3⟩ := h.fresh c x (by omega) hc hq
   exact ⟨b1, x1, e1, e2, fun e => e3 (hsame b1 (hs.lt b1 x1 e1).1 e)⟩
theorem App.ren {P : Program} {fn : Fn} {cap args : Array Value} {σ : H} {R : Value → H → Prop} (h : App P fn cap args σ fun v σ' => ∃ m v2 σ2, Ren σ σ' m σ2 ∧ RnV m v2 v ∧ R v2 σ2) : App P fn cap args σ R := by
 intro ro φ w fn' cap' args' h1 h2 h3 h4
 obtain ⟨nx, w1, g1, g2⟩ := h ro φ w fn' cap' args' h1 h2 h3 h4
 exact ⟨nx, w1, g1, g2.mono fun v' w' ⟨v, σ', φ', ⟨m, v2, σ2, r1, r2, r3⟩, q2, q3⟩ => ⟨v2, σ2, rnE m φ', r3, r2.vr q2, q3.ren h1 r1⟩⟩
inductive S where
 |skip
 |ret
 |exit (id : Nat)
 |goto (l : Nat)
 |label (l : Nat)
 |ops (l : List O)
 |draw (ms : List Nat) (l : List PI)
 |seq (a b : S)
 |cond (c : Operand) (a b : S)
 |block (id : Nat) (a : S)
 |loop (a : S)
 |scope (a : S)
 |range (g : Operand) (ps : Array Tmp) (a b : S)
 |keep (ts : List Nat) (a : S)
def thenK (A : Env → H → Prop) (K : Exit → Env → H → Prop) : Exit → Env → H → Prop
 |.normal => A
 |ex => K ex
def blockK (id : Nat) (K : Exit → Env → H → Prop) : Exit → Env → H → Prop
 |.normal => K .normal
 |.exit i => if i = id then K .normal else K (.exit i)
 |ex => K ex
def scopeK (K : Exit → Env → H → Prop) : Exit → Env → H → Prop
 |.goto _ => fun _ _ => False
 |ex => K ex
def keepE (ts : List Nat) (e : Env) : Env := ts.filterMap fun t => (lk e t).map fun v => (t, v)
def keepK (ts : List Nat) (K : Exit → Env → H → Prop) : Exit → Env → H → Prop
 |.normal => fun e σ => K .normal (keepE ts e) σ
 |ex => K ex
def zipE : List Nat → List Value → Env → Env
 |t :: ts, v :: vs, e => zipE ts vs ((t, v) :: e)
 |_, _, e => e
def roundK (l : Nat) (R : Rnd) (Ky : Value → H → Prop) : Exit → Env → H → Prop
 |.normal => fun _ τ => ∃ ver st pend, τ[l]? = some (.loop ver st pend R) ∧ Ky (.bool true) (τ.setIfInBounds l (.loop (ver + 1) .ready none R))
 |.ret => fun _ τ => ∃ ver st pend, τ[l]? = some (.loop ver st pend R) ∧ Ky (.bool false) (τ.setIfInBounds l (.loop (ver + 1) .done (some .ret) R))
 |.exit id => fun _ τ => ∃ ver st pend, τ[l]? = some (.loop ver st pend R) ∧ Ky (.bool false) (τ.setIfInBounds l (.loop (ver + 1) .done (some (.exit id)) R))
 |_ => fun _ _ => False
def jumpK (K : Exit → Env → H → Prop) (e : Env) : Option Code → H → Prop
 |none => K .normal e
 |some .ret => K .ret e
 |some (.exit id) => K (.exit id) e
 |_ => fun _ => False
def enters (P : Program) (f : FuncId) : Bool := match P.funcs[f]? with | some fn => !(fn.name == "runtime.NumGoroutine") && !fn.body.isNone | none => false
def Yields (P : Program) (l n : Nat) (R : Rnd) (W : List Value → H → (Env → H → Prop) → Prop) (B : Env → H → (Exit → Env → H → Prop) → Prop) : Prop :=
 ∀ (ver : Nat) (pend : Option Code) (τ : H) (vs : List Value) (Ky : Value → H → Prop), τ[l]? = some (.loop ver .ready pend R) → vs.length = n →
  W vs τ (fun e1 τ1 => ∃ ver1 pend1, τ1[l]? = some (.loop ver1 .ready pend1 R) ∧ B e1 (τ1.setIfInBounds l (.loop (ver1 + 1) .busy pend1 R)) (roundK l R Ky)) →
  App P (.yield l) #[] vs.toArray τ Ky
def sem (P : Program) : S → Env → H → (Exit → Env → H → Prop) → Prop
 |.skip, e, σ, K => K .normal e σ
 |.label _, e, σ, K => K .normal e σ
 |.ret, e, σ, K => K .ret e σ
 |.exit id, e, σ, K => K (.exit id) e σ
 |.goto l, e, σ, K => K (.goto l) e σ
 |.ops l, e, σ, K => evL P l e σ (K .normal)
 |.draw _ l, e, σ, K => evL P (l.map (·.o)) e σ (K .normal)
 |.seq a b, e, σ, K => sem P a e σ (thenK (fun e σ => sem P b e σ K) K)
 |.cond c a b, e, σ, K => match ev e c with
  |some (.bool t) => if t = true then sem P a e σ K else sem P b e σ K
  |_ => False
 |.block id a, e, σ, K => sem P a e σ (blockK id K)
 |.loop a, e, σ, K => ∃ (I : Nat → Env → H → Prop) (m : Nat), I m e σ ∧ ∀ m e σ, I m e σ → sem P a e σ (thenK (fun e' σ' => ∃ m', m' < m ∧ I m' e' σ') K)
 |.scope a, e, σ, K => sem P a e σ (scopeK K)
 |.range g ps a b, e, σ, K => match ev e g with
  |some (.func (.func f) xs cap) => enters P f = true ∧ ∀ R : Rnd, Yields P σ.size ps.size R (fun vs τ A => sem P a (zipE ps.toList vs e) τ (thenK A fun _ _ _ => False)) (fun e1 τ1 K1 => sem P b e1 τ1 K1) →
    App P (.func f) cap (xs ++ #[.func (.yield σ.size) #[] #[]]) (σ.push (.loop 0 .ready none R)) fun _ τ =>
     ∃ ver st pend, τ[σ.size]? = some (.loop ver st pend R) ∧ st ≠ .busy ∧ jumpK K e pend (τ.setIfInBounds σ.size (.loop (ver + 1) .exhausted pend R))
  |_ => False
 |.keep ts a, e, σ, K => sem P a e σ (keepK ts K)
def trS (P : Program) (N : Nat) : Code → S → Option S
 |c, .keep ts s => (trS P N c s).map (.keep ts)
 |.skip, .skip => some .skip
 |.ret, .ret => some .ret
 |.exit i, .exit _ => some (.exit i)
 |.goto i, .goto _ => some (.goto i)
 |.label i, .label _ => some (.label i)
 |.region _ ops false, .ops _ => if ops.all (okO N ops) = true then some (.ops ((List.range ops.size).filterMap fun i => (ops[i]?).map (mkO P ops []))) else none
 |.region _ ops true, .draw ms l => if okCert N ops ms (l.map fun p => (p.i, p.an, p.ri)) = true then some (.draw ms (trPl P ops (l.map fun p => (p.i, p.an, p.ri)))) else none
 |.seq a b, .seq s t => match trS P N a s, trS P N b t with | some x, some y => some (.seq x y) | _, _ => none
 |.cond c a b, .cond _ s t => if opdOk P c = true then (match trS P N a s, trS P N b t with | some x, some y => some (.cond c x y) | _, _ => none) else none
 |.block i a, .block _ s => (trS P N a s).map (.block i)
 |.loop a, .loop s => (trS P N a s).map .loop
 |.scope a, .scope s => (trS P N a s).map .scope
 |.rangeFunc g ps a b, .range _ _ s t => if opdOk P g = true ∧ ps.toList.all (fun t => decide (t < N)) = true then (match trS P N a s, trS P N b t with | some x, some y => some (.range g ps x y) | _, _ => none) else none
 |_, _ => none
def noRange : S → Bool
 |.seq a b => noRange a && noRange b
 |.cond _ a b => noRange a && noRange b
 |.block _ a => noRange a
 |.loop a => noRange a
 |.scope a => noRange a
 |.keep _ a => noRange a
 |.range .. => false
 |_ => true
def okS : S → Bool
 |.draw _ l => planB l
 |.seq a b => okS a && okS b
 |.cond _ a b => okS a && okS b
 |.block _ a => okS a
 |.loop a => okS a
 |.scope a => okS a
 |.keep _ a => okS a
 |.range _ _ a b => okS a && okS b && noRange a && noRange b
 |_ => true
section
variable {P : Program} {N : Nat} {ro : Option Nat}
def mkD (r : Nat) : Deferred := { target := .collected r, args := #[] }
def Marks (w w' : World) (rs : List Nat) : Prop := rs.Nodup ∧ ∀ r ∈ rs, w.heap.size ≤ r ∧ w'.heap[r]? = some (.deferred (some []))
theorem Marks.nil {w w' : World} : Marks w w' [] := ⟨List.nodup_nil, fun r h => by simp at h⟩
theorem Marks.trans {φ φ' : Emb} {σ σ' σ0 : H} {φ0 : Emb} {w w1 w2 : World} {rs rs2 : List Nat} (h0 : Step P φ0 σ0 w φ σ w1) (h : Marks w w1 rs) (k : Step P φ σ w1 φ' σ' w2) (h2 : Marks w1 w2 rs2) : Marks w w2 (rs2 ++ rs) := by
 refine ⟨List.nodup_append.2 ⟨h2.1, h.1, fun a ha b hb hab => ?_⟩, fun r hr => ?_⟩
 ·subst hab
  have h3 := (h2.2 a ha).1
  have h4 := (Array.getElem?_eq_some_iff.1 (h.2 a hb).2).1
  omega
 ·rcases List.mem_append.1 hr with hr | hr
  ·exact ⟨Nat.le_trans h0.wsize (h2.2 r hr).1, (h2.2 r hr).2⟩
  ·exact ⟨(h.2 r hr).1, k.defs r (h.2 r hr).2⟩
def End (P : Program) (N : Nat) (D : List Deferred) (φ : Emb) (σ : H) (w : World) (K : Exit → Env → H → Prop) : Exit → Act → World → Prop := fun ex a' w' => ∃ e' σ' φ' rs, K ex e' σ' ∧ Step P φ σ w φ' σ' w' ∧ ER φ' N (rs.map mkD ++ D) e' a' ∧ Marks w w' rs
theorem End.of {φ φ' : Emb} {σ σ' : H} {w w' : World} {K : Exit → Env → H → Prop} {D : List Deferred} {ex : Exit} {e' : Env} {a' : Act} (h1 : K ex e' σ') (h2 : Step P φ σ w φ' σ' w') (h3 : ER φ' N D e' a') : End P N D φ σ w K ex a' w' :=
 ⟨e', σ', φ', [], h1, h2, h3, .nil⟩
theorem End.trans {φ φ1 : Emb} {σ σ1 : H} {w w1 : World} {K : Exit → Env → H → Prop} {D : List Deferred} {rs : List Nat} (hs : Sim P φ σ w) (h : Step P φ σ w φ1 σ1 w1) (hm : Marks w w1 rs) {ex : Exit} {a' : Act} {w' : World} (he : End P N (rs.map mkD ++ D) φ1 σ1 w1 K ex a' w') : End P N D φ σ w K ex a' w' :=
 let ⟨e', σ', φ', rs2, h1, h2, h3, h4⟩ := he
 ⟨e', σ', φ', rs2 ++ rs, h1, h.trans hs h2, by rw [List.map_append, List.append_assoc]; exact h3, hm.trans h h2 h4⟩
theorem End.mono {φ : Emb} {σ : H} {w : World} {K K' : Exit → Env → H → Prop} {D : List Deferred} {ex ex' : Exit} {a' : Act} {w' : World} (h : ∀ e σ, K ex e σ → K' ex' e σ) (he : End P N D φ σ w K ex a' w') : End P N D φ σ w K' ex' a' w' :=
 let ⟨e', σ', φ', rs, h1, h2, h3, h4⟩ := he
 ⟨e', σ', φ', rs, h _ _ h1, h2, h3, h4⟩
def Wp (P : Program) (N : Nat) (ro : Option Nat) (c : Code) (e : Env) (σ : H) (K : Exit → Env → H → Prop) : Prop :=
 ∀ (φ : Emb) (w : World) (a : Act) (D : List Deferred), Sim P φ σ w → ER φ N D e a → c.wpIn (fc ro) 0 P (End P N D φ σ w K) a w
theorem lk_keep {ts : List Nat} {e : Env} {t : Nat} {v : Value} (h : lk (keepE ts e) t = some v) : lk e t = some v := by
 induction ts with
 |nil => cases h
 |cons u ts ih =>
  unfold keepE at h ih
  rw [List.filterMap_cons] at h
  cases hu : lk e u with
  |none => simp only [hu, Option.map_none] at h; exact ih h
  |some x =>
   simp only [hu, Option.map_some, lk] at h
   split at h
   ·rename_i hut; subst hut; rw [hu]; exact h
   ·exact ih h
theorem Wp.seq {x y : Code} {e : Env} {σ : H} {K : Exit → Env → H → Prop} (h : Wp P N ro x e σ (thenK (fun e σ => Wp P N ro y e σ K) K)) : Wp P N ro (.seq x y) e σ K := by
 intro φ w a D hs hr
 refine wpIn_seq (wpIn_mono (h φ w a D hs hr) fun ex a' w' he => ?_)
 cases ex with
 |normal =>
  obtain ⟨e', σ', φ', rs, h1, h2, h3, h5⟩ := he
  exact wpIn_mono (h1 φ' w' a' _ h2.sim h3) fun ex2 a2 w2 h4 => h4.trans hs h2 h5
 |_ => exact End.mono (fun _ _ h => h) he
theorem Wp.cond {c : Operand} {x y : Code} {e : Env} {σ : H} {K : Exit → Env → H → Prop} {t : Bool} (hc : opdOk P c = true) (hv : ev e c = some (.bool t)) (h : if t = true then Wp P N ro x e σ K else Wp P N ro y e σ K) : Wp P N ro (.cond c x y) e σ K := by
 intro φ w a D hs hr
 have h1 := (hr.or (P := P) hs).1 c _ hc hv
 have h2 : a.eval c = .bool t := by generalize a.eval c = q at h1; cases h1; rfl
 refine wpIn_cond h2 ?_
 cases t
 ·exact h φ w a D hs hr
 ·exact h φ w a D hs hr
theorem Wp.block {id : Nat} {x : Code} {e : Env} {σ : H} {K : Exit → Env → H → Prop} (h : Wp P N ro x e σ (blockK id K)) : Wp P N ro (.block id x) e σ K := by
 intro φ w a D hs hr
 refine wpIn_block (wpIn_mono (h φ w a D hs hr) fun ex a' w' he => ?_)
 cases ex with
 |exit i =>
  simp only [Exit.inBlock]
  split
  ·rename_i hi; exact End.mono (fun e σ h => by simpa [blockK, hi] using h) he
  ·rename_i hi; exact End.mono (fun e σ h => by simpa [blockK, hi] using h) he
 |_ => exact End.mono (fun _ _ h => h) he
theorem Wp.loop {x : Code} {e : Env} {σ : H} {K : Exit → Env → H → Prop} (I : Nat → Env → H → Prop) (m : Nat) (h0 : I m e σ)
  (h : ∀ m e σ, I m e σ → Wp P N ro x e σ (thenK (fun e' σ' => ∃ m', m' < m ∧ I m' e' σ') K)) : Wp P N ro (.loop x) e σ K := by
 intro φ w a D hs hr
 have key : ∀ (j : Nat) (e : Env) (σ1 : H) (φ1 : Emb) (w1 : World) (a1 : Act), I j e σ1 → Step P φ σ w φ1 σ1 w1 → ∀ rs, ER φ1 N (rs.map mkD ++ D) e a1 → Marks w w1 rs →
   ∀ (b : Frame) (k : List Item) (cs : List Frame), b.roundOf = (fc ro).round → (fc ro).fn b.fn → (fc ro).room (cs.length + 1 + 0) →
   ∃ ex a' w', End P N D φ σ w K ex a' w' ∧ ArrivesIn (Machine.fenced P (fc ro)) P (lone (b.atR a1 (.code x :: .inLoop x :: k)) cs w1) b k cs ex a' w' := by
  intro j
  induction j using Nat.strongRecOn with
  |_ j ih =>
   intro e σ1 φ1 w1 a1 hI hst rs he hmk b k cs hro hb hr
   obtain ⟨ex, a2, w2, hq, harr⟩ := h j e σ1 hI φ1 w1 a1 _ hst.sim he b (.inLoop x :: k) cs hro hb hr
   cases ex with
   |normal =>
    obtain ⟨e', σ', φ', rs2, ⟨j', q2, q1⟩, q3, q4, q5⟩ := hq
    obtain ⟨ex2, a3, w3, g1, g2⟩ := ih j' q2 e' σ' φ' w2 a2 q1 (hst.trans hs q3) (rs2 ++ rs) (by rw [List.map_append, List.append_assoc]; exact q4) (hmk.trans hst q3 q5) b k cs hro hb hr
    exact ⟨ex2, a3, w3, g1, .of_steps (StepsIn.trans harr (.one (fenced_calm hb hr rfl) stepR_inLoop)) g2⟩
   |exit id => exact ⟨_, a2, w2, End.trans hs hst hmk (End.mono (fun _ _ h => h) hq), .pass (x := .inLoop x) rfl (fun _ _ => .inl (by simp)) harr⟩
   |goto l => exact ⟨_, a2, w2, End.trans hs hst hmk (End.mono (fun _ _ h => h) hq), .pass (x := .inLoop x) rfl (fun _ _ => .inl (by simp)) harr⟩
   |ret => exact ⟨_, a2, w2, End.trans hs hst hmk (End.mono (fun _ _ h => h) hq), .pass (x := .inLoop x) rfl (fun _ _ => .inl (by simp)) harr⟩
   |panic ch => exact ⟨_, a2, w2, End.trans hs hst hmk (End.mono (fun _ _ h => h) hq), .pass (x := .inLoop x) rfl (fun _ _ => .inl (by simp)) harr⟩
   |outgrown => exact ⟨_, a2, w2, End.trans hs hst hmk (End.mono (fun _ _ h => h) hq), .pass (x := .inLoop x) rfl (fun _ _ => .inl (by simp)) harr⟩
 intro b k cs hro hb hr'
 obtain ⟨ex, a', w', hq, harr⟩ := key m e σ φ w a h0 (.refl hs) [] hr .nil b k cs hro hb hr'
 exact ⟨ex, a', w', hq, .of_steps (.one (fenced_calm hb hr' rfl) stepR_loop) harr⟩
theorem stepR_scope {b : Frame} {a : Act} {k : List Item} {cs : List Frame} {w : World} {c : Code} :
  step P (lone (b.atR a (.code (.scope c) :: k)) cs w) = .next (lone (b.atR a (.code c :: .inScope c :: k)) cs w) :=
 step_lone_go (by simp [stepG, stepG.exec, Frame.atR])
theorem stepR_inScope {b : Frame} {a : Act} {k : List Item} {cs : List Frame} {w : World} {c : Code} :
  step P (lone (b.atR a (.inScope c :: k)) cs w) = .next (lone (b.atR a k) cs w) :=
 step_lone_go (by simp [stepG, stepG.exec, Frame.atR])
theorem Wp.scope {x : Code} {e : Env} {σ : H} {K : Exit → Env → H → Prop} (h : Wp P N ro x e σ (scopeK K)) : Wp P N ro (.scope x) e σ K := by
 intro φ w a D hs hr b k cs hro hb hr'
 have h0 : (lone (b.atR a (.code (.scope x) :: k)) cs w).fenced P (fc ro) := fenced_calm hb hr' rfl
 obtain ⟨ex, a', w', hq, harr⟩ := h φ w a D hs hr b (.inScope x :: k) cs hro hb hr'
 cases ex with
 |normal => exact ⟨.normal, a', w', hq, .head h0 stepR_scope (StepsIn.trans harr (.one (fenced_calm hb hr' rfl) stepR_inScope))⟩
 |exit id =>
  have hx : exitTo id (.inScope x :: k) = exitTo id k := by simp [exitTo]
  exact ⟨.exit id, a', w', hq, fun k' hk => .head h0 stepR_scope (harr.1 k' (by rw [hx]; exact hk)),
   fun hr2 hk => let ⟨k₁, h1, h2⟩ := harr.2 hr2 (by rw [hx]; exact hk); ⟨k₁, h1, .head h0 stepR_scope h2⟩⟩
 |goto l => obtain ⟨_, _, _, _, hf, _⟩ := hq; exact hf.elim
 |ret => exact ⟨_, a', w', hq, .of_steps (.one h0 stepR_scope) harr⟩
 |panic ch => exact ⟨_, a', w', hq, .of_steps (.one h0 stepR_scope) harr⟩
 |outgrown => exact ⟨_, a', w', hq, .of_steps (.one h0 stepR_scope) harr⟩
theorem Step.extra {φ : Emb} {σ : H} {w : World} {ob : Obj} (hs : Sim P φ σ w) : Step P φ σ w φ σ { w with heap := w.heap.push ob } := by
 have wold : ∀ r, r < w.heap.size → (w.heap.push ob)[r]? = w.heap[r]? := fun r hr => by rw [Array.getElem?_push, if_neg (by omega)]
 exact ⟨⟨fun b x k hx hk hl => let ⟨o, h1, h2⟩ := hs.blk b x k hx hk hl; ⟨o, (wold _ (hs.lt b x hx).2).trans h1, h2⟩, hs.inj, fun b x hx => ⟨(hs.lt b x hx).1, by have := (hs.lt b x hx).2; simp; omega⟩, hs.glob⟩,
  fun _ _ => rfl, Nat.le_refl _, fun _ k hk => ⟨k, hk, Blk.le_refl _⟩, fun _ _ _ => rfl, by simp, fun r hr _ => wold r hr,
  fun b x hb hx _ => absurd (hs.lt b x hx).1 (by omega), rfl, rfl, rfl, fun r hr => (wold r (Array.getElem?_eq_some_iff.1 hr).1).trans hr⟩
theorem zip_er {φ : Emb} {D : List Deferred} : ∀ {ts : List Nat} {vs vs' : List Value} {e : Env} {tmps : Array Value}, ER φ N D e { tmps := tmps, defers := D } → (∀ t ∈ ts, t < N) →
  vs.length = vs'.length → (∀ (i : Nat) (v : Value), vs[i]? = some v → ∃ v', vs'[i]? = some v' ∧ VR φ v v') → ER φ N D (zipE ts vs e) { tmps := (ts.zip vs').foldl (fun tmps (t, a) => tmps.setIfInBounds t a) tmps, defers := D }
 |[], vs, vs', e, tmps, h, _, _, _ => by cases vs <;> simpa [zipE] using h
 |t :: ts, [], [], e, tmps, h, _, _, _ => by simpa [zipE] using h
 |t :: ts, v :: vs, v' :: vs', e, tmps, h, ht, hl, hv => by
  obtain ⟨u, h1, h2⟩ := hv 0 v rfl
  injection h1 with h1
  subst h1
  have h3 : ER φ N D ((t, v) :: e) { tmps := tmps.setIfInBounds t v', defers := D } := ER.put (d := some t) h (fun t' ht' => by injection ht' with ht'; subst ht'; exact ht t (by simp)) h2
  exact zip_er (ts := ts) (vs := vs) (vs' := vs') (e := (t, v) :: e) (tmps := tmps.setIfInBounds t v') h3 (fun t' ht' => ht t' (by simp [ht'])) (by simpa using hl) fun i x hx => hv (i + 1) x hx
 |t :: ts, [], v' :: vs', e, tmps, _, _, hl, _ => by simp at hl
 |t :: ts, v :: vs, [], e, tmps, _, _, hl, _ => by simp at hl
theorem run_getLoop {r : Nat} {q : Loop} {w : World} (h : w.heap[r]? = some (.loop q)) : (Instr.getLoop r).run P w = .ok q w := by simp [Instr.getLoop, getObj, Sem.run, h]
theorem run_setLoop {r : Nat} {q : Loop} {o : Obj} {w : World} (h : w.heap[r]? = some (.loop q)) : (setObj r o).run P w = .ok () (setO w r o) := by simp [setObj, Sem.run, h, setO]
theorem loop_at {φ : Emb} {σ : H} {w : World} {b ver : Nat} {x : Loc} {st : LoopState} {pend : Option Code} {R : Rnd} (hs : Sim P φ σ w) (hx : φ b = some x) (hb : σ[b]? = some (.loop ver st pend R)) :
  ∃ q : Loop, w.heap[x.r]? = some (.loop q) ∧ q.state = st ∧ q.pending = pend ∧ q.tmps.size = R.N ∧ q.params = R.ps ∧ q.assign = R.assign ∧ q.body = R.body ∧ (∀ (t : Nat) (v : Value), R.e t = some v → ∃ v', q.tmps[t]? = some v' ∧ VR φ v v') ∧
   ∀ (st' : LoopState) (pend' : Option Code), Step P φ σ w φ (σ.setIfInBounds b (.loop (ver + 1) st' pend' R)) (setO w x.r (.loop { q with state := st', pending := pend' })) := by
 obtain ⟨ob, o1, o2⟩ := hs.blk b x _ hx hb trivial
 cases o2 with
 |loop _ _ _ _ q _ h0 h1 h2 h3 h4 h5 h6 h7 =>
  exact ⟨q, o1, h1, h2, h3, h4, h5, h6, h7, fun st' pend' => Step.set hs hx hb trivial trivial (Nat.lt_succ_self _) o1 (.loop _ _ _ _ _ _ h0 rfl rfl h3 h4 h5 h6 h7)⟩
theorem yields_sound {e : Env} {l : Nat} {ps : Array Tmp} {ca cb : Code} {W : List Value → H → (Env → H → Prop) → Prop} {B : Env → H → (Exit → Env → H → Prop) → Prop} (hps : ∀ t ∈ ps.toList, t < N)
  (ha : ∀ (ro : Option Nat) (vs : List Value) (τ : H) (A : Env → H → Prop), W vs τ A → Wp P N ro ca (zipE ps.toList vs e) τ (thenK A fun _ _ _ => False))
  (hb : ∀ (ro : Option Nat) (e1 : Env) (τ1 : H) (K1 : Exit → Env → H → Prop), B e1 τ1 K1 → Wp P N ro cb e1 τ1 K1) : Yields P l ps.size { e := lk e, N := N, ps := ps, assign := ca, body := cb } W B := by
 intro ver pend τ vs Ky hτ hlen hW ro φ w fn' cap' args' hs hfn hcap hargs
 cases hfn with
 |yield _ x hx =>
  obtain ⟨q, o1, o2, o3, o4, o5, o6, o7, o8, _⟩ := loop_at hs hx hτ
  simp only at o4 o5 o6 o7 o8
  have hal : args'.size = q.params.size := by rw [o5, ← hargs.1, ← hlen]; simp
  refine ⟨.round x.r q.fn ((q.params.zip args').foldl (fun tmps (t, a) => tmps.setIfInBounds t a) q.tmps) q.assign q.body, w, ?_, ?_⟩
  ·simp only [invoke, Instr.yield, Sem.run_bind, run_getLoop o1, Result.andThen_ok]
   rw [if_neg (fun h => h hal)]
   rfl
  show RoundIn (fc ro) 0 P x.r q.fn _ q.assign q.body w _
  rw [o6, o7]
  refine roundIn_of_wpIn trivial ?_
  have her : ER φ N [] (zipE ps.toList vs e) { tmps := (q.params.zip args').foldl (fun tmps (t, a) => tmps.setIfInBounds t a) q.tmps, defers := [] } := by
   have hz : (q.params.zip args').foldl (fun tmps (t, a) => tmps.setIfInBounds t a) q.tmps = (ps.toList.zip args'.toList).foldl (fun tmps (t, a) => tmps.setIfInBounds t a) q.tmps := by
    rw [← Array.foldl_toList, Array.toList_zip, o5]
   rw [hz]
   refine zip_er ⟨⟨o4, rfl⟩, o8⟩ hps (by have := hargs.1; simpa using this) fun i v hv => ?_
   obtain ⟨v', h1, h2⟩ := hargs.get (i := i) (v := v) (by simpa using hv)
   exact ⟨v', by simpa using h1, h2⟩
  refine wpIn_mono (ha (some x.r) vs τ _ hW φ w _ [] hs her) fun ex a1 w1 hE => ?_
  cases ex with
  |normal =>
   obtain ⟨e1, τ1, φ1, rs, ⟨ver1, pend1, m1, m2⟩, s1, er1, mk1⟩ := hE
   have hx1 : φ1 l = some x := s1.emb hs l x hx
   obtain ⟨q1, p1, p2, p3, p4, p5, p6, p7, p8, p9⟩ := loop_at s1.sim hx1 m1
   have s2 := p9 .busy pend1
   refine ⟨setO w1 x.r (.loop { q1 with state := .busy }), ?_, ?_⟩
   ·simp only [Instr.beginRound, Sem.run_bind, run_getLoop p1, Result.andThen_ok, run_setLoop p1, p2]
    rfl
   ·have hq1 : ({ q1 with state := .busy } : Loop) = { q1 with state := .busy, pending := pend1 } := by rw [← p3]
    rw [hq1]
    refine wpIn_mono (hb (some x.r) e1 _ _ m2 φ1 _ a1 _ s2.sim er1) fun ex2 a2 w2 hE2 => ?_
    obtain ⟨e2, τ2, φ2, rs2, k2, s3, er3, _⟩ := hE2
    have hx2 : φ2 l = some x := s3.emb s2.sim l x hx1
    have fin : ∀ (jump : Option Code) (st : LoopState), (st = if jump.isNone then .ready else .done) → (∃ ver st0 pend0, τ2[l]? = some (.loop ver st0 pend0 { e := lk e, N := N, ps := ps, assign := ca, body := cb }) ∧ Ky (.bool jump.isNone) (τ2.setIfInBounds l (.loop (ver + 1) st jump { e := lk e, N := N, ps := ps, assign := ca, body := cb }))) →
      ∃ v w', (Instr.endRound x.r jump).run P w2 = .ok v w' ∧ EndK (fun v' w' => ∃ v σ' φ', Ky v σ' ∧ VR φ' v v' ∧ Step P φ τ w φ' σ' w') (.returned v) w' := by
     rintro jump st hst ⟨ver3, st3, pend3, t1, t2⟩
     obtain ⟨q3, y1, y2, y3, y4, y5, y6, y7, y8, y9⟩ := loop_at s3.sim hx2 t1
     refine ⟨.bool jump.isNone, setO w2 x.r (.loop { q3 with state := st, pending := jump }), ?_, .bool jump.isNone, rfl, .bool jump.isNone, _, φ2, t2, .bool _, s1.trans hs (s2.trans s1.sim (s3.trans s2.sim (y9 st jump)))⟩
     simp only [Instr.endRound, Sem.run_bind, run_getLoop y1, Result.andThen_ok, run_setLoop y1, ← hst]
     rfl
    cases ex2 with
    |normal => exact fin none .ready rfl k2
    |ret => exact fin (some .ret) .done rfl k2
    |exit id => exact fin (some (.exit id)) .done rfl k2
    |goto t => exact k2.elim
    |panic ch => exact k2.elim
    |outgrown => exact k2.elim
  |exit id => obtain ⟨_, _, _, _, hf, _⟩ := hE; exact hf.elim
  |goto t => obtain ⟨_, _, _, _, hf, _⟩ := hE; exact hf.elim
  |ret => obtain ⟨_, _, _, _, hf, _⟩ := hE; exact hf.elim
  |panic ch => obtain ⟨_, _, _, _, hf, _⟩ := hE; exact hf.elim
  |outgrown => obtain ⟨_, _, _, _, hf, _⟩ := hE; exact hf.elim
theorem Wp.range {g : Operand} {ps : Array Tmp} {ca cb : Code} {e : Env} {σ : H} {K : Exit → Env → H → Prop} {f : FuncId} {xs cap : Array Value} {W : List Value → H → (Env → H → Prop) → Prop} {B : Env → H → (Exit → Env → H → Prop) → Prop}
  (hg : opdOk P g = true) (hps : ∀ t ∈ ps.toList, t < N) (hv : ev e g = some (.func (.func f) xs cap)) (hen : enters P f = true)
  (h : ∀ R : Rnd, Yields P σ.size ps.size R W B → App P (.func f) cap (xs ++ #[.func (.yield σ.size) #[] #[]]) (σ.push (.loop 0 .ready none R)) fun _ τ =>
     ∃ ver st pend, τ[σ.size]? = some (.loop ver st pend R) ∧ st ≠ .busy ∧ jumpK K e pend (τ.setIfInBounds σ.size (.loop (ver + 1) .exhausted pend R)))
  (ha : ∀ (ro : Option Nat) (vs : List Value) (τ : H) (A : Env → H → Prop), W vs τ A → Wp P N ro ca (zipE ps.toList vs e) τ (thenK A fun _ _ _ => False))
  (hb : ∀ (ro : Option Nat) (e1 : Env) (τ1 : H) (K1 : Exit → Env → H → Prop), B e1 τ1 K1 → Wp P N ro cb e1 τ1 K1) : Wp P N none (.rangeFunc g ps ca cb) e σ K := by
 intro φ w a D hs hr
 have hY := yields_sound (P := P) (N := N) (e := e) (l := σ.size) hps ha hb
 have hA := h _ hY
 have hgv := (hr.or (P := P) hs).1 g _ hg hv
 refine wpIn_rangeFunc fun fn _ => ?_
 generalize hq : a.eval g = gv at hgv
 cases hgv with
 |func _ fn' _ xs' _ cap' hfn h1 h2 h3 h4 =>
  cases hfn
  have st0 : Step P φ σ w φ σ { w with heap := w.heap.push (.deferred (some [])) } := Step.extra hs
  have hext := upd_ext (x := ⟨(w.heap.push (.deferred (some []))).size, 0, 0⟩) st0.sim (Nat.le_refl σ.size)
  obtain ⟨W1, hW1⟩ : ∃ W1 : World, W1 = { w with heap := (w.heap.push (.deferred (some []))).push (.loop { state := .ready, pending := none, fn, tmps := a.tmps, params := ps, assign := ca, body := cb, defers := w.heap.size }) } := ⟨_, rfl⟩
  have st1 : Step P φ σ { w with heap := w.heap.push (.deferred (some [])) } (upd φ σ.size ⟨(w.heap.push (.deferred (some []))).size, 0, 0⟩) (σ.push (.loop 0 .ready none { e := lk e, N := N, ps := ps, assign := ca, body := cb })) W1 := hW1 ▸ Step.alloc (k := .loop 0 .ready none { e := lk e, N := N, ps := ps, assign := ca, body := cb }) (e := 0) (d := w.drawn) (ob := .loop { state := .ready, pending := none, fn, tmps := a.tmps, params := ps, assign := ca, body := cb, defers := w.heap.size }) st0.sim
   (.loop _ _ _ _ _ _ rfl rfl rfl hr.1.1 rfl rfl rfl fun t v hv => let ⟨v', g1, g2⟩ := hr.2 t v hv; ⟨v', g1, g2.mono hext⟩)
  have stt := st0.trans hs st1
  have hemb := stt.emb hs
  have hsz : (w.heap.push (.deferred (some []) : Obj)).size = w.heap.size + 1 := by simp
  have hself : upd φ σ.size ⟨(w.heap.push (.deferred (some []))).size, 0, 0⟩ σ.size = some ⟨(w.heap.push (.deferred (some []))).size, 0, 0⟩ := upd_same _ _ _
  have hyv : VR (upd φ σ.size ⟨(w.heap.push (.deferred (some []))).size, 0, 0⟩) (.func (.yield σ.size) #[] #[]) (.func (.yield (w.heap.push (.deferred (some []) : Obj)).size) #[] #[]) :=
   .func _ _ _ _ _ _ (.yield _ _ hself) rfl rfl (fun i h => by simp at h) (fun i h => by simp at h)
  have hvs : VRs (upd φ σ.size ⟨(w.heap.push (.deferred (some []))).size, 0, 0⟩) (xs ++ #[.func (.yield σ.size) #[] #[]]) (xs' ++ #[.func (.yield (w.heap.push (.deferred (some []) : Obj)).size) #[] #[]]) := by
   refine VRs.of_get (by simp [h1]) fun i u hu => ?_
   rw [Array.getElem?_append] at hu ⊢
   split at hu
   ·rename_i hi
    rw [if_pos (h1 ▸ hi)]
    exact (VRs.mono (xs := xs) (xs' := xs') hemb ⟨h1, h3⟩).get hu
   ·rename_i hi
    rw [if_neg (h1 ▸ hi), ← h1]
    exact (VRs.one hyv).get hu
  obtain ⟨nx, w1, g1, g2⟩ := hA none _ _ (.func f) cap' _ st1.sim (.func f) (VRs.mono (xs := cap) (xs' := cap') hemb ⟨h2, h4⟩) hvs
  have hinv : ∀ (as : Array Value) (w : World), (invoke (.fn (.func f) cap') as).run P w = .ok (.enter f (as ++ cap')) w := by
   intro as w
   unfold enters at hen
   split at hen
   ·rename_i fn0 hf0
    simp only [Bool.and_eq_true, Bool.not_eq_true'] at hen
    obtain ⟨hen1, hen2⟩ := hen
    cases hbd : fn0.body with
    |none => rw [hbd] at hen2; cases hen2
    |some c0 =>
     have hname' : ¬ fn0.name = "runtime.NumGoroutine" := by simpa using hen1
     simp [invoke, callFunc, hf0, hbd, hname']
   ·cases hen
  rw [hinv] at g1
  injection g1 with g1 g1'
  subst g1; subst g1'
  simp only [NextIn] at g2
  refine ⟨(w.heap.push (.deferred (some []) : Obj)).size, [mkD w.heap.size], W1, ⟨.fn (.func f) cap', xs' ++ #[.func (.yield (w.heap.push (.deferred (some []) : Obj)).size) #[] #[]]⟩, W1, f, _, W1, ?_, ?_, fun _ _ => trivial, hinv _ _, (fun h => by cases h), ?_⟩
  ·rw [hW1]; rfl
  ·have hc : ∀ v, a.eval (.const v) = v := fun v => rfl
   simp [resolve, rangeCall, hq, Deferred.ofValue, hc]
  ·refine g2.mono fun en w3 ⟨v', q1, v, τ, φ3, ⟨ver, st, pend, k1, k2, k3⟩, q2, q3⟩ => ?_
   subst q1
   have hx3 : φ3 σ.size = some ⟨(w.heap.push (.deferred (some []))).size, 0, 0⟩ := q3.emb st1.sim _ _ hself
   obtain ⟨q, y1, y2, y3, y4, y5, y6, y7, y8, y9⟩ := loop_at q3.sim hx3 k1
   have s4 := y9 .exhausted pend
   have stot := stt.trans hs (q3.trans st1.sim s4)
   have hmk : Marks w (setO w3 (w.heap.push (.deferred (some []) : Obj)).size (.loop { q with state := .exhausted, pending := pend })) [w.heap.size] := by
    refine ⟨by simp, fun r hr => ?_⟩
    rw [List.mem_singleton] at hr
    subst hr
    exact ⟨Nat.le_refl _, s4.defs _ (q3.defs _ (st1.defs _ (by simp)))⟩
   have her : ER φ3 N ([w.heap.size].map mkD ++ D) e { a with defers := [mkD w.heap.size] ++ a.defers } :=
    ⟨⟨hr.1.1, by simp [hr.1.2]⟩, fun t v hv => let ⟨v', g1, g2⟩ := hr.2 t v hv; ⟨v', g1, (g2.mono hemb).mono (q3.emb st1.sim)⟩⟩
   refine ⟨pend, setO w3 (w.heap.push (.deferred (some []) : Obj)).size (.loop { q with state := .exhausted, pending := pend }), ?_, ?_⟩
   ·have hnb : (q.state == LoopState.busy) = false := by rw [y2]; simpa using k2
    have hq3 : ({ q with state := .exhausted } : Loop) = { q with state := .exhausted, pending := pend } := by rw [← y3]
    simp only [Instr.endLoop, Sem.run_bind, run_getLoop y1, Result.andThen_ok, hnb, Bool.false_eq_true, if_false, run_setLoop y1, hq3, Sem.run_pure, y3]
   ·have fin : ∀ ex, K ex e (τ.setIfInBounds σ.size (.loop (ver + 1) .exhausted pend { e := lk e, N := N, ps := ps, assign := ca, body := cb })) →
      End P N D φ σ w K ex { a with defers := [mkD w.heap.size] ++ a.defers } (setO w3 (w.heap.push (.deferred (some []) : Obj)).size (.loop { q with state := .exhausted, pending := pend })) :=
     fun ex hk => ⟨e, _, φ3, [w.heap.size], hk, stot, her, hmk⟩
    unfold jumpK at k3
    split at k3
    ·exact fin _ k3
    ·exact wpIn_ret (fin _ k3)
    ·exact wpIn_exit (fin _ k3)
    ·exact k3.elim
theorem Wp.mono {c : Code} {e : Env} {σ : H} {K K' : Exit → Env → H → Prop} (h : Wp P N ro c e σ K) (hk : ∀ ex e σ, K ex e σ → K' ex e σ) : Wp P N ro c e σ K' :=
 fun φ w a D hs hr => wpIn_mono (h φ w a D hs hr) fun ex _ _ he => End.mono (hk ex) he
theorem sem_mono : ∀ {s : S} {e : Env} {σ : H} {K K' : Exit → Env → H → Prop}, (∀ ex e σ, K ex e σ → K' ex e σ) → sem P s e σ K → sem P s e σ K'
 |.skip, _, _, _, _, hk, h => hk _ _ _ h
 |.label _, _, _, _, _, hk, h => hk _ _ _ h
 |.ret, _, _, _, _, hk, h => hk _ _ _ h
 |.exit _, _, _, _, _, hk, h => hk _ _ _ h
 |.goto _, _, _, _, _, hk, h => hk _ _ _ h
 |.ops _, _, _, _, _, hk, h => evL_mono (hk _) h
 |.draw _ _, _, _, _, _, hk, h => evL_mono (hk _) h
 |.seq a b, e, σ, K, K', hk, h => by
  refine sem_mono (s := a) (fun ex e σ hh => ?_) h
  cases ex with
  |normal => exact sem_mono (s := b) hk hh
  |_ => exact hk _ _ _ hh
 |.cond c a b, e, σ, K, K', hk, h => by
  simp only [sem] at h ⊢
  split at h
  ·split at h
   ·rename_i ht; rw [if_pos ht]; exact sem_mono (s := a) hk h
   ·rename_i ht; rw [if_neg ht]; exact sem_mono (s := b) hk h
  ·exact h.elim
 |.block id a, e, σ, K, K', hk, h => by
  refine sem_mono (s := a) (fun ex e σ hh => ?_) h
  cases ex with
  |exit i =>
   simp only [blockK] at hh ⊢
   split at hh
   ·rename_i hi; rw [if_pos hi]; exact hk _ _ _ hh
   ·rename_i hi; rw [if_neg hi]; exact hk _ _ _ hh
  |_ => exact hk _ _ _ hh
 |.loop a, e, σ, K, K', hk, h => by
  obtain ⟨I, m, h0, h1⟩ := h
  refine ⟨I, m, h0, fun m e σ hI => sem_mono (s := a) (fun ex e σ hh => ?_) (h1 m e σ hI)⟩
  cases ex with
  |normal => exact hh
  |_ => exact hk _ _ _ hh
 |.scope a, e, σ, K, K', hk, h => by
  refine sem_mono (s := a) (fun ex e σ hh => ?_) h
  cases ex with
  |goto l => exact hh.elim
  |_ => exact hk _ _ _ hh
 |.range g ps a b, e, σ, K, K', hk, h => by
  simp only [sem] at h ⊢
  split at h
  ·refine ⟨h.1, fun R hR => ?_⟩
   refine (h.2 R hR).mono fun v τ ⟨ver, st, pend, h1, h2, h3⟩ => ⟨ver, st, pend, h1, h2, ?_⟩
   unfold jumpK at h3 ⊢
   split at h3
   ·exact hk _ _ _ h3
   ·exact hk _ _ _ h3
   ·exact hk _ _ _ h3
   ·exact h3.elim
  ·exact h.elim
 |.keep ts a, e, σ, K, K', hk, h => by
  refine sem_mono (s := a) (fun ex e σ hh => ?_) h
  cases ex with
  |normal => exact hk _ _ _ hh
  |_ => exact hk _ _ _ hh
theorem sem_sound (hm : P.follows .mixedOrders = true) : ∀ {s s0 : S} {ro : Option Nat} {c : Code} {e : Env} {σ : H} {K : Exit → Env → H → Prop}, trS P N c s0 = some s → okS s = true → (ro = none ∨ noRange s = true) → sem P s e σ K → Wp P N ro c e σ K := by
 intro s s0
 induction s0 generalizing s with
 |keep ts s0 ih =>
  intro ro c e σ K ht hk hro h
  have ht : (trS P N c s0).map (.keep ts) = some s := by rw [← ht]; cases c <;> rfl
  simp only [Option.map_eq_some_iff] at ht
  obtain ⟨s1, h1, rfl⟩ := ht
  intro φ w a D hs hr
  refine wpIn_mono (ih h1 hk hro h φ w a D hs hr) fun ex a' w' he => ?_
  cases ex with
  |normal =>
   obtain ⟨e', σ', φ', rs, q1, q2, q3, q4⟩ := he
   exact ⟨keepE ts e', σ', φ', rs, q1, q2, ⟨q3.1, fun t v hv => q3.2 t v (lk_keep hv)⟩, q4⟩
  |_ => exact End.mono (fun _ _ h => h) he
 |skip => intro ro c e σ K ht hk hro h; cases c <;> simp only [trS, reduceCtorEq, Option.some.injEq] at ht; subst ht; exact fun φ w a D hs hr => wpIn_skip (End.of h (.refl hs) hr)
 |ret => intro ro c e σ K ht hk hro h; cases c <;> simp only [trS, reduceCtorEq, Option.some.injEq] at ht; subst ht; exact fun φ w a D hs hr => wpIn_ret (End.of h (.refl hs) hr)
 |exit i => intro ro c e σ K ht hk hro h; cases c <;> simp only [trS, reduceCtorEq, Option.some.injEq] at ht; subst ht; exact fun φ w a D hs hr => wpIn_exit (End.of h (.refl hs) hr)
 |goto i => intro ro c e σ K ht hk hro h; cases c <;> simp only [trS, reduceCtorEq, Option.some.injEq] at ht; subst ht; exact fun φ w a D hs hr => wpIn_goto (End.of h (.refl hs) hr)
 |label i => intro ro c e σ K ht hk hro h; cases c <;> simp only [trS, reduceCtorEq, Option.some.injEq] at ht; subst ht; exact fun φ w a D hs hr => wpIn_label (End.of h (.refl hs) hr)
 |ops l =>
  intro ro c e σ K ht hk hro h
  cases c <;> try (simp only [trS, reduceCtorEq] at ht; done)
  case region id ops d =>
   cases d with
   |true => cases ht
   |false =>
   simp only [trS] at ht
   split at ht
   ·rename_i hall
    injection ht with ht
    subst ht
    intro φ w a D hs hr
    exact wpIn_region (evL_sound hall _ (fun i hi => List.mem_range.1 hi) hs hr h fun φ' e' σ' a' w' k1 k2 k3 => End.of k1 k2 k3)
   ·cases ht
 |draw ms l =>
  intro ro c e σ K ht hk hro h
  cases c <;> try (simp only [trS, reduceCtorEq] at ht; done)
  case region id ops d =>
   cases d with
   |false => cases ht
   |true =>
   simp only [trS] at ht
   split at ht
   ·rename_i hc
    injection ht with ht
    subst ht
    intro φ w a D hs hr
    exact drawn_sound hm hc hk hs hr h fun φ' e' σ' a' w' k1 k2 k3 => End.of k1 k2 k3
   ·cases ht
 |seq x y ih1 ih2 =>
  intro ro c e σ K ht hk hro h
  cases c <;> simp only [trS, reduceCtorEq] at ht
  case seq a b =>
   split at ht
   ·rename_i g1 g2
    injection ht with ht
    subst ht
    simp only [okS, Bool.and_eq_true] at hk
    exact Wp.seq ((ih1 g1 hk.1 (hro.imp_right fun hn => by simp only [noRange, Bool.and_eq_true] at hn; exact hn.1) h).mono fun ex e σ hh => by
     cases ex with
     |normal => exact ih2 g2 hk.2 (hro.imp_right fun hn => by simp only [noRange, Bool.and_eq_true] at hn; exact hn.2) hh
     |_ => exact hh)
   ·cases ht
 |cond c0 x y ih1 ih2 =>
  intro ro c e σ K ht hk hro h
  cases c <;> simp only [trS, reduceCtorEq] at ht
  case cond c a b =>
   split at ht
   ·rename_i hc
    split at ht
    ·rename_i g1 g2
     injection ht with ht
     subst ht
     simp only [okS, Bool.and_eq_true] at hk
     simp only [sem] at h
     split at h
     ·rename_i t hv
      refine Wp.cond hc hv ?_
      split at h
      ·rename_i hb; rw [if_pos hb]; exact ih1 g1 hk.1 (hro.imp_right fun hn => by simp only [noRange, Bool.and_eq_true] at hn; exact hn.1) h
      ·rename_i hb; rw [if_neg hb]; exact ih2 g2 hk.2 (hro.imp_right fun hn => by simp only [noRange, Bool.and_eq_true] at hn; exact hn.2) h
     ·exact h.elim
    ·cases ht
   ·cases ht
 |block i x ih =>
  intro ro c e σ K ht hk hro h
  cases c <;> simp only [trS, reduceCtorEq, Option.map_eq_some_iff] at ht
  obtain ⟨s1, h1, rfl⟩ := ht
  exact Wp.block (ih h1 hk hro h)
 |loop x ih =>
  intro ro c e σ K ht hk hro h
  cases c <;> simp only [trS, reduceCtorEq, Option.map_eq_some_iff] at ht
  obtain ⟨s1, h1, rfl⟩ := ht
  obtain ⟨I, m, h0, h2⟩ := h
  exact Wp.loop I m h0 fun m e σ hI => ih h1 hk hro (h2 m e σ hI)
 |scope x ih =>
  intro ro c e σ K ht hk hro h
  cases c <;> simp only [trS, reduceCtorEq, Option.map_eq_some_iff] at ht
  obtain ⟨s1, h1, rfl⟩ := ht
  exact Wp.scope (ih h1 hk hro h)
 |range g0 ps0 x y ih1 ih2 =>
  intro ro c e σ K ht hk hro h
  cases c <;> simp only [trS, reduceCtorEq] at ht
  case rangeFunc g ps ca cb =>
   split at ht
   ·rename_i hc
    split at ht
    ·rename_i g1 g2
     injection ht with ht
     subst ht
     have hro : ro = none := hro.resolve_right (by simp [noRange])
     subst hro
     simp only [okS, Bool.and_eq_true] at hk
     simp only [sem] at h
     split at h
     ·rename_i f xs cap hv
      refine Wp.range hc.1 (fun t ht => of_decide_eq_true (List.all_eq_true.1 hc.2 t ht)) hv h.1 h.2 (fun ro' vs τ A hA => ih1 g1 hk.1.1.1 (.inr hk.1.2) hA) (fun ro' e1 τ1 K1 hB => ih2 g2 hk.1.1.2 (.inr hk.2) hB)
     ·exact h.elim
    ·cases ht
   ·cases ht
end
def argsE : Nat → List Value → Env
 |_, [] => []
 |i, v :: r => (i, v) :: argsE (i + 1) r
inductive Rs where
 |t (t : Nat)
 |c (a : Nat) (n : Option Nat)
def resT (P : Program) : List ResultVar → Option (List Rs)
 |[] => some []
 |.tmp t :: r => (resT P r).map (.t t :: ·)
 |.cell a t :: r => match shapeOf P t with | some n => (resT P r).map (.c a n :: ·) | none => none
def rdV (σ : H) (ad : Addr) : Option Nat → Option Value
 |none => rd1 σ ad
 |some n => (rdN σ ad n).map fun l => .agg l.toArray
def lkR (e : Env) (σ : H) : Rs → Option Value
 |.t t => lk e t
 |.c a n =>
  match lk e a with
  |some (.pointer (some ad)) => rdV σ ad n
  |_ => none
def lks (e : Env) (σ : H) : List Rs → Option (List Value)
 |[] => some []
 |t :: r => match lkR e σ t, lks e σ r with | some v, some vs => some (v :: vs) | _, _ => none
def outE (ts : List Rs) (e : Env) (σ : H) : Option Value :=
 match lks e σ ts with
 |some [v] => some v
 |some vs => some (.tuple vs.toArray)
 |none => none
def trF (P : Program) (fn : Func) (s : S) : Option S :=
 match fn.body with
 |some c => if fn.name == "runtime.NumGoroutine" then none else trS P fn.ntmps c s
 |none => none
def retK (ts : List Rs) (R : Value → H → Prop) : Exit → Env → H → Prop
 |.normal, e, σ | .ret, e, σ => match outE ts e σ with | some v => R v σ | none => False
 |_, _, _ => False
theorem lk_args {i : Nat} {l : List Value} {t : Nat} {v : Value} (h : lk (argsE i l) t = some v) : i ≤ t ∧ l[t - i]? = some v := by
 induction l generalizing i with
 |nil => cases h
 |cons x l ih =>
  simp only [argsE, lk] at h
  split at h
  ·rename_i hit; subst hit; exact ⟨Nat.le_refl _, by simpa using h⟩
  ·obtain ⟨h1, h2⟩ := ih h
   refine ⟨by omega, ?_⟩
   have : t - i = (t - (i + 1)) + 1 := by omega
   rw [this]
   simpa using h2
theorem loadVar_sound {P : Program} {φ : Emb} {σ : H} {w : World} {t : TypeId} {n : Option Nat} {ad : Addr} {q : Value} {v : Value} (hs : Sim P φ σ w) (hn : shapeOf P t = some n) (hq : VR φ (.pointer (some ad)) q)
  (hf : rdV σ ad n = some v) : ∃ v', (do loadVar t (← asAddr q) : Sem Value).run P w = .ok v' w ∧ VR φ v v' := by
 obtain ⟨x, h1, h2, rfl⟩ := hq.ptr_inv
 unfold shapeOf at hn
 unfold aggOf szOf at hn
 cases hu : P.underlying t with
 |none => simp [hu] at hn
 |some d =>
  cases hi : P.info? t with
  |none => cases d <;> simp [hu, hi] at hn
  |some i =>
   have agg : ∀ l : List Value, rdN σ ad i.size = some l → v = .agg l.toArray → (isAgg t).run P w = .ok true w → ∃ v', (do loadVar t (← asAddr (.pointer (some ⟨x.r, x.o + ad.off, none⟩))) : Sem Value).run P w = .ok v' w ∧ VR φ v v' := by
    intro l hl hv hag
    obtain ⟨l', e1, e2, _⟩ := rdN_sound (a' := ⟨x.r, x.o + ad.off, none⟩) hs hl (fun _ => ⟨x, h1, rfl⟩)
    subst hv
    refine ⟨.agg l'.toArray, ?_, VR.aggs e2⟩
    simp [asAddr, loadVar, hag, sizeOf, typeInfo, hi, e1]
   have one : rd1 σ ad = some v → (isAgg t).run P w = .ok false w → ∃ v', (do loadVar t (← asAddr (.pointer (some ⟨x.r, x.o + ad.off, none⟩))) : Sem Value).run P w = .ok v' w ∧ VR φ v v' := by
    intro hl hag
    obtain ⟨v', e1, e2⟩ := rd1_sound hs h1 hl
    refine ⟨v', ?_, e2⟩
    simp [asAddr, loadVar, hag, e1]
   cases d <;> simp only [hu, hi, Option.map_some, Option.some.injEq] at hn <;> subst hn <;> simp only [rdV] at hf
   case struct fs =>
    simp only [Option.map_eq_some_iff] at hf
    obtain ⟨l, hl, rfl⟩ := hf
    exact agg l hl rfl (by simp [isAgg, run_underlying hu])
   case array n e =>
    simp only [Option.map_eq_some_iff] at hf
    obtain ⟨l, hl, rfl⟩ := hf
    exact agg l hl rfl (by simp [isAgg, run_underlying hu])
   all_goals exact one hf (by simp [isAgg, run_underlying hu])
def getR (tmps : Array Value) : ResultVar → Sem Value
 |.tmp t => pure (tmps.getD t undef)
 |.cell a t => do loadVar t (← asAddr (tmps.getD a undef))
theorem getD_of {tmps : Array Value} {t : Nat} {v : Value} (h : tmps[t]? = some v) : tmps.getD t undef = v := by simp [Array.getD_eq_getD_getElem?, h]
theorem lks_sound {P : Program} {φ : Emb} {N : Nat} {D : List Deferred} {a : Act} {e : Env} {σ : H} {w : World} (hs : Sim P φ σ w) (he : ER φ N D e a) : ∀ {rs : List ResultVar} {ts : List Rs} {vs : List Value}, resT P rs = some ts → lks e σ ts = some vs →
  ∃ vs' : List Value, (rs.mapM (getR a.tmps)).run P w = .ok vs' w ∧ VRs φ vs.toArray vs'.toArray
 |[], ts, vs, hr, h => by
  simp only [resT, Option.some.injEq] at hr
  subst hr
  simp only [lks, Option.some.injEq] at h
  subst h
  exact ⟨[], by simp, rfl, fun i hi => by simp at hi⟩
 |r :: rs, ts, vs, hr, h => by
  have key : ∀ (t : Rs) (ts' : List Rs), resT P rs = some ts' → ts = t :: ts' → (∀ v, lkR e σ t = some v → ∃ v', (getR a.tmps r).run P w = .ok v' w ∧ VR φ v v') →
    ∃ vs' : List Value, ((r :: rs).mapM (getR a.tmps)).run P w = .ok vs' w ∧ VRs φ vs.toArray vs'.toArray := by
   intro t ts' h1 h2 h3
   subst h2
   simp only [lks] at h
   split at h
   ·rename_i v vs1 g1 g2
    injection h with h
    subst h
    obtain ⟨vs', q1, q2⟩ := lks_sound hs he h1 g2
    obtain ⟨v', q3, q4⟩ := h3 v g1
    refine ⟨v' :: vs', by simp [List.mapM_cons, q1, q3], VRs.of_get (by have := q2.1; simp at this ⊢; exact this) fun i u hu => ?_⟩
    cases i with
    |zero =>
     simp at hu
     subst hu
     exact ⟨v', by simp, q4⟩
    |succ i =>
     have : vs1.toArray[i]? = some u := by simpa using hu
     obtain ⟨u', r1, r2⟩ := q2.get this
     exact ⟨u', by simpa using r1, r2⟩
   ·cases h
  cases r with
  |tmp t =>
   simp only [resT, Option.map_eq_some_iff] at hr
   obtain ⟨ts', h1, rfl⟩ := hr
   refine key _ ts' h1 rfl fun v hv => ?_
   obtain ⟨v', q1, q2⟩ := he.2 t v hv
   exact ⟨v', by simp only [getR, getD_of q1, Sem.run_pure], q2⟩
  |cell b t =>
   simp only [resT] at hr
   split at hr
   ·rename_i n hn
    simp only [Option.map_eq_some_iff] at hr
    obtain ⟨ts', h1, rfl⟩ := hr
    refine key _ ts' h1 rfl fun v hv => ?_
    unfold lkR at hv
    simp only at hv
    split at hv
    ·rename_i ad hl
     obtain ⟨q, q1, q2⟩ := he.2 b _ hl
     obtain ⟨v', g1, g2⟩ := loadVar_sound hs hn q2 hv
     exact ⟨v', by simp only [getR, getD_of q1]; exact g1, g2⟩
    ·cases hv
   ·cases hr
theorem outE_sound {P : Program} {φ : Emb} {N : Nat} {D : List Deferred} {fn : Func} {ts : List Rs} {a : Act} {e : Env} {σ : H} {v : Value} {w : World} (hs : Sim P φ σ w) (hr : resT P fn.results.toList = some ts) (he : ER φ N D e a) (h : outE ts e σ = some v) :
  ∃ v', (results fn a.tmps).run P w = .ok v' w ∧ VR φ v v' := by
 have key : ∀ vs' : List Value, (fn.results.toList.mapM (getR a.tmps)).run P w = .ok vs' w → (results fn a.tmps).run P w = .ok (if h : vs'.toArray.size = 1 then vs'.toArray[0] else .tuple vs'.toArray) w := by
  intro vs' h1
  have : results fn a.tmps = (do let vs ← fn.results.mapM (getR a.tmps); pure (if h : vs.size = 1 then vs[0] else .tuple vs)) := by
   unfold results
   congr 1
  rw [this, Sem.run_bind]
  have h2 : (fn.results.mapM (getR a.tmps)).run P w = .ok vs'.toArray w := by
   rw [← Array.toArray_toList (xs := fn.results), List.mapM_toArray]
   simp [h1]
  rw [h2]
  simp
 unfold outE at h
 split at h
 ·rename_i v0 h1
  obtain ⟨vs', g1, g2⟩ := lks_sound hs he hr h1
  injection h with h
  subst h
  have hsz := g2.1
  obtain ⟨v', q1, q2⟩ := g2.get (i := 0) (v := v0) (by simp)
  refine ⟨_, key vs' g1, ?_⟩
  match vs', hsz, q1 with
  |[u], _, q1 => simp at q1; subst q1; simpa using q2
 ·rename_i vs h0 h1
  obtain ⟨vs', g1, g2⟩ := lks_sound hs he hr h1
  injection h with h
  subst h
  refine ⟨_, key vs' g1, ?_⟩
  have hsz := g2.1
  match vs', hsz with
  |[], _ => simpa using VR.tuples g2
  |[u], hsz =>
   exfalso
   match vs, hsz with
   |[x], _ => exact h0 x rfl
  |u :: x :: r, _ => simpa using VR.tuples g2
 ·cases h
theorem Step.take {P : Program} {φ φ0 : Emb} {σ σ0 : H} {w w0 : World} {r : Nat} (h : Step P φ0 σ0 w0 φ σ w) (hr : w.heap[r]? = some (.deferred (some []))) (hw : w0.heap.size ≤ r) : Step P φ0 σ0 w0 φ σ (setO w r (.deferred none)) := by
 have hne : ∀ r', r' < w0.heap.size → (setO w r (.deferred none)).heap[r']? = w.heap[r']? := fun r' hr' => setO_other (by omega)
 refine ⟨⟨fun b x k hx hk hl => ?_, h.sim.inj, fun b x hx => by simpa [setO] using h.sim.lt b x hx, h.sim.glob⟩, h.old, h.size, h.le, h.unborn, by simpa [setO] using h.wsize, fun r' hr' hx => (hne r' hr').trans (h.frame r' hr' hx),
  h.fresh, h.os, h.tape, h.output, fun r' hr' => (hne r' (Array.getElem?_eq_some_iff.1 hr').1).trans (h.defs r' hr')⟩
 obtain ⟨o, h1, h2⟩ := h.sim.blk b x k hx hk hl
 refine ⟨o, (setO_other fun he => ?_).trans h1, h2⟩
 rw [he, hr] at h1
 injection h1 with h1
 exact h2.notDef h1.symm
theorem leaves_marks {P : Program} {fn : Func} {tmps : Array Value} {R : Ending → World → Prop} {φ φ0 : Emb} {σ σ0 : H} {w0 : World} : ∀ (rs : List Nat) (w : World), Step P φ0 σ0 w0 φ σ w → Marks w0 w rs →
  (∀ w', Step P φ0 σ0 w0 φ σ w' → ∃ v, (results fn tmps).run P w' = .ok v w' ∧ R (.returned v) w') → LeavesInM (fc none) 0 P fn tmps R (rs.map mkD) .returning w
 |[], w, hs, _, h => h w hs
 |r :: rs, w, hs, hm, h => by
  obtain ⟨h1, h2⟩ := hm.2 r (by simp)
  obtain ⟨n1, n2⟩ := List.nodup_cons.1 hm.1
  refine ⟨by simp, .inl ⟨r, setO w r (.deferred none), rfl, ?_, ?_⟩⟩
  ·simp [Instr.takeDeferred, getObj, setObj, Sem.run, h2, setO]
  ·refine leaves_marks rs _ (hs.take h2 h1) ⟨n2, fun r' hr' => ⟨(hm.2 r' (by simp [hr'])).1, ?_⟩⟩ h
   exact (setO_other (r := r) (r' := r') fun he => n1 (he ▸ hr')).trans (hm.2 r' (by simp [hr'])).2
theorem App.of_sem {P : Program} {f : Nat} {fn : Func} {s s0 : S} {ts : List Rs} {cap args : Array Value} {σ : H} {R : Value → H → Prop} (hm : P.follows .mixedOrders = true) (hf : P.funcs[f]? = some fn)
  (ht : trF P fn s0 = some s) (hk : okS s = true) (hr : resT P fn.results.toList = some ts) (hn : args.size + cap.size ≤ fn.ntmps)
  (h : sem P s (argsE 0 (args ++ cap).toList) σ (retK ts R)) : App P (.func f) cap args σ R := by
 intro ro φ w fn' cap' args' hs h1 h2 h3
 cases h1
 unfold trF at ht
 split at ht
 ·rename_i c hb
  split at ht
  ·cases ht
  ·rename_i hname
   refine ⟨.enter f (args' ++ cap'), w, ?_, ?_⟩
   ·have hname' : ¬ fn.name = "runtime.NumGoroutine" := fun hh => hname (by rw [hh]; rfl)
    simp [invoke, callFunc, hf, hb, hname']
   ·have hsz : (args' ++ cap').size ≤ fn.ntmps := by simp [← h3.1, ← h2.1]; exact hn
    have hw : c.wpIn (fc none) 0 P (End P fn.ntmps [] φ σ w (retK ts R)) { tmps := (args' ++ cap') ++ Array.replicate (fn.ntmps - (args' ++ cap').size) undef, defers := [] } w := by
     refine sem_sound (ro := none) hm ht hk (.inl rfl) h φ w _ [] hs ⟨⟨by simp only [Array.size_append, Array.size_replicate] at hsz ⊢; omega, rfl⟩, fun t v hv => ?_⟩
     obtain ⟨_, hv⟩ := lk_args hv
     have hv : (args ++ cap)[t]? = some v := by rw [← Array.getElem?_toList]; exact hv
     have hall : VRs φ (args ++ cap) (args' ++ cap') := by
      refine VRs.of_get (by simp [h3.1, h2.1]) fun i u hu => ?_
      rw [Array.getElem?_append] at hu ⊢
      split at hu
      ·rename_i hi
       rw [if_pos (h3.1 ▸ hi)]
       exact h3.get hu
      ·rename_i hi
       rw [if_neg (h3.1 ▸ hi), ← h3.1]
       exact h2.get hu
     obtain ⟨v', q1, q2⟩ := hall.get hv
     have hlt := (Array.getElem?_eq_some_iff.1 q1).1
     exact ⟨v', by simp only; rw [Array.getElem?_append_left hlt]; exact q1, q2⟩
    have hc : CallsIn (fc none) 0 P f (args' ++ cap') w (EndK fun v' w' => ∃ v σ' φ', R v σ' ∧ VR φ' v v' ∧ Step P φ σ w φ' σ' w') := by
     refine callsIn_of_wp_marks hf hb trivial (wpIn_mono hw fun ex a' w' he => ?_)
     obtain ⟨e', σ', φ', rs, k1, k2, k3, k4⟩ := he
     have fin : (match outE ts e' σ' with | some v => R v σ' | none => False) → LeavesInM (fc none) 0 P fn a'.tmps (EndK fun v' w' => ∃ v σ' φ', R v σ' ∧ VR φ' v v' ∧ Step P φ σ w φ' σ' w') a'.defers .returning w' := by
      intro hh
      split at hh
      ·rename_i v hv
       have hd : a'.defers = rs.map mkD := by have := k3.1.2; simpa using this
       rw [hd]
       refine leaves_marks rs w' k2 k4 fun w2 hs2 => ?_
       obtain ⟨v', q1, q2⟩ := outE_sound (P := P) (w := w2) hs2.sim hr k3 hv
       exact ⟨v', q1, v', rfl, v, σ', φ', hh, q2, hs2⟩
      ·exact hh.elim
     cases ex with
     |normal => exact fin k1
     |ret => exact fin k1
     |exit id => exact k1.elim
     |goto l => exact k1.elim
     |panic ch => exact k1.elim
     |outgrown => exact k1.elim
    exact hc
 ·cases ht
end Go.Cn
