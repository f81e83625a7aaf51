/- An abstract run of a program, and that the model does the same: a part of the framework. Conditions: none. -/
import Derived.Test.YtiipnbnkikmlgaaGreatDoorCn9
import Derived.OrdersIn
set_option linter.all false
namespace Go.Cn
open Go Go.RowKit
def fc (ro : Option Nat) : Fence := { Fence.wide with round := ro }
def EndK (K : Value → World → Prop) : Ending → World → Prop := fun e w => ∃ v, e = .returned v ∧ K v w
def NextIn (P : Program) (ro : Option Nat) : Next → World → (Value → World → Prop) → Prop
 |.enter f a, w, K => CallsIn (fc ro) 0 P f a w (EndK K)
 |.round l f tmps assign body, w, K => RoundIn (fc ro) 0 P l f tmps assign body w (EndK K)
 |_, _, _ => False
def App (P : Program) (fn : Fn) (cap args : Array Value) (σ : H) (R : Value → H → Prop) : Prop :=
 ∀ (ro : Option Nat) (φ : Emb) (w : World) (fn' : Fn) (cap' args' : Array Value), Sim P φ σ w → FnR φ fn fn' → VRs φ cap cap' → VRs φ args args' →
  ∃ nx w1, (invoke (.fn fn' cap') args').run P w = .ok nx w1 ∧
   NextIn P ro nx w1 (fun v' w' => ∃ v σ' φ', R v σ' ∧ VR φ' v v' ∧ Step P φ σ w φ' σ' w')
theorem NextIn.mono {P : Program} {ro : Option Nat} {nx : Next} {w : World} {K K' : Value → World → Prop} (h : NextIn P ro nx w K) (hk : ∀ v w, K v w → K' v w) : NextIn P ro nx w K' := by
 cases nx <;> simp only [NextIn] at h ⊢
 ·exact h.mono fun e w ⟨v, h1, h2⟩ => ⟨v, h1, hk _ _ h2⟩
 ·exact h.mono fun e w ⟨v, h1, h2⟩ => ⟨v, h1, hk _ _ h2⟩
theorem App.mono {P : Program} {fn : Fn} {cap args : Array Value} {σ : H} {R R' : Value → H → Prop} (h : App P fn cap args σ R) (hr : ∀ v σ', R v σ' → R' v σ') : App P fn cap args σ R' := by
 intro ro φ w fn' cap' args' h1 h2 h3 h4
 obtain ⟨nx, w1, g1, g2⟩ := h ro φ w fn' cap' args' h1 h2 h3 h4
 exact ⟨nx, w1, g1, g2.mono fun v w ⟨v0, σ', φ', q1, q2, q3⟩ => ⟨v0, σ', φ', hr _ _ q1, q2, q3⟩⟩
structure O where
 dst : Option Nat
 op : A
 g : Option (Nat × Bool)
 re : List (A × Option (Nat × Bool) × Option Nat)
def putE (e : Env) (d : Option Nat) (v : Value) : Env :=
 match d with
 |none => e
 |some d => (d, v) :: e
def wantedE (g : Option (Nat × Bool)) (e : Env) : Option Bool :=
 match g with
 |none => some true
 |some (t, b) =>
  match lk e t with
  |some (.bool c) => some (c == b)
  |some (.tuple _) => some false
  |_ => none
def reread (q : A × Option (Nat × Bool) × Option Nat) (e : Env) (σ : H) : Prop :=
 match wantedE q.2.1 e with
 |some false => True
 |some true =>
  match q.1.den (ev e), q.2.2 with
  |.read f, some d => f σ = lk e d
  |_, _ => False
 |none => False
def rereads : List (A × Option (Nat × Bool) × Option Nat) → Env → H → Prop → Prop
 |[], _, _, K => K
 |q :: r, e, σ, K => reread q e σ ∧ rereads r e σ K
theorem rereads_iff {l : List (A × Option (Nat × Bool) × Option Nat)} {e : Env} {σ : H} {K : Prop} : rereads l e σ K ↔ (∀ q ∈ l, reread q e σ) ∧ K := by
 induction l with
 |nil => simp [rereads]
 |cons q r ih => simp [rereads, ih, and_assoc]
def denK (P : Program) (d : Den) (σ : H) (K : Value → H → Prop) : Prop :=
 match d with
 |.pure (some v) => K v σ
 |.read f => match f σ with | some v => K v σ | none => False
 |.alloc (some x) => K (x.2 σ.size) (σ.push x.1)
 |.eff f => match f σ with | some x => K x.1 x.2 | none => False
 |.any f => match f σ with | some l => ∀ x ∈ l, K x.1 x.2 | none => False
 |.call (some (.func fn xs cap)) (some args) => App P fn cap (xs ++ args.toArray) σ K
 |_ => False
def stepO (P : Program) (o : O) (e : Env) (σ : H) (K : Env → H → Prop) : Prop :=
 match wantedE o.g e with
 |none => False
 |some false => K (putE e o.dst undef) σ
 |some true => denK P (o.op.den (ev e)) σ fun v σ' => rereads o.re (putE e o.dst v) σ' (K (putE e o.dst v) σ')
def evL (P : Program) : List O → Env → H → (Env → H → Prop) → Prop
 |[], e, σ, K => K e σ
 |o :: r, e, σ, K => stepO P o e σ fun e σ => evL P r e σ K
theorem denK_mono {P : Program} {d : Den} {σ : H} {K K' : Value → H → Prop} (hk : ∀ v σ, K v σ → K' v σ) (h : denK P d σ K) : denK P d σ K' := by
 unfold denK at h ⊢
 split at h
 ·exact hk _ _ h
 ·split at h
  ·exact hk _ _ h
  ·exact h.elim
 ·exact hk _ _ h
 ·split at h
  ·exact hk _ _ h
  ·exact h.elim
 ·split at h
  ·exact fun x hx => hk _ _ (h x hx)
  ·exact h.elim
 ·exact h.mono hk
 ·exact h.elim
theorem stepO_mono {P : Program} {o : O} {e : Env} {σ : H} {K K' : Env → H → Prop} (hk : ∀ e σ, K e σ → K' e σ) (h : stepO P o e σ K) : stepO P o e σ K' := by
 unfold stepO at h ⊢
 split at h
 ·exact h
 ·exact hk _ _ h
 ·exact denK_mono (fun v σ' h => by rw [rereads_iff] at h ⊢; exact ⟨h.1, hk _ _ h.2⟩) h
theorem evL_mono {P : Program} : ∀ {l : List O} {e : Env} {σ : H} {K K' : Env → H → Prop}, (∀ e σ, K e σ → K' e σ) → evL P l e σ K → evL P l e σ K'
 |[], _, _, _, _, hk, h => hk _ _ h
 |_ :: _, _, _, _, _, hk, h => stepO_mono (fun _ _ h => evL_mono hk h) h
section
variable {P : Program} {ops : Array Oper} {φ : Emb} {σ : H} {w : World} {N : Nat} {D : List Deferred} {e : Env} {a : Act} {Q : Exit → Act → World → Prop} {ro : Option Nat}
def mkG (ops : Array Oper) (o : Oper) : Option (Nat × Bool) :=
 match o.guard with
 |none => none
 |some (j, b) => match (ops[j]?).bind (·.dst) with | some d => some (d, b) | none => some (0, b)
def okG (ops : Array Oper) (o : Oper) : Bool :=
 match o.guard with
 |none => true
 |some (j, _) => ((ops[j]?).bind (·.dst)).isSome
theorem wanted_sound {o : Oper} {b : Bool} (hg : okG ops o = true) (h : wantedE (mkG ops o) e = some b)
  (hr : ∀ (t : Nat) (v : Value), (∃ c, mkG ops o = some (t, c)) → lk e t = some v → ∃ v', a.tmps[t]? = some v' ∧ VR φ v v') : Region.wanted o (yielded ops a.tmps) = b := by
 unfold Region.wanted
 unfold okG at hg
 unfold mkG at h hr
 split at h
 ·rename_i hgd; simp only [hgd]; simpa [wantedE] using h
 ·rename_i j c hgd
  simp only [hgd] at hg hr ⊢
  obtain ⟨d, hd⟩ := Option.isSome_iff_exists.1 hg
  simp only [hd, wantedE] at h hr
  cases hl : lk e d with
  |none => simp [hl] at h
  |some v =>
   obtain ⟨v', h1, h2⟩ := hr d v ⟨c, rfl⟩ hl
   rw [hl] at h
   unfold yielded
   simp only [hd, Option.bind_some, h1]
   cases h2 <;> simp at h <;> subst h <;> simp
theorem den_defer {ρ : Operand → Option Value} {op : Op} {c : Call} (h : op = .defer c) : (trOp P op).den ρ = .bad := by
 subst h
 unfold trOp
 split <;> rfl
theorem semAt_den {o : Oper} {ρ : Operand → Option Value} (h : (trOp P o.op).den ρ ≠ .bad) : o.semAt ro a.eval = execOp a.eval o :=
 Oper.semAt_eq ro _ o fun _ hc => h (den_defer hc)
theorem wpIn_val {o : Oper} {K : Act → World → Prop} {v' : Value} {w' : World} {nx : Next} (hs : o.semAt ro a.eval = execOp a.eval o) (h : (execOp a.eval o).run P w = .ok nx w')
  (hn : nx = .value v' ∨ (nx = .skip ∧ v' = undef)) (hk : K (a.put o.dst v') w') : o.wpIn (fc ro) 0 P a w K Q := by
 refine ⟨fun _ _ => trivial, ?_⟩
 have : (fc ro).round = ro := rfl
 rw [this, hs, h]
 rcases hn with rfl | ⟨rfl, rfl⟩ <;> exact hk
theorem op_sound {o : Oper} {ρ : Operand → Option Value} {K0 : Value → H → Prop} {K : Act → World → Prop} (hs : Sim P φ σ w) (hρ : OR P φ ρ a.eval) (h : denK P ((trOp P o.op).den ρ) σ K0)
  (hk : ∀ φ' v v' σ' w', K0 v σ' → Step P φ σ w φ' σ' w' → VR φ' v v' → K (a.put o.dst v') w') : o.wpIn (fc ro) 0 P a w K Q := by
 have hsem : o.semAt ro a.eval = execOp a.eval o := semAt_den (ρ := ρ) fun hb => by rw [hb] at h; exact h
 unfold denK at h
 split at h
 ·rename_i v hd
  obtain ⟨v', h1, h2⟩ := pure_sound (w := w) hρ hd
  exact wpIn_val hsem h1 (.inl rfl) (hk φ v v' σ w h (.refl hs) h2)
 ·rename_i f hd
  split at h
  ·rename_i v hf
   obtain ⟨v', h1, h2⟩ := read_sound hs hρ hd hf
   exact wpIn_val hsem h1 (.inl rfl) (hk φ v v' σ w h (.refl hs) h2)
  ·exact h.elim
 ·rename_i x hd
  obtain ⟨k, mk⟩ := x
  obtain ⟨ob, d, e1, v', h1, h2⟩ := alloc_sound (w := w) hρ hd
  obtain ⟨g1, g2⟩ := h2 (upd φ σ.size ⟨w.heap.size, 0, e1⟩) σ.size (upd_ext hs (Nat.le_refl _)) (upd_same _ _ _)
  exact wpIn_val hsem h1 (.inl rfl) (hk _ _ v' _ _ h (Step.alloc hs g1) g2)
 ·rename_i f hd
  split at h
  ·rename_i x hf
   obtain ⟨v, σ'⟩ := x
   obtain ⟨nx, v', φ', w', h1, h2, h3, h4⟩ := eff_sound hs hρ hd hf
   exact wpIn_val hsem h1 h2 (hk φ' v v' σ' w' h h4 h3)
  ·exact h.elim
 ·rename_i f hd
  split at h
  ·rename_i l hf
   obtain ⟨x, hx, nx, v', φ', w', h1, h2, h3, h4⟩ := any_sound hs hρ hd hf
   exact wpIn_val hsem h1 h2 (hk φ' x.1 v' x.2 w' (h x hx) h4 h3)
  ·exact h.elim
 ·rename_i fn xs cap args hd
  obtain ⟨fn', cap', args', h1, h2, h3, h4⟩ := call_sound (w := w) hρ hd
  obtain ⟨nx, w1, g1, g2⟩ := h ro φ w fn' cap' args' hs h1 h2 h3
  refine ⟨fun _ _ => trivial, ?_⟩
  have : (fc ro).round = ro := rfl
  rw [this, hsem, h4, g1]
  cases nx <;> simp only [NextIn] at g2
  ·refine ⟨fun h => (by cases h), g2.mono fun e w ⟨v', q1, v, σ', φ', q2, q3, q4⟩ => ?_⟩
   subst q1
   exact hk φ' v v' σ' w q2 q4 q3
  ·refine ⟨fun h => (by cases h), g2.mono fun e w ⟨v', q1, v, σ', φ', q2, q3, q4⟩ => ?_⟩
   subst q1
   exact hk φ' v v' σ' w q2 q4 q3
 ·exact h.elim
theorem lk_put {e : Env} {d : Option Nat} {v : Value} {t : Nat} : lk (putE e d v) t = if d = some t then some v else lk e t := by
 cases d with
 |none => simp [putE]
 |some d => simp [putE, lk]
theorem put_get {a : Act} {d : Option Nat} {v v' : Value} {t : Nat} (h : a.tmps[t]? = some v') (hd : d ≠ some t) : (a.put d v).tmps[t]? = some v' := by
 cases d with
 |none => exact h
 |some d => simp only [Act.put, Array.getElem?_setIfInBounds]; rw [if_neg (fun h => hd (by rw [h]))]; exact h
theorem put_same {a : Act} {d : Nat} {v : Value} (h : d < a.tmps.size) : (a.put (some d) v).tmps[d]? = some v := by
 simp only [Act.put, Array.getElem?_setIfInBounds]; simp [h]
theorem put_size {a : Act} {d : Option Nat} {v : Value} : (a.put d v).tmps.size = a.tmps.size := by cases d <;> simp [Act.put]
theorem put_defers {a : Act} {d : Option Nat} {v : Value} : (a.put d v).defers = a.defers := by cases d <;> simp [Act.put]
theorem ER.put {v v' : Value} {d : Option Nat} (h : ER φ N D e a) (hd : ∀ t, d = some t → t < N) (hv : VR φ v v') : ER φ N D (putE e d v) (a.put d v') := by
 refine ⟨⟨put_size.trans h.1.1, put_defers.trans h.1.2⟩, fun t u hu => ?_⟩
 rw [lk_put] at hu
 split at hu
 ·rename_i hdt
  subst hdt
  injection hu with hu
  subst hu
  exact ⟨v', put_same (by rw [h.1.1]; exact hd t rfl), hv⟩
 ·rename_i hdt
  obtain ⟨u', h1, h2⟩ := h.2 t u hu
  exact ⟨u', put_get h1 hdt, h2⟩
theorem ER.mono {φ' : Emb} (h : ER φ N D e a) (hm : ∀ b x, φ b = some x → φ' b = some x) : ER φ' N D e a :=
 ⟨h.1, fun t v hv => let ⟨v', h1, h2⟩ := h.2 t v hv; ⟨v', h1, h2.mono hm⟩⟩
def mkR (P : Program) (ops : Array Oper) (j : Nat) : Option (A × Option (Nat × Bool) × Option Nat) := (ops[j]?).map fun o => (trOp P o.op, mkG ops o, o.dst)
def mkO (P : Program) (ops : Array Oper) (re : List Nat) (o : Oper) : O := { dst := o.dst, op := trOp P o.op, g := mkG ops o, re := re.filterMap (mkR P ops) }
def okO (N : Nat) (ops : Array Oper) (o : Oper) : Bool := okG ops o && (match o.dst with | some d => decide (d < N) | none => true)
theorem okO_dst {o : Oper} (h : okO N ops o = true) : ∀ t, o.dst = some t → t < N := by
 intro t ht
 unfold okO at h
 rw [ht] at h
 simp at h
 exact h.2
theorem okO_g {o : Oper} (h : okO N ops o = true) : okG ops o = true := by
 unfold okO at h
 simp only [Bool.and_eq_true] at h
 exact h.1
theorem step_sound {i : Nat} {o : Oper} {re : List Nat} {K : Env → H → Prop} {Kr : Act → World → Prop} (hs : Sim P φ σ w) (he : ER φ N D e a) (hi : ops[i]? = some o) (hok : okO N ops o = true)
  (h : stepO P (mkO P ops re o) e σ K) (hk : ∀ φ' e' σ' a' w', K e' σ' → Step P φ σ w φ' σ' w' → ER φ' N D e' a' → Kr a' w') : wpOpIn (fc ro) 0 P ops Q i Kr a w := by
 unfold wpOpIn
 simp only [hi]
 unfold stepO at h
 split at h
 ·exact h.elim
 ·rename_i hw
  rw [wanted_sound (okO_g hok) hw fun t v _ hv => he.2 t v hv]
  simp only [Bool.false_eq_true, if_false]
  exact ⟨fun _ _ => trivial, hk φ _ σ _ w h (.refl hs) (he.put (okO_dst hok) .undef)⟩
 ·rename_i hw
  rw [wanted_sound (okO_g hok) hw fun t v _ hv => he.2 t v hv]
  simp only [if_true]
  refine op_sound hs (he.or hs) h fun φ' v v' σ' w' hK hst hv => ?_
  exact hk φ' _ σ' _ w' (rereads_iff.1 hK).2 hst ((he.mono (hst.emb hs)).put (okO_dst hok) hv)
theorem evL_sound {K : Env → H → Prop} (hall : ops.all (okO N ops) = true) : ∀ (l : List Nat) {φ : Emb} {σ : H} {w : World} {e : Env} {a : Act}, (∀ i ∈ l, i < ops.size) → Sim P φ σ w → ER φ N D e a →
  evL P (l.filterMap fun i => (ops[i]?).map (mkO P ops [])) e σ K → (∀ φ' e' σ' a' w', K e' σ' → Step P φ σ w φ' σ' w' → ER φ' N D e' a' → Q .normal a' w') → wpOpsIn (fc ro) 0 P ops Q l a w
 |[], φ, σ, w, e, a, _, hs, he, h, hk => hk φ e σ a w h (.refl hs) he
 |i :: l, φ, σ, w, e, a, hl, hs, he, h, hk => by
  have hi := hl i (by simp)
  rw [wpOpsIn_cons]
  have hio : ops[i]? = some ops[i] := by simp [hi]
  simp only [List.filterMap_cons, hio, Option.map_some, evL] at h
  refine step_sound hs he hio (Array.all_eq_true.1 hall i hi) h fun φ' e' σ' a' w' hK hst he' => ?_
  exact evL_sound hall l (fun j hj => hl j (by simp [hj])) hst.sim he' hK fun φ2 e2 σ2 a2 w2 hK2 hst2 he2 => hk φ2 e2 σ2 a2 w2 hK2 (hst.trans hs hst2) he2
end
def A.opds : A → List Operand
 |.move x | .box x | .nilCheck x | .un _ x | .convInt _ x | .convStr x | .strBytes x | .bytesStr x | .mark x | .fieldAddr _ x | .field _ _ x | .s2ap _ x | .extract x _ | .len x | .lenStr x | .lenMap x | .mkIter x | .next x | .entry x => [x]
 |.pick c a b => [c, a, b]
 |.alloc _ | .makeMap | .lenC _ | .bad => []
 |.build _ ps | .buildSlice _ _ ps => ps.map (·.2.2)
 |.load _ a => [a]
 |.store _ a v => [a, v]
 |.bin _ x y | .eqBool _ x y | .eqAgg _ _ x y => [x, y]
 |.eqNil _ _ x y => [x, y]
 |.indexAddr _ x i | .indexArr _ _ x i | .indexAgg _ _ _ x i | .indexStr x i => [x, i]
 |.slice _ x lo hi mx | .sliceArr _ _ x lo hi mx => x :: (lo.toList ++ hi.toList ++ mx.toList)
 |.sliceStr x lo hi => x :: (lo.toList ++ hi.toList)
 |.makeFunc _ a b => a ++ b
 |.makeSlice _ _ n c => [n, c]
 |.minmax _ xs => xs
 |.append _ _ s x | .copy _ s x => [s, x]
 |.lookup _ _ _ x k => [x, k]
 |.mapPut _ x k v => [x, k, v]
 |.mapDel _ x k => [x, k]
 |.mapClr x => [x]
 |.call f args => f :: args
theorem evs_congr {ρ ρ' : Operand → Option Value} : ∀ {l : List Operand}, (∀ x ∈ l, ρ x = ρ' x) → evs ρ l = evs ρ' l
 |[], _ => rfl
 |x :: l, h => by
  have h1 : evs ρ l = evs ρ' l := evs_congr (fun y hy => h y (List.mem_cons_of_mem _ hy))
  simp only [evs, h x (by simp), h1]
theorem opt_congr {ρ ρ' : Operand → Option Value} {x : Option Operand} (h : ∀ y ∈ x.toList, ρ y = ρ' y) : opt ρ x = opt ρ' x := by
 cases x with
 |none => rfl
 |some y => simp only [opt, h y (by simp)]
theorem parts_congr {ρ ρ' : Operand → Option Value} {l : List (Nat × Nat × Operand)} (h : ∀ x ∈ l.map (·.2.2), ρ x = ρ' x) :
  (l.map fun p => (p.1, p.2.1, ρ p.2.2)) = l.map fun p => (p.1, p.2.1, ρ' p.2.2) := by
 apply List.map_congr_left
 intro p hp
 rw [h p.2.2 (List.mem_map.2 ⟨p, hp, rfl⟩)]
theorem den_congr {ρ ρ' : Operand → Option Value} {x : A} (h : ∀ y ∈ x.opds, ρ y = ρ' y) : x.den ρ = x.den ρ' := by
 cases x <;> simp only [A.opds, List.mem_cons, List.mem_append, List.not_mem_nil, or_false, forall_eq_or_imp, forall_eq] at h
 case build => simp only [A.den, parts_congr h]
 case buildSlice => simp only [A.den, parts_congr h]
 case slice =>
  simp only [A.den, h.1, opt_congr (fun y hy => h.2 y (.inl (.inl hy))), opt_congr (fun y hy => h.2 y (.inl (.inr hy))), opt_congr (fun y hy => h.2 y (.inr hy))]
 case sliceArr =>
  simp only [A.den, h.1, opt_congr (fun y hy => h.2 y (.inl (.inl hy))), opt_congr (fun y hy => h.2 y (.inl (.inr hy))), opt_congr (fun y hy => h.2 y (.inr hy))]
 case sliceStr => simp only [A.den, h.1, opt_congr (fun y hy => h.2 y (.inl hy)), opt_congr (fun y hy => h.2 y (.inr hy))]
 case makeFunc => simp only [A.den, evs_congr (fun y hy => h y (.inl hy)), evs_congr (fun y hy => h y (.inr hy))]
 case minmax => simp only [A.den, evs_congr h]
 case call => simp only [A.den, h.1, evs_congr h.2]
 all_goals simp only [A.den, h]
def quiet : A → Bool
 |.store .. | .mark .. | .append .. | .copy .. | .mapPut .. | .mapDel .. | .mapClr .. | .mkIter .. | .next .. | .call .. | .bad => false
 |_ => true
def isRead : A → Bool
 |.load .. | .bytesStr .. | .lenMap .. | .lookup .. | .entry .. => true
 |_ => false
theorem not_read {ρ : Operand → Option Value} {x : A} {f : H → Option Value} (h : isRead x = false) : x.den ρ ≠ .read f := by
 cases x <;> simp [isRead, A.den] at h ⊢
theorem quiet_den {ρ : Operand → Option Value} {x : A} (h : quiet x = true) : (∃ v, x.den ρ = .pure v) ∨ (∃ f, x.den ρ = .read f) ∨ ∃ v, x.den ρ = .alloc v := by
 cases x <;> simp [quiet, A.den] at h ⊢
theorem push_old {σ : H} {k : Blk} {b : Nat} {q : Blk} (h : σ[b]? = some q) : (σ.push k)[b]? = some q := by
 rw [Array.getElem?_push, if_neg (by have := (Array.getElem?_eq_some_iff.1 h).1; omega)]
 exact h
theorem rd1_push {σ : H} {k : Blk} {a : Addr} {v : Value} (h : rd1 σ a = some v) : rd1 (σ.push k) a = some v := by
 unfold rd1 at h ⊢
 split at h
 ·rename_i h1; simp only [push_old h1]; exact h
 ·rename_i h1; simp only [push_old h1]; exact h
 ·cases h
theorem rdN_push {σ : H} {k : Blk} {a : Addr} {n : Nat} {v : List Value} (h : rdN σ a n = some v) : rdN (σ.push k) a n = some v := by
 unfold rdN at h ⊢
 split at h
 ·rename_i h1; simp only [h1, if_true]; exact h
 ·rename_i h1
  rw [if_neg h1]
  split at h
  ·rename_i h1; simp only [push_old h1]; exact h
  ·rename_i h1; simp only [push_old h1]; exact h
  ·cases h
theorem mapOf_push {σ : H} {k : Blk} {x : Value} {v : Array MapEntry} (h : mapOf σ x = some v) : mapOf (σ.push k) x = some v := by
 unfold mapOf at h ⊢
 split at h
 ·exact h
 ·split at h
  ·rename_i h1; simp only [push_old h1]; exact h
  ·cases h
 ·cases h
theorem read_push {ρ : Operand → Option Value} {x : A} {f : H → Option Value} {σ : H} {k : Blk} {v : Value} (h : x.den ρ = .read f) (hf : f σ = some v) : f (σ.push k) = some v := by
 cases x <;> simp only [A.den, Den.read.injEq, reduceCtorEq] at h <;> subst h
 case load n a =>
  simp only at hf ⊢
  split at hf
  ·cases n with
   |none => exact rd1_push hf
   |some n =>
    simp only [Option.map_eq_some_iff] at hf ⊢
    obtain ⟨l, h1, h2⟩ := hf
    exact ⟨l, rdN_push h1, h2⟩
  ·cases hf
 case bytesStr a =>
  simp only at hf ⊢
  split at hf
  ·exact hf
  ·simp only [Option.map_eq_some_iff, Option.bind_eq_some_iff] at hf ⊢
   obtain ⟨l, ⟨l', h1, h1'⟩, h2⟩ := hf
   exact ⟨l, ⟨l', rdN_push h1, h1'⟩, h2⟩
  ·cases hf
 case lenMap a =>
  simp only [Option.map_eq_some_iff, Option.bind_eq_some_iff] at hf ⊢
  obtain ⟨y, hy, es, h1, h2⟩ := hf
  exact ⟨y, hy, es, mapOf_push h1, h2⟩
 case entry x =>
  simp only [Option.bind_eq_some_iff] at hf ⊢
  obtain ⟨y, hy, hf⟩ := hf
  refine ⟨y, hy, ?_⟩
  unfold entryV at hf ⊢
  split at hf
  ·split at hf
   ·rename_i h1
    split at hf
    ·rename_i h2 h3
     simp only [push_old h1, h2, push_old h3]
     exact hf
    ·cases hf
   ·cases hf
  ·cases hf
 case lookup lf z ok x k =>
  simp only at hf ⊢
  split at hf
  ·unfold lookupV at hf ⊢
   split at hf
   ·cases hf
   ·rename_i h1; simp only [mapOf_push h1]; exact hf
  ·cases hf
section
variable {P : Program} {φ φ0 : Emb} {σ σ0 : H} {w w0 : World}
theorem Step.push {k : Blk} (hs : Sim P φ σ w) : Step P φ σ w φ (σ.push k) w := by
 have hold : ∀ c, c < σ.size → (σ.push k)[c]? = σ[c]? := fun c hc => by rw [Array.getElem?_push, if_neg (by omega)]
 refine ⟨⟨fun c y q hy hq hql => hs.blk c y q hy ((hold c (hs.lt c y hy).1).symm.trans hq) hql, fun c c' y y' q q' hy hy' hr' hq hq' hql hql' => ?_, fun c y hy => ⟨by have := (hs.lt c y hy).1; simp; omega, (hs.lt c y hy).2⟩, hs.glob⟩,
  fun _ _ => rfl, by simp, fun b q hq => ⟨q, push_old hq, Blk.le_refl _⟩, fun b hb _ => hold b hb, Nat.le_refl _, fun _ _ _ => rfl, fun b x hb hx _ => absurd (hs.lt b x hx).1 (by omega), rfl, rfl, rfl, fun _ h => h⟩
 exact hs.inj c c' y y' q q' hy hy' hr' ((hold c (hs.lt c y hy).1).symm.trans hq) ((hold c' (hs.lt c' y' hy').1).symm.trans hq') hql hql'
theorem Step.born {b e d : Nat} {k : Blk} {ob : Obj} (h : Step P φ0 σ0 w0 φ σ w) (h0 : σ0.size ≤ b) (hb : σ[b]? = some k) (hn : φ b = none)
  (hr : BR (upd φ b ⟨w.heap.size, 0, e⟩) k ob ⟨w.heap.size, 0, e⟩) : Step P φ0 σ0 w0 (upd φ b ⟨w.heap.size, 0, e⟩) σ { w with heap := w.heap.push ob, drawn := d } := by
 have hs := h.sim
 have hext : ∀ c y, φ c = some y → upd φ b ⟨w.heap.size, 0, e⟩ c = some y := by
  intro c y hc
  simp only [upd]
  split
  ·rename_i hcb; subst hcb; rw [hn] at hc; cases hc
  ·exact hc
 have inv : ∀ c y, upd φ b ⟨w.heap.size, 0, e⟩ c = some y → (c = b ∧ y = ⟨w.heap.size, 0, e⟩) ∨ (c < σ.size ∧ y.r < w.heap.size ∧ φ c = some y) := by
  intro c y hc
  simp only [upd] at hc
  split at hc
  ·rename_i h; injection hc with hc; exact .inl ⟨h, hc.symm⟩
  ·exact .inr ⟨(hs.lt c y hc).1, (hs.lt c y hc).2, hc⟩
 have wold : ∀ r, r < w.heap.size → (w.heap.push ob)[r]? = w.heap[r]? := fun r hr => by rw [Array.getElem?_push, if_neg (by omega)]
 have hbs := (Array.getElem?_eq_some_iff.1 hb).1
 refine ⟨⟨fun c y q hy hq hql => ?_, fun c c' y y' q q' hy hy' hr' hq hq' hql hql' => ?_, fun c y hy => ?_, fun g hg => ?_⟩, fun c hc => ?_, h.size, h.le, h.unborn, ?_, fun r hr2 hx => ?_, fun c y hc hy hlt => ?_, h.os, h.tape, h.output, fun r hr => (wold r (Array.getElem?_eq_some_iff.1 (h.defs r hr)).1).trans (h.defs r hr)⟩
 ·rcases inv c y hy with ⟨rfl, rfl⟩ | ⟨h1, h2, h3⟩
  ·rw [hb] at hq; injection hq with hq; subst hq
   exact ⟨ob, by simp, hr⟩
  ·obtain ⟨o2, g1, g2⟩ := hs.blk c y q h3 hq hql
   exact ⟨o2, (wold _ h2).trans g1, g2.mono hext⟩
 ·rcases inv c y hy with ⟨rfl, rfl⟩ | ⟨h1, h2, h3⟩ <;> rcases inv c' y' hy' with ⟨rfl, rfl⟩ | ⟨h1', h2', h3'⟩
  ·rfl
  ·simp only at hr'; omega
  ·simp only at hr'; omega
  ·exact hs.inj c c' y y' q q' h3 h3' hr' hq hq' hql hql'
 ·rcases inv c y hy with ⟨rfl, rfl⟩ | ⟨h1, h2, h3⟩
  ·exact ⟨hbs, by simp⟩
  ·exact ⟨h1, by simp; omega⟩
 ·obtain ⟨e1, he⟩ := hs.glob g hg
  exact ⟨e1, hext _ _ he⟩
 ·simp only [upd]; rw [if_neg (by omega)]; exact h.old c hc
 ·have := h.wsize; simp; omega
 ·exact (wold r (Nat.lt_of_lt_of_le hr2 h.wsize)).trans (h.frame r hr2 hx)
 ·rcases inv c y hy with ⟨rfl, rfl⟩ | ⟨h1, h2, h3⟩
  ·have := h.wsize; simp at hlt; omega
  ·exact h.fresh c y hc h3 hlt
end
def maskOf (ms : List Nat) (o : Oper) : Nat :=
 o.after.toList.foldl (fun m e => if Region.binds .any e = true then m ||| (2 ^ e.on ||| ms.getD e.on 0) else m) 0
def masksGo : List Oper → List Nat → List Nat
 |[], ms => ms
 |o :: r, ms => masksGo r (ms ++ [maskOf ms o])
def masks (ops : Array Oper) : List Nat := masksGo ops.toList []
def ord (ms : List Nat) (x y : Nat) : Bool := (ms.getD y 0).testBit x
theorem maskOf_bit {ms : List Nat} {x : Nat} : ∀ {l : List Edge} {m : Nat}, (l.foldl (fun m e => if Region.binds .any e = true then m ||| (2 ^ e.on ||| ms.getD e.on 0) else m) m).testBit x = true →
  m.testBit x = true ∨ ∃ e ∈ l, Region.binds .any e = true ∧ (x = e.on ∨ (ms.getD e.on 0).testBit x = true)
 |[], m, h => .inl h
 |e :: l, m, h => by
  simp only [List.foldl_cons] at h
  rcases maskOf_bit h with h | ⟨e', h1, h2, h3⟩
  ·split at h
   ·rename_i hb
    simp only [Nat.testBit_or, Bool.or_eq_true, Nat.testBit_two_pow, decide_eq_true_eq] at h
    rcases h with h | h | h
    ·exact .inl h
    ·exact .inr ⟨e, by simp, hb, .inl h.symm⟩
    ·exact .inr ⟨e, by simp, hb, .inr h⟩
   ·exact .inl h
  ·exact .inr ⟨e', by simp [h1], h2, h3⟩
def MP (ops : List Oper) (ms : List Nat) : Prop :=
 ∀ i x, (ms.getD i 0).testBit x = true → ∃ o, ops[i]? = some o ∧ ∃ e ∈ o.after.toList, Region.binds .any e = true ∧ (x = e.on ∨ (e.on < i ∧ (ms.getD e.on 0).testBit x = true))
theorem masksGo_MP {ops : List Oper} : ∀ {r : List Oper} {ms : List Nat} {l : List Oper}, ops = l ++ r → ms.length = l.length → MP ops ms → MP ops (masksGo r ms)
 |[], _, _, _, _, h => h
 |o :: r, ms, l, ho, hl, h => by
  refine masksGo_MP (ms := ms ++ [maskOf ms o]) (l := l ++ [o]) (by simp [ho]) (by simp [hl]) fun i x hx => ?_
  have get : ∀ j, j < ms.length → (ms ++ [maskOf ms o]).getD j 0 = ms.getD j 0 := fun j hj => by
   simp only [List.getD_eq_getElem?_getD, List.getElem?_append_left hj]
  have lt : ∀ j, (ms.getD j 0).testBit x = true → j < ms.length := fun j hj => by
   rcases Nat.lt_or_ge j ms.length with h | h
   ·exact h
   ·simp [List.getD_eq_getElem?_getD, h] at hj
  rcases Nat.lt_trichotomy i ms.length with hi | hi | hi
  ·rw [get i hi] at hx
   obtain ⟨o', h1, e, h2, h3, h4⟩ := h i x hx
   refine ⟨o', h1, e, h2, h3, h4.imp id fun ⟨g1, g2⟩ => ⟨g1, ?_⟩⟩
   rw [get _ (by omega)]; exact g2
  ·subst hi
   simp only [List.getD_eq_getElem?_getD, List.getElem?_concat_length, Option.getD_some] at hx
   rcases maskOf_bit hx with hx | ⟨e, h2, h3, h4⟩
   ·simp at hx
   ·refine ⟨o, by rw [ho, hl]; simp, e, h2, h3, h4.imp id fun g => ⟨lt _ g, ?_⟩⟩
    rw [get _ (lt _ g)]; exact g
  ·simp [List.getD_eq_getElem?_getD, List.getElem?_eq_none (l := ms ++ [maskOf ms o]) (i := i) (by simp; omega)] at hx
theorem masks_MP (ops : Array Oper) : MP ops.toList (masks ops) := masksGo_MP (l := []) rfl rfl fun i x h => by simp at h
def Done (listed : Array Bool) (i : Nat) : Prop := listed.getD i false = true
def Shut (ops : Array Oper) (listed : Array Bool) : Prop := ∀ i o, ops[i]? = some o → Done listed i → ∀ e ∈ o.after, Region.binds .any e = true → Done listed e.on
theorem ord_done {ops : Array Oper} {ms : List Nat} {listed : Array Bool} (hm : MP ops.toList ms) (hs : Shut ops listed) : ∀ (y x : Nat) (o : Oper), ops[y]? = some o → (∀ e ∈ o.after, Region.binds .any e = true → Done listed e.on) → ord ms x y = true → Done listed x := by
 intro y
 induction y using Nat.strongRecOn with
 |_ y ih =>
  intro x o ho hd hx
  obtain ⟨o', h1, e, h2, h3, h4⟩ := hm y x hx
  rw [Array.getElem?_toList, ho] at h1
  injection h1 with h1
  subst h1
  have he := hd e (by simpa using h2) h3
  rcases h4 with rfl | ⟨g1, g2⟩
  ·exact he
  ·obtain ⟨o2, k1, k2⟩ := hm e.on x g2
   rw [Array.getElem?_toList] at k1
   exact ih e.on g1 x o2 k1 (fun e' he' hb' => hs e.on o2 k1 he e' he' hb') g2
end Go.Cn
