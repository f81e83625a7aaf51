/- An abstract run of a program, and that the model does the same: a part of the framework. Conditions: none. -/
import Derived.Test.YtiipnbnkikmlgaaGreatDoorCn14
import Derived.OrdersIn
set_option linter.all false
namespace Go.Cn
open Go Go.RowKit
structure PI where
 i : Nat
 an : Nat
 ri : List Nat
 o : O
def tmpOf : Operand → Option Nat
 |.tmp t => some t
 |_ => none
def usesOf (o : O) : List Nat := (match o.g with | some (t, _) => [t] | none => []) ++ o.op.opds.filterMap tmpOf
def keeps (x y : O) : Bool :=
 match y.dst with
 |some d => !(usesOf x).contains d && x.dst != some d
 |none => true
def apartB (x y : O) : Bool := keeps x y && keeps y x
def selfOk (x : O) : Bool :=
 match x.dst with
 |some d => !(usesOf x).contains d
 |none => false
def PI.before (x y : PI) : Bool := y.an.testBit x.i
def pairB (x y : PI) : Bool := (quiet x.o.op || x.before y) && (x.before y || apartB x.o y.o)
def rrB (q : PI) : Bool → List PI → Bool
 |_, [] => true
 |c, g :: r => (quiet g.o.op || !isRead q.o.op || q.before g || (g.ri.contains q.i && (c && keeps q.o g.o))) && rrB q (c && keeps q.o g.o) r
def planB : List PI → Bool
 |[] => true
 |x :: r => r.all (pairB x) && r.all (fun y => x.i != y.i) && rrB x (selfOk x.o) r && planB r
theorem rrB_mono {q : PI} : ∀ {l : List PI} {c c' : Bool}, (c = true → c' = true) → rrB q c l = true → rrB q c' l = true
 |[], _, _, _, _ => rfl
 |g :: r, c, c', h, hh => by
  simp only [rrB, Bool.and_eq_true, Bool.or_eq_true] at hh ⊢
  refine ⟨?_, rrB_mono (fun hc => ?_) hh.2⟩
  ·rcases hh.1 with h1 | ⟨h1, h2, h3⟩
   ·exact .inl h1
   ·exact .inr ⟨h1, h h2, h3⟩
  ·simp only [Bool.and_eq_true] at hc ⊢
   exact ⟨h hc.1, hc.2⟩
theorem rrB_erase {q x : PI} {l2 : List PI} : ∀ {l1 : List PI} {c : Bool}, rrB q c (l1 ++ x :: l2) = true → rrB q c (l1 ++ l2) = true
 |[], c, h => by
  simp only [List.nil_append, rrB, Bool.and_eq_true] at h ⊢
  exact rrB_mono (fun hc => (by simp only [Bool.and_eq_true] at hc; exact hc.1)) h.2
 |g :: l1, c, h => by
  simp only [List.cons_append, rrB, Bool.and_eq_true] at h ⊢
  exact ⟨h.1, rrB_erase h.2⟩
theorem rrB_use {q g : PI} {l3 : List PI} : ∀ {l2 : List PI} {c : Bool}, rrB q c (l2 ++ g :: l3) = true → isRead q.o.op = true → quiet g.o.op = false → q.before g = false →
  q.i ∈ g.ri ∧ c = true ∧ (∀ x ∈ l2, keeps q.o x.o = true) ∧ keeps q.o g.o = true
 |[], c, h, h1, h2, h3 => by
  simp only [List.nil_append, rrB, Bool.and_eq_true, h1, h2, h3, Bool.or_eq_true, Bool.not_true, Bool.false_eq_true, false_or, List.contains_iff_mem] at h
  exact ⟨h.1.1, h.1.2.1, by simp, h.1.2.2⟩
 |x :: l2, c, h, h1, h2, h3 => by
  simp only [List.cons_append, rrB, Bool.and_eq_true] at h
  obtain ⟨g1, g2, g3, g4⟩ := rrB_use h.2 h1 h2 h3
  simp only [Bool.and_eq_true] at g2
  refine ⟨g1, g2.1, fun y hy => ?_, g4⟩
  rcases List.mem_cons.1 hy with rfl | hy
  ·exact g2.2
  ·exact g3 y hy
theorem planB_erase {x : PI} {l2 : List PI} : ∀ {l1 : List PI}, planB (l1 ++ x :: l2) = true → planB (l1 ++ l2) = true
 |[], h => by simp only [List.nil_append, planB, Bool.and_eq_true] at h ⊢; exact h.2
 |g :: l1, h => by
  simp only [List.cons_append, planB, Bool.and_eq_true, List.all_append, List.all_cons] at h ⊢
  exact ⟨⟨⟨⟨h.1.1.1.1, h.1.1.1.2.2⟩, h.1.1.2.1, h.1.1.2.2.2⟩, rrB_erase h.1.2⟩, planB_erase h.2⟩
theorem planB_pair {x y : PI} {l2 : List PI} : ∀ {l1 : List PI}, planB (l1 ++ x :: l2) = true → y ∈ l2 → pairB x y = true ∧ x.i ≠ y.i
 |[], h, hy => by
  simp only [List.nil_append, planB, Bool.and_eq_true, List.all_eq_true] at h
  exact ⟨h.1.1.1 y hy, by simpa using h.1.1.2 y hy⟩
 |g :: l1, h, hy => by
  simp only [List.cons_append, planB, Bool.and_eq_true] at h
  exact planB_pair h.2 hy
theorem planB_rr {x : PI} {l2 : List PI} : ∀ {l1 : List PI}, planB (l1 ++ x :: l2) = true → rrB x (selfOk x.o) l2 = true
 |[], h => by simp only [List.nil_append, planB, Bool.and_eq_true] at h; exact h.1.2
 |g :: l1, h => by simp only [List.cons_append, planB, Bool.and_eq_true] at h; exact planB_rr h.2
structure Pn where
 p : PI
 v : Value
 b : Option Nat
def QV (q : Pn) (e : Env) (σ : H) (φ : Emb) (n0 : Nat) : Prop :=
  (wantedE q.p.o.g e = some false ∧ q.v = undef ∧ q.b = none) ∨
  (wantedE q.p.o.g e = some true ∧
    ((q.p.o.op.den (ev e) = .pure (some q.v) ∧ q.b = none) ∨
     (∃ f, q.p.o.op.den (ev e) = .read f ∧ f σ = some q.v ∧ q.b = none) ∨
     (∃ k mk b, q.p.o.op.den (ev e) = .alloc (some (k, mk)) ∧ q.v = mk b ∧ σ[b]? = some k ∧ φ b = none ∧ n0 ≤ b ∧ q.b = some b)))
def chain : List Pn → Env → H → Emb → Nat → Prop
 |[], _, _, _, _ => True
 |q :: r, e, σ, φ, n0 => QV q e σ φ n0 ∧ chain r (putE e q.p.o.dst q.v) σ φ n0
def replay : List Pn → Env → Env
 |[], e => e
 |q :: r, e => replay r (putE e q.p.o.dst q.v)
theorem wantedE_congr {g : Option (Nat × Bool)} {e e' : Env} (h : ∀ t c, g = some (t, c) → lk e t = lk e' t) : wantedE g e = wantedE g e' := by
 cases g with
 |none => rfl
 |some p => obtain ⟨t, c⟩ := p; simp only [wantedE, h t c rfl]
theorem uses_g {o : O} {t : Nat} {c : Bool} (h : o.g = some (t, c)) : t ∈ usesOf o := by simp [usesOf, h]
theorem uses_op {o : O} {t : Nat} (h : .tmp t ∈ o.op.opds) : t ∈ usesOf o := List.mem_append_right _ (List.mem_filterMap.2 ⟨.tmp t, h, rfl⟩)
theorem ev_congr {e e' : Env} {l : List Operand} (h : ∀ t, .tmp t ∈ l → lk e t = lk e' t) : ∀ y ∈ l, ev e y = ev e' y := by
 intro y hy
 cases y with
 |tmp t => exact h t hy
 |const _ => rfl
 |global _ => rfl
 |func _ => rfl
theorem O.wanted_congr {o : O} {e e' : Env} (h : ∀ t ∈ usesOf o, lk e t = lk e' t) : wantedE o.g e = wantedE o.g e' := wantedE_congr fun t _ ht => h t (uses_g ht)
theorem O.den_congr {o : O} {e e' : Env} (h : ∀ t ∈ usesOf o, lk e t = lk e' t) : o.op.den (ev e) = o.op.den (ev e') := Cn.den_congr (ev_congr fun t ht => h t (uses_op ht))
theorem QV.congr {q : Pn} {e e' : Env} {σ : H} {φ : Emb} {n0 : Nat} (h : QV q e σ φ n0) (ha : ∀ t ∈ usesOf q.p.o, lk e t = lk e' t) : QV q e' σ φ n0 := by
 unfold QV at h ⊢
 rw [← O.wanted_congr ha, ← O.den_congr ha]
 exact h
theorem QV.emb {q : Pn} {e : Env} {σ : H} {φ φ' : Emb} {n0 : Nat} (h : QV q e σ φ n0) (hf : ∀ c, q.b = some c → φ' c = φ c) : QV q e σ φ' n0 := by
 rcases h with h | ⟨hw, h | h | ⟨k, mk, b, h1, h2, h3, h4, h5, h6⟩⟩
 ·exact .inl h
 ·exact .inr ⟨hw, .inl h⟩
 ·exact .inr ⟨hw, .inr (.inl h)⟩
 ·exact .inr ⟨hw, .inr (.inr ⟨k, mk, b, h1, h2, h3, (hf b h6).trans h4, h5, h6⟩)⟩
theorem QV.push {q : Pn} {e : Env} {σ : H} {k : Blk} {φ : Emb} {n0 : Nat} (h : QV q e σ φ n0) : QV q e (σ.push k) φ n0 := by
 rcases h with h | ⟨hw, h | ⟨f, h1, h2, h3⟩ | ⟨k, mk, b, h1, h2, h3, h4, h5, h6⟩⟩
 ·exact .inl h
 ·exact .inr ⟨hw, .inl h⟩
 ·exact .inr ⟨hw, .inr (.inl ⟨f, h1, read_push h1 h2, h3⟩)⟩
 ·exact .inr ⟨hw, .inr (.inr ⟨k, mk, b, h1, h2, push_old h3, h4, h5, h6⟩)⟩
theorem chain_append {n0 : Nat} {σ : H} {φ : Emb} {ys : List Pn} : ∀ {xs : List Pn} {e : Env}, chain (xs ++ ys) e σ φ n0 ↔ chain xs e σ φ n0 ∧ chain ys (replay xs e) σ φ n0
 |[], e => by simp [chain, replay]
 |x :: xs, e => by simp only [List.cons_append, chain, replay, chain_append, and_assoc]
theorem replay_append {ys : List Pn} : ∀ {xs : List Pn} {e : Env}, replay (xs ++ ys) e = replay ys (replay xs e)
 |[], _ => rfl
 |_ :: xs, _ => by simp only [List.cons_append, replay, replay_append]
theorem chain_imp {n0 : Nat} {σ σ' : H} {φ φ' : Emb} : ∀ {l : List Pn} {e e' : Env}, (∀ xs q ys, l = xs ++ q :: ys → QV q (replay xs e) σ φ n0 → QV q (replay xs e') σ' φ' n0) → chain l e σ φ n0 → chain l e' σ' φ' n0
 |[], _, _, _, _ => trivial
 |x :: l, e, e', h, hc => ⟨h [] x l rfl hc.1, chain_imp (fun xs q ys hl hq => h (x :: xs) q ys (by rw [hl]; rfl) hq) hc.2⟩
theorem lk_put_congr {e e' : Env} {d : Option Nat} {v : Value} {t : Nat} (h : lk e t = lk e' t) : lk (putE e d v) t = lk (putE e' d v) t := by
 rw [lk_put, lk_put, h]
theorem replay_congr {t : Nat} : ∀ {l : List Pn} {e e' : Env}, lk e t = lk e' t → lk (replay l e) t = lk (replay l e') t
 |[], _, _, h => h
 |q :: l, e, e', h => by
  simp only [replay]
  exact replay_congr (l := l) (lk_put_congr h)
theorem replay_out {t : Nat} : ∀ {l : List Pn} {e : Env}, (∀ q ∈ l, q.p.o.dst ≠ some t) → lk (replay l e) t = lk e t
 |[], _, _ => rfl
 |q :: l, e, h => by
  simp only [replay]
  rw [replay_out (fun q hq => h q (by simp [hq])), lk_put, if_neg (h q (by simp))]
theorem keeps_uses {x y : O} (h : keeps x y = true) {t : Nat} (ht : t ∈ usesOf x) : y.dst ≠ some t := by
 intro hd
 unfold keeps at h
 rw [hd] at h
 simp only [Bool.and_eq_true, Bool.not_eq_true', List.contains_eq_mem, decide_eq_false_iff_not] at h
 exact h.1 ht
theorem keeps_dst {x y : O} (h : keeps x y = true) {t : Nat} (ht : x.dst = some t) : y.dst ≠ some t := by
 intro hd
 unfold keeps at h
 rw [hd, ht] at h
 simp at h
theorem selfOk_spec {x : O} (h : selfOk x = true) : ∃ d, x.dst = some d ∧ d ∉ usesOf x := by
 unfold selfOk at h
 split at h
 ·rename_i d hd; exact ⟨d, hd, by simpa using h⟩
 ·cases h
section
variable {P : Program} {ops : Array Oper} {N : Nat} {D : List Deferred} {Q : Exit → Act → World → Prop} {ro : Option Nat} {φ0 : Emb} {σ0 : H} {w0 : World} {K : Env → H → Prop}
def Fits (P : Program) (ops : Array Oper) (N : Nat) (p : PI) : Prop := ∃ o, ops[p.i]? = some o ∧ p.o = mkO P ops p.ri o ∧ okO N ops o = true
theorem pend_exec {q : Pn} {o : Oper} {e : Env} {φ : Emb} {σ : H} {w : World} {a : Act} {Kr : Act → World → Prop} {n0 : Nat} (hst : Step P φ0 σ0 w0 φ σ w) (hn0 : n0 = σ0.size) (he : ER φ N D e a)
  (hi : ops[q.p.i]? = some o) (ho : q.p.o = mkO P ops q.p.ri o) (hok : okO N ops o = true) (hq : QV q e σ φ n0)
  (hk : ∀ φ' v' w', Step P φ0 σ0 w0 φ' σ w' → (∀ b x, φ b = some x → φ' b = some x) → (∀ c, q.b ≠ some c → φ' c = φ c) → VR φ' q.v v' → Kr (a.put o.dst v') w') : wpOpIn (fc ro) 0 P ops Q q.p.i Kr a w := by
 unfold wpOpIn
 simp only [hi]
 have hg : q.p.o.g = mkG ops o := by rw [ho]; rfl
 have hop : q.p.o.op = trOp P o.op := by rw [ho]; rfl
 have hs := hst.sim
 unfold QV at hq
 rw [hg, hop] at hq
 rcases hq with ⟨h1, h2, h3⟩ | ⟨h1, hq⟩
 ·rw [wanted_sound (okO_g hok) h1 fun t v _ hv => he.2 t v hv]
  simp only [Bool.false_eq_true, if_false]
  refine ⟨fun _ _ => trivial, hk φ _ w hst (fun _ _ h => h) (fun _ _ => rfl) ?_⟩
  rw [h2]; exact .undef
 ·rw [wanted_sound (okO_g hok) h1 fun t v _ hv => he.2 t v hv]
  simp only [if_true]
  have hρ : OR P φ (ev e) a.eval := he.or hs
  rcases hq with ⟨h2, h3⟩ | ⟨f, h2, h3, h4⟩ | ⟨k, mk, b, h2, h3, h4, h5, h6, h7⟩
  ·obtain ⟨v', g1, g2⟩ := pure_sound (w := w) hρ h2
   exact wpIn_val (semAt_den (ρ := ev e) (by rw [h2]; simp)) g1 (.inl rfl) (hk φ v' w hst (fun _ _ h => h) (fun _ _ => rfl) g2)
  ·obtain ⟨v', g1, g2⟩ := read_sound hs hρ h2 h3
   exact wpIn_val (semAt_den (ρ := ev e) (by rw [h2]; simp)) g1 (.inl rfl) (hk φ v' w hst (fun _ _ h => h) (fun _ _ => rfl) g2)
  ·obtain ⟨ob, d, e1, v', g1, g2⟩ := alloc_sound (w := w) hρ h2
   have hext : ∀ c y, φ c = some y → upd φ b ⟨w.heap.size, 0, e1⟩ c = some y := by
    intro c y hc
    simp only [upd]
    split
    ·rename_i hcb; subst hcb; rw [h5] at hc; cases hc
    ·exact hc
   obtain ⟨r1, r2⟩ := g2 (upd φ b ⟨w.heap.size, 0, e1⟩) b hext (upd_same _ _ _)
   refine wpIn_val (semAt_den (ρ := ev e) (by rw [h2]; simp)) g1 (.inl rfl) (hk _ v' _ (Step.born hst (hn0 ▸ h6) h4 h5 r1) hext (fun c hc => ?_) (h3 ▸ r2))
   simp only [upd]
   rw [if_neg]
   rintro rfl
   exact hc h7
structure Inv (P : Program) (ops : Array Oper) (N : Nat) (D : List Deferred) (ms : List Nat) (φ0 : Emb) (σ0 : H) (w0 : World) (K : Env → H → Prop) (Pd : List Pn) (L : List PI) (listed : Array Bool) (eS eF : Env) (φ : Emb) (σ : H) (a : Act) (w : World) : Prop where
 ch : chain Pd eS σ φ σ0.size
 eq : ∀ t, lk (replay Pd eS) t = lk eF t
 bs : Pd.Pairwise fun x y => x.b ≠ none → x.b ≠ y.b
 blt : ∀ q ∈ Pd, ∀ b, q.b = some b → b < σ.size
 s0 : Sim P φ0 σ0 w0
 st : Step P φ0 σ0 w0 φ σ w
 er : ER φ N D eS a
 go : evL P (L.map (·.o)) eF σ K
 fits : ∀ p ∈ Pd.map (·.p) ++ L, Fits P ops N p
 an : ∀ p ∈ Pd.map (·.p) ++ L, p.an = ms.getD p.i 0
 plan : planB (Pd.map (·.p) ++ L) = true
 un : ∀ i, i < ops.size → (listed.getD i false = false ↔ ∃ p ∈ Pd.map (·.p) ++ L, p.i = i)
 shut : Shut ops listed
 size : listed.size = ops.size
variable {ms : List Nat} {Pd : List Pn} {L : List PI} {listed : Array Bool} {eS eF : Env} {φ : Emb} {σ : H} {a : Act} {w : World}
theorem QV.some {q : Pn} {e : Env} {n0 : Nat} (h : QV q e σ φ n0) : ∀ b, q.b = some b → φ b = none ∧ b < σ.size := by
 intro b hb
 rcases h with h | ⟨_, h | ⟨f, h1, h2, h3⟩ | ⟨k, mk, b', h1, h2, h3, h4, h5, h6⟩⟩
 ·rw [h.2.2] at hb; cases hb
 ·rw [h.2] at hb; cases hb
 ·rw [h3] at hb; cases hb
 ·rw [h6] at hb; injection hb with hb; subst hb; exact ⟨h4, (Array.getElem?_eq_some_iff.1 h3).1⟩
theorem advance : ∀ {L : List PI} {Pd : List Pn} {eF : Env} {σ : H}, Inv P ops N D ms φ0 σ0 w0 K Pd L listed eS eF φ σ a w →
    ∃ Pd' L' eF' σ', Inv P ops N D ms φ0 σ0 w0 K Pd' L' listed eS eF' φ σ' a w ∧ Pd'.length + L'.length = Pd.length + L.length ∧ ∀ g r, L' = g :: r → quiet g.o.op = false
  | [], Pd, eF, σ, h => ⟨Pd, [], eF, σ, h, rfl, fun _ _ h => by cases h⟩
  | g :: L, Pd, eF, σ, h => by
    cases hq : quiet g.o.op with
    | false => exact ⟨Pd, g :: L, eF, σ, h, rfl, fun g' r he => by injection he with h1 h2; subst h1; exact hq⟩
    | true =>
      have hgo : stepO P g.o eF σ fun e σ => evL P (L.map (·.o)) e σ K := h.go
      have hpl : ∀ v b, (Pd ++ [(⟨g, v, b⟩ : Pn)]).map (·.p) ++ L = Pd.map (·.p) ++ g :: L := by intro v b; simp
      have heq : ∀ t, lk eF t = lk (replay Pd eS) t := fun t => (h.eq t).symm
      have heqp : ∀ v b t, lk (replay (Pd ++ [⟨g, v, b⟩]) eS) t = lk (putE eF g.o.dst v) t := by
        intro v b t
        rw [replay_append]
        exact lk_put_congr (h.eq t)
      have hbs : ∀ v b, (∀ c, b = some c → ∀ q ∈ Pd, q.b ≠ some c) → (Pd ++ [(⟨g, v, b⟩ : Pn)]).Pairwise fun x y => x.b ≠ none → x.b ≠ y.b := by
        intro v b hb
        rw [List.pairwise_append]
        refine ⟨h.bs, by simp, fun x hx y hy hn he => ?_⟩
        simp only [List.mem_singleton] at hy
        subst hy
        obtain ⟨c, hc⟩ := Option.ne_none_iff_exists'.1 hn
        exact hb c (he.symm.trans hc) x hx hc
      have hsame : ∀ v, QV ⟨g, v, none⟩ eF σ φ σ0.size → evL P (L.map (·.o)) (putE eF g.o.dst v) σ K → ∃ Pd' L' eF' σ', Inv P ops N D ms φ0 σ0 w0 K Pd' L' listed eS eF' φ σ' a w ∧ Pd'.length + L'.length = Pd.length + (g :: L).length ∧ ∀ g r, L' = g :: r → quiet g.o.op = false := by
        intro v hv hgo2
        have hlt : ∀ q ∈ Pd ++ [(⟨g, v, none⟩ : Pn)], ∀ b, q.b = some b → b < σ.size := fun q hq b hb => by
          rcases List.mem_append.1 hq with hq | hq
          · exact h.blt q hq b hb
          · simp only [List.mem_singleton] at hq; subst hq; cases hb
        have hinv : Inv P ops N D ms φ0 σ0 w0 K (Pd ++ [⟨g, v, none⟩]) L listed eS (putE eF g.o.dst v) φ σ a w :=
          { ch := chain_append.2 ⟨h.ch, hv.congr fun t _ => heq t, trivial⟩, eq := heqp v none, bs := hbs v none (fun c hc => by cases hc), blt := hlt,
            s0 := h.s0, st := h.st, er := h.er, go := hgo2, fits := hpl v none ▸ h.fits, an := hpl v none ▸ h.an, plan := hpl v none ▸ h.plan, un := hpl v none ▸ h.un, shut := h.shut, size := h.size }
        obtain ⟨Pd', L', eF', σ', g1, g2, g3⟩ := advance hinv
        exact ⟨Pd', L', eF', σ', g1, by simp only [List.length_append, List.length_cons, List.length_nil] at g2 ⊢; omega, g3⟩
      unfold stepO at hgo
      split at hgo
      · exact hgo.elim
      · rename_i hw
        exact hsame undef (.inl ⟨hw, rfl, rfl⟩) hgo
      · rename_i hw
        rcases quiet_den (ρ := ev eF) hq with ⟨x, hd⟩ | ⟨f, hd⟩ | ⟨x, hd⟩
        · rw [hd] at hgo
          cases x with
          | none => exact hgo.elim
          | some v => exact hsame v (.inr ⟨hw, .inl ⟨hd, rfl⟩⟩) (rereads_iff.1 hgo).2
        · rw [hd] at hgo
          simp only [denK] at hgo
          split at hgo
          · rename_i v hf
            exact hsame v (.inr ⟨hw, .inr (.inl ⟨f, hd, hf, rfl⟩)⟩) (rereads_iff.1 hgo).2
          · exact hgo.elim
        · rw [hd] at hgo
          cases x with
          | none => exact hgo.elim
          | some x =>
            obtain ⟨k, mk⟩ := x
            have hgo := (rereads_iff.1 hgo).2
            have hs := h.st.sim
            have hn : φ σ.size = none := by
              cases hc : φ σ.size with
              | none => rfl
              | some x => exact absurd (hs.lt _ _ hc).1 (Nat.lt_irrefl _)
            have hv : QV ⟨g, mk σ.size, some σ.size⟩ eF (σ.push k) φ σ0.size := .inr ⟨hw, .inr (.inr ⟨k, mk, σ.size, hd, rfl, by simp, hn, h.st.size, rfl⟩)⟩
            have hlt : ∀ q ∈ Pd ++ [(⟨g, mk σ.size, some σ.size⟩ : Pn)], ∀ b, q.b = some b → b < (σ.push k).size := fun q hq b hb => by
              rcases List.mem_append.1 hq with hq | hq
              · have := h.blt q hq b hb; simp; omega
              · simp only [List.mem_singleton] at hq; subst hq; injection hb with hb; subst hb; simp
            have hinv : Inv P ops N D ms φ0 σ0 w0 K (Pd ++ [⟨g, mk σ.size, some σ.size⟩]) L listed eS (putE eF g.o.dst (mk σ.size)) φ (σ.push k) a w :=
              { ch := chain_append.2 ⟨chain_imp (fun xs q ys _ hq => hq.push) h.ch, hv.congr fun t _ => heq t, trivial⟩, eq := heqp _ _,
                bs := hbs _ _ (fun c hc q hq hb => by injection hc with hc; subst hc; exact absurd (h.blt q hq _ hb) (Nat.lt_irrefl _)), blt := hlt,
                s0 := h.s0, st := Step.trans h.s0 h.st (Step.push hs), er := h.er, go := hgo, fits := hpl _ _ ▸ h.fits, an := hpl _ _ ▸ h.an, plan := hpl _ _ ▸ h.plan, un := hpl _ _ ▸ h.un, shut := h.shut, size := h.size }
            obtain ⟨Pd', L', eF', σ', g1, g2, g3⟩ := advance hinv
            exact ⟨Pd', L', eF', σ', g1, by simp only [List.length_append, List.length_cons, List.length_nil] at g2 ⊢; omega, g3⟩
end
section
variable {P : Program} {ops : Array Oper} {N : Nat} {D : List Deferred} {Q : Exit → Act → World → Prop} {ro : Option Nat} {φ0 : Emb} {σ0 : H} {w0 : World} {K : Env → H → Prop}
variable {ms : List Nat} {Pd : List Pn} {L : List PI} {listed : Array Bool} {eS eF : Env} {φ : Emb} {σ : H} {a : Act} {w : World}
theorem planB_pair' {x y : PI} {l1 l2 : List PI} (h : planB (l1 ++ y :: l2) = true) (hx : x ∈ l1) : pairB x y = true ∧ x.i ≠ y.i := by
 obtain ⟨l0, l1, rfl⟩ := List.append_of_mem hx
 rw [List.append_assoc, List.cons_append] at h
 exact planB_pair h (by simp)
theorem un_erase {x : PI} {l1 l2 : List PI} (hs : listed.size = ops.size) (hx : x.i < ops.size) (hp : planB (l1 ++ x :: l2) = true)
  (h : ∀ i, i < ops.size → (listed.getD i false = false ↔ ∃ p ∈ l1 ++ x :: l2, p.i = i)) : ∀ i, i < ops.size → ((listed.setIfInBounds x.i true).getD i false = false ↔ ∃ p ∈ l1 ++ l2, p.i = i) := by
 intro i hi
 by_cases hix : i = x.i
 ·subst hix
  have : (listed.setIfInBounds x.i true).getD x.i false = true := by simp [Array.getD_eq_getD_getElem?, hs, hx]
  rw [this]
  constructor
  ·intro h; cases h
  ·rintro ⟨p, hp1, hp2⟩
   exfalso
   rcases List.mem_append.1 hp1 with hp1 | hp1
   ·exact (planB_pair' hp hp1).2 hp2
   ·exact (planB_pair hp hp1).2 hp2.symm
 ·rw [getD_set_ne false (Ne.symm hix), h i hi]
  constructor
  ·rintro ⟨p, hp1, hp2⟩
   refine ⟨p, ?_, hp2⟩
   simp only [List.mem_append, List.mem_cons] at hp1 ⊢
   rcases hp1 with hp1 | rfl | hp1
   ·exact .inl hp1
   ·exact absurd hp2.symm hix
   ·exact .inr hp1
  ·rintro ⟨p, hp1, hp2⟩
   refine ⟨p, ?_, hp2⟩
   simp only [List.mem_append, List.mem_cons] at hp1 ⊢
   exact hp1.imp id .inr
theorem shut_set {i : Nat} {o : Oper} (hs : Shut ops listed) (ho : ops[i]? = some o) (hd : ∀ e ∈ o.after, Region.binds .any e = true → Done listed e.on) : Shut ops (listed.setIfInBounds i true) := by
 intro j o' ho' hj e he hb
 have : Done listed e.on := by
  by_cases hij : i = j
  ·subst hij
   rw [ho] at ho'
   injection ho' with ho'
   subst ho'
   exact hd e he hb
  ·unfold Done at hj
   rw [getD_set_ne false hij] at hj
   exact hs j o' ho' hj e he hb
 exact getD_set_true this
theorem some_ready (hE : ∀ (i : Nat) (o : Oper), ops[i]? = some o → ∀ e ∈ o.after, Region.binds .any e = true → e.on < i) :
  ∀ i, i < ops.size → listed.getD i false = false → listed.size = ops.size → Region.ready .any ops listed ≠ [] := by
 intro i
 induction i using Nat.strongRecOn with
 |_ i ih =>
  intro hi hl hs hr
  by_cases hall : ∀ e ∈ (ops[i]).after, Region.binds .any e = true → listed.getD e.on false = true
  ·have : i ∈ Region.ready .any ops listed := mem_ready.2 ⟨by
    rw [Array.getD_eq_getD_getElem?] at hl ⊢
    have : i < listed.size := hs ▸ hi
    simpa [this] using hl, ops[i], by simp [hi], hall⟩
   rw [hr] at this
   cases this
  ·have ⟨e, he, hb, hn⟩ : ∃ e, e ∈ (ops[i]).after ∧ Region.binds .any e = true ∧ listed.getD e.on false = false := by
    apply Classical.byContradiction
    intro hc
    refine hall fun e he hb => ?_
    cases hx : listed.getD e.on false with
    |true => rfl
    |false => exact absurd ⟨e, he, hb, hx⟩ hc
   have hlt := hE i ops[i] (by simp [hi]) e he hb
   exact ih e.on hlt (Nat.lt_trans hlt hi) hn hs hr
theorem Inv.notBefore (h : Inv P ops N D ms φ0 σ0 w0 K Pd L listed eS eF φ σ a w) (hm : MP ops.toList ms) {o : Oper} {y : PI} (hy : y ∈ Pd.map (·.p) ++ L) (ho : ops[y.i]? = some o)
  (hd : ∀ e ∈ o.after, Region.binds .any e = true → Done listed e.on) {x : PI} (hx : x ∈ Pd.map (·.p) ++ L) : x.before y = false := by
 cases hb : x.before y with
 |false => rfl
 |true =>
  unfold PI.before at hb
  rw [h.an y hy] at hb
  have hdone := ord_done hm h.shut y.i x.i o ho hd hb
  obtain ⟨ox, hox, _⟩ := h.fits x hx
  have hlt := (Array.getElem?_eq_some_iff.1 hox).1
  have := (h.un x.i hlt).2 ⟨x, hx, rfl⟩
  unfold Done at hdone
  rw [hdone] at this
  cases this
theorem apart_of {x y : PI} (h : pairB x y = true) (hb : x.before y = false) : keeps x.o y.o = true ∧ keeps y.o x.o = true := by
 unfold pairB at h
 rw [hb] at h
 simp only [Bool.or_false, Bool.false_or, Bool.and_eq_true, apartB] at h
 exact h.2
theorem Inv.pend {xs ys : List Pn} {q : Pn} (h : Inv P ops N D ms φ0 σ0 w0 K (xs ++ q :: ys) L listed eS eF φ σ a w) {o : Oper} (ho : ops[q.p.i]? = some o) (hoq : q.p.o = mkO P ops q.p.ri o) (hok : okO N ops o = true)
  (hd : ∀ e ∈ o.after, Region.binds .any e = true → Done listed e.on) (hap : ∀ x ∈ xs, keeps x.p.o q.p.o = true ∧ keeps q.p.o x.p.o = true) {φ' : Emb} {v' : Value} {w' : World}
  (hst : Step P φ0 σ0 w0 φ' σ w') (hm : ∀ b x, φ b = some x → φ' b = some x) (hf : ∀ c, q.b ≠ some c → φ' c = φ c) (hv : VR φ' q.v v') :
  Inv P ops N D ms φ0 σ0 w0 K (xs ++ ys) L (listed.setIfInBounds q.p.i true) (putE eS q.p.o.dst q.v) eF φ' σ (a.put o.dst v') w' := by
 have hl : (xs ++ q :: ys).map (·.p) ++ L = xs.map (·.p) ++ q.p :: (ys.map (·.p) ++ L) := by simp
 have hl' : (xs ++ ys).map (·.p) ++ L = xs.map (·.p) ++ (ys.map (·.p) ++ L) := by simp
 have hch := h.ch
 rw [chain_append] at hch
 obtain ⟨c1, c2, c3⟩ := hch
 have hbs := h.bs
 rw [List.pairwise_append, List.pairwise_cons] at hbs
 obtain ⟨b1, ⟨b2, b3⟩, b4⟩ := hbs
 have hdst : o.dst = q.p.o.dst := by rw [hoq]; rfl
 have hsub : ∀ z, z ∈ xs ++ ys → z ∈ xs ++ q :: ys := fun z hz => by
  simp only [List.mem_append, List.mem_cons] at hz ⊢
  exact hz.imp id .inr
 have hsubp : ∀ z, z ∈ (xs ++ ys).map (·.p) ++ L → z ∈ (xs ++ q :: ys).map (·.p) ++ L := fun z hz => by
  rw [hl'] at hz
  rw [hl]
  simp only [List.mem_append, List.mem_cons] at hz ⊢
  exact hz.imp id .inr
 have pos : ∀ (zs : List Pn) (t : Nat), (∀ z ∈ zs, z ∈ xs) → lk (replay zs (putE eS q.p.o.dst q.v)) t = lk (putE (replay zs eS) q.p.o.dst q.v) t := by
  intro zs t hz
  by_cases ht : q.p.o.dst = some t
  ·rw [replay_out (fun z hz' hzt => keeps_dst (hap z (hz z hz')).2 ht hzt), lk_put, if_pos ht, lk_put, if_pos ht]
  ·rw [lk_put, if_neg ht]
   exact replay_congr (by rw [lk_put, if_neg ht])
 have pos' : ∀ t, lk (replay xs (putE eS q.p.o.dst q.v)) t = lk (putE (replay xs eS) q.p.o.dst q.v) t := fun t => pos xs t fun _ h => h
 have hfb : ∀ z ∈ xs ++ ys, ∀ c, z.b = some c → φ' c = φ c := fun z hz c hc => hf c fun hq => by
  rcases List.mem_append.1 hz with hz | hz
  ·exact b4 z hz q (by simp) (by rw [hc]; simp) (hc.trans hq.symm)
  ·exact b2 z hz (by rw [hq]; simp) (hq.trans hc.symm)
 refine { ch := ?_, eq := fun t => ?_, bs := ?_, blt := fun z hz => h.blt z (hsub z hz), s0 := h.s0, st := hst, er := ?_, go := h.go, fits := fun z hz => h.fits z (hsubp z hz), an := fun z hz => h.an z (hsubp z hz), plan := ?_, un := ?_, shut := shut_set h.shut ho hd, size := by simp [h.size] }
 ·rw [chain_append]
  constructor
  ·refine chain_imp (fun zs z rs hz hq => ?_) c1
   have hzx : z ∈ xs := by rw [hz]; simp
   refine (hq.emb (hfb z (List.mem_append_left _ hzx))).congr fun t ht => ?_
   rw [pos zs t (fun y hy => by rw [hz]; simp [hy]), lk_put, if_neg (keeps_uses (hap z hzx).1 ht)]
  ·refine chain_imp (fun zs z rs hz hq => ?_) c3
   have hzy : z ∈ ys := by rw [hz]; simp
   refine (hq.emb (hfb z (List.mem_append_right _ hzy))).congr fun t ht => ?_
   exact replay_congr (pos' t).symm
 ·rw [← h.eq t, replay_append, replay_append]
  exact replay_congr (pos' t)
 ·rw [List.pairwise_append]
  exact ⟨b1, b3, fun x hx y hy => b4 x hx y (by simp [hy])⟩
 ·rw [← hdst]
  exact (h.er.mono hm).put (okO_dst hok) hv
 ·have := h.plan
  rw [hl] at this
  rw [hl']
  exact planB_erase this
 ·rw [hl']
  refine un_erase h.size (Array.getElem?_eq_some_iff.1 ho).1 (hl ▸ h.plan) ?_
  rw [← hl]
  exact h.un
end
section
variable {P : Program} {ops : Array Oper} {N : Nat} {D : List Deferred} {Q : Exit → Act → World → Prop} {ro : Option Nat} {φ0 : Emb} {σ0 : H} {w0 : World} {K : Env → H → Prop}
variable {ms : List Nat} {Pd : List Pn} {L : List PI} {listed : Array Bool} {eS eF : Env} {φ : Emb} {σ : H} {a : Act} {w : World}
theorem Inv.after {g : PI} (h : Inv P ops N D ms φ0 σ0 w0 K Pd (g :: L) listed eS eF φ σ a w) (hq : quiet g.o.op = false) {o : Oper} (ho : ops[g.i]? = some o) (hoq : g.o = mkO P ops g.ri o) (hok : okO N ops o = true)
    (hd : ∀ e ∈ o.after, Region.binds .any e = true → Done listed e.on) (hnb : ∀ x ∈ Pd, x.p.before g = false) (hap : ∀ x ∈ Pd, keeps x.p.o g.o = true ∧ keeps g.o x.p.o = true)
    {φ' : Emb} {σ' : H} {w' : World} {v v' : Value} (hst : Step P φ σ w φ' σ' w') (hv : VR φ' v v') (hgo : evL P (L.map (·.o)) (putE eF g.o.dst v) σ' K)
    (hre : (σ' = σ ∧ φ' = φ) ∨ ∀ q ∈ g.o.re, reread q (putE eF g.o.dst v) σ') :
    Inv P ops N D ms φ0 σ0 w0 K Pd L (listed.setIfInBounds g.i true) (putE eS g.o.dst v) (putE eF g.o.dst v) φ' σ' (a.put o.dst v') w' := by
  have hdst : o.dst = g.o.dst := by rw [hoq]; rfl
  have hsubp : ∀ z, z ∈ Pd.map (·.p) ++ L → z ∈ Pd.map (·.p) ++ g :: L := fun z hz => by
    simp only [List.mem_append, List.mem_cons] at hz ⊢
    exact hz.imp id .inr
  refine { ch := ?_, eq := fun t => ?_, bs := h.bs, blt := fun z hz b hb => Nat.lt_of_lt_of_le (h.blt z hz b hb) hst.size, s0 := h.s0, st := Step.trans h.s0 h.st hst, er := ?_, go := hgo, fits := fun z hz => h.fits z (hsubp z hz),
           an := fun z hz => h.an z (hsubp z hz), plan := planB_erase h.plan, un := un_erase h.size (Array.getElem?_eq_some_iff.1 ho).1 h.plan h.un, shut := shut_set h.shut ho hd, size := by simp [h.size] }
  · refine chain_imp (fun zs z rs hz hqz => ?_) h.ch
    have hzP : z ∈ Pd := by rw [hz]; simp
    have hag : ∀ t ∈ usesOf z.p.o, lk (replay zs eS) t = lk (replay zs (putE eS g.o.dst v)) t := fun t ht =>
      replay_congr (by rw [lk_put, if_neg (keeps_uses (hap z hzP).1 ht)])
    rcases hre with ⟨rfl, rfl⟩ | hre
    · exact hqz.congr hag
    have hqz' := hqz.congr hag
    rcases hqz' with hh | ⟨hw, hh | ⟨f, h1, h2, h3⟩ | ⟨k, mk, b, h1, h2, h3, h4, h5, h6⟩⟩
    · exact .inl hh
    · exact .inr ⟨hw, .inl hh⟩
    · refine .inr ⟨hw, .inr (.inl ⟨f, h1, ?_, h3⟩)⟩
      have hr : isRead z.p.o.op = true := by
        cases hr : isRead z.p.o.op with
        | true => rfl
        | false => exact absurd h1 (not_read hr)
      have hpl := h.plan
      rw [hz, List.map_append, List.map_cons, List.append_assoc, List.cons_append] at hpl
      obtain ⟨u1, u2, u3, u4⟩ := rrB_use (planB_rr hpl) hr hq (hnb z hzP)
      obtain ⟨d, hdz, hdu⟩ := selfOk_spec u2
      obtain ⟨oz, hoz, hozq, _⟩ := h.fits z.p (by simp only [List.mem_append, List.mem_map]; exact .inl ⟨z, hzP, rfl⟩)
      have hmem : (z.p.o.op, z.p.o.g, z.p.o.dst) ∈ g.o.re := by
        rw [hoq]
        refine List.mem_filterMap.2 ⟨z.p.i, u1, ?_⟩
        rw [mkR, hoz, hozq]
        rfl
      have hrr := hre _ hmem
      have hrep : ∀ t, lk eF t = lk (replay rs (putE (replay zs eS) z.p.o.dst z.v)) t := fun t => by
        rw [← h.eq t, hz, replay_append]; rfl
      have hag2 : ∀ t ∈ usesOf z.p.o, lk (replay zs (putE eS g.o.dst v)) t = lk (putE eF g.o.dst v) t := fun t ht => by
        rw [← hag t ht, lk_put, if_neg (keeps_uses u4 ht), hrep t, replay_out (fun x hx => keeps_uses (u3 x.p (List.mem_map.2 ⟨x, hx, rfl⟩)) ht), lk_put, if_neg]
        rw [hdz]
        intro hc
        injection hc with hc
        subst hc
        exact hdu ht
      have hval : lk (putE eF g.o.dst v) d = some z.v := by
        rw [lk_put, if_neg (keeps_dst u4 hdz), hrep d, replay_out (fun x hx => keeps_dst (u3 x.p (List.mem_map.2 ⟨x, hx, rfl⟩)) hdz), lk_put, if_pos hdz]
      unfold reread at hrr
      simp only at hrr
      rw [← O.wanted_congr hag2, hw] at hrr
      simp only at hrr
      rw [← O.den_congr hag2, h1, hdz] at hrr
      simp only at hrr
      rw [hrr, hval]
    · refine .inr ⟨hw, .inr (.inr ⟨k, mk, b, h1, h2, ?_, ?_, h5, h6⟩)⟩
      · rw [hst.unborn b (h.blt z hzP b h6) h4]; exact h3
      · rw [hst.old b (h.blt z hzP b h6)]; exact h4
  · by_cases ht : g.o.dst = some t
    · rw [replay_out (fun z hz hzt => keeps_dst (hap z hz).2 ht hzt), lk_put, if_pos ht, lk_put, if_pos ht]
    · rw [lk_put, if_neg ht, ← h.eq t]
      exact replay_congr (by rw [lk_put, if_neg ht])
  · rw [← hdst]
    exact (h.er.mono (hst.emb h.st.sim)).put (okO_dst hok) hv
theorem Inv.step {g : PI} (h : Inv P ops N D ms φ0 σ0 w0 K Pd (g :: L) listed eS eF φ σ a w) (hq : quiet g.o.op = false) {o : Oper} (ho : ops[g.i]? = some o) (hoq : g.o = mkO P ops g.ri o) (hok : okO N ops o = true)
  (hd : ∀ e ∈ o.after, Region.binds .any e = true → Done listed e.on) (hnb : ∀ x ∈ Pd, x.p.before g = false) {Kr : Act → World → Prop}
  (hk : ∀ eS' eF' φ' σ' a' w', Inv P ops N D ms φ0 σ0 w0 K Pd L (listed.setIfInBounds g.i true) eS' eF' φ' σ' a' w' → Kr a' w') : wpOpIn (fc ro) 0 P ops Q g.i Kr a w := by
 have hgo : stepO P g.o eF σ fun e σ => evL P (L.map (·.o)) e σ K := h.go
 have hap : ∀ x ∈ Pd, keeps x.p.o g.o = true ∧ keeps g.o x.p.o = true := fun x hx => apart_of (planB_pair' h.plan (List.mem_map.2 ⟨x, hx, rfl⟩)).1 (hnb x hx)
 have hag : ∀ t ∈ usesOf g.o, lk eF t = lk eS t := fun t ht => by
  rw [← h.eq t]
  exact replay_out fun x hx => keeps_uses (hap x hx).2 ht
 have hgd : g.o.g = mkG ops o := by rw [hoq]; rfl
 have hop : g.o.op = trOp P o.op := by rw [hoq]; rfl
 have hs := h.st.sim
 unfold stepO at hgo
 rw [O.wanted_congr hag, O.den_congr hag] at hgo
 unfold wpOpIn
 simp only [ho]
 split at hgo
 ·exact hgo.elim
 ·rename_i hw
  rw [hgd] at hw
  rw [wanted_sound (okO_g hok) hw fun t v _ hv => h.er.2 t v hv]
  simp only [Bool.false_eq_true, if_false]
  exact ⟨fun _ _ => trivial, hk _ _ _ _ _ _ (h.after hq ho hoq hok hd hnb hap (.refl hs) .undef hgo (.inl ⟨rfl, rfl⟩))⟩
 ·rename_i hw
  rw [hgd] at hw
  rw [wanted_sound (okO_g hok) hw fun t v _ hv => h.er.2 t v hv]
  simp only [if_true]
  rw [hop] at hgo
  refine op_sound hs (h.er.or hs) hgo fun φ' v v' σ' w' hK hst hv => ?_
  obtain ⟨k1, k2⟩ := rereads_iff.1 hK
  exact hk _ _ _ _ _ _ (h.after hq ho hoq hok hd hnb hap hst hv k2 (.inr k1))
theorem run_any (hm : MP ops.toList ms) (hE : ∀ (i : Nat) (o : Oper), ops[i]? = some o → ∀ e ∈ o.after, Region.binds .any e = true → e.on < i)
    (hK : ∀ φ' e' σ' a' w', K e' σ' → Step P φ0 σ0 w0 φ' σ' w' → ER φ' N D e' a' → Q .normal a' w') :
    ∀ (fuel : Nat) {Pd : List Pn} {L : List PI} {listed : Array Bool} {eS eF : Env} {φ : Emb} {σ : H} {a : Act} {w : World}, Inv P ops N D ms φ0 σ0 w0 K Pd L listed eS eF φ σ a w → Pd.length + L.length = fuel →
      wpAnyIn (fc ro) 0 P .any ops Q fuel listed a w
  | 0, Pd, L, listed, eS, eF, φ, σ, a, w, h, hf => by
    have h1 : Pd = [] := List.length_eq_zero_iff.1 (by omega)
    have h2 : L = [] := List.length_eq_zero_iff.1 (by omega)
    subst h1 h2
    refine ⟨?_, ?_⟩
    · cases hr : Region.ready .any ops listed with
      | nil => rfl
      | cons j r =>
        have hj : j ∈ Region.ready .any ops listed := by rw [hr]; simp
        obtain ⟨g1, o, g2, g3⟩ := mem_ready.1 hj
        have hlt := (Array.getElem?_eq_some_iff.1 g2).1
        have : listed.getD j false = false := by
          rw [Array.getD_eq_getD_getElem?] at g1 ⊢
          have : j < listed.size := h.size ▸ hlt
          simpa [this] using g1
        obtain ⟨p, hp, _⟩ := (h.un j hlt).1 this
        simp at hp
    · exact hK φ eF σ a w h.go h.st ⟨h.er.1, fun t v hv => h.er.2 t v (by rw [← h.eq t] at hv; exact hv)⟩
  | fuel + 1, Pd, L, listed, eS, eF, φ, σ, a, w, h, hf => by
    obtain ⟨Pd, L, eF, σ, h, hf', hg⟩ := advance h
    replace hf : Pd.length + L.length = fuel + 1 := hf'.trans hf
    clear hf'
    refine ⟨fun hr => ?_, fun i hi => ?_⟩
    · exfalso
      obtain ⟨p, hp⟩ : ∃ p, p ∈ Pd.map (·.p) ++ L := by
        cases hl : Pd.map (·.p) ++ L with
        | nil =>
          simp only [List.append_eq_nil_iff, List.map_eq_nil_iff] at hl
          rw [hl.1, hl.2] at hf
          cases hf
        | cons p r => exact ⟨p, by simp⟩
      obtain ⟨o, ho, _⟩ := h.fits p hp
      have hlt := (Array.getElem?_eq_some_iff.1 ho).1
      exact some_ready hE p.i hlt ((h.un p.i hlt).2 ⟨p, hp, rfl⟩) h.size hr
    · obtain ⟨g1, o, g2, g3⟩ := mem_ready.1 hi
      have hlt := (Array.getElem?_eq_some_iff.1 g2).1
      have g1' : listed.getD i false = false := by
        rw [Array.getD_eq_getD_getElem?] at g1 ⊢
        have : i < listed.size := h.size ▸ hlt
        simpa [this] using g1
      obtain ⟨p, hp, rfl⟩ := (h.un i hlt).1 g1'
      have hnb : ∀ x ∈ Pd.map (·.p) ++ L, x.before p = false := fun x hx => h.notBefore hm hp g2 g3 hx
      obtain ⟨o', ho', hoq, hok⟩ := h.fits p hp
      rw [g2] at ho'
      injection ho' with ho'
      subst ho'
      rcases List.mem_append.1 hp with hp1 | hp1
      · obtain ⟨q, hq, rfl⟩ := List.mem_map.1 hp1
        obtain ⟨xs, ys, rfl⟩ := List.append_of_mem hq
        have hap : ∀ x ∈ xs, keeps x.p.o q.p.o = true ∧ keeps q.p.o x.p.o = true := fun x hx => by
          have hpl := h.plan
          rw [List.map_append, List.map_cons, List.append_assoc, List.cons_append] at hpl
          exact apart_of (planB_pair' hpl (List.mem_map.2 ⟨x, hx, rfl⟩)).1 (hnb x.p (by simp only [List.mem_append, List.mem_map]; exact .inl ⟨x, by simp [hx], rfl⟩))
        have hqv : QV q eS σ φ σ0.size := by
          have := h.ch
          rw [chain_append] at this
          exact this.2.1.congr fun t ht => replay_out fun x hx => keeps_uses (hap x hx).2 ht
        refine pend_exec h.st rfl h.er g2 hoq hok hqv fun φ' v' w' k1 k2 k3 k4 => ?_
        exact run_any hm hE hK fuel (h.pend g2 hoq hok g3 hap k1 k2 k3 k4) (by simp only [List.length_append, List.length_cons] at hf ⊢; omega)
      · cases L with
        | nil => cases hp1
        | cons g L =>
          have hgq := hg g L rfl
          rcases List.mem_cons.1 hp1 with rfl | hp2
          · exact h.step hgq g2 hoq hok g3 (fun x hx => hnb x.p (by simp only [List.mem_append, List.mem_map]; exact .inl ⟨x, hx, rfl⟩)) fun eS' eF' φ' σ' a' w' hinv =>
              run_any hm hE hK fuel hinv (by simp only [List.length_cons] at hf; exact Nat.succ.inj (by omega))
          · exfalso
            have h1 := (planB_pair h.plan hp2).1
            have h2 := hnb g (by simp)
            unfold pairB at h1
            rw [hgq, h2] at h1
            simp at h1
def okMs (ops : Array Oper) (ms : List Nat) : Bool :=
 masks ops == ms && ((List.range ops.size).all fun i => match ops[i]? with | some o => o.after.toList.all fun e => !Region.binds .any e || decide (e.on < i) | none => true)
def trPl (P : Program) (ops : Array Oper) (cert : List (Nat × Nat × List Nat)) : List PI :=
 cert.filterMap fun c => (ops[c.1]?).map fun o => ⟨c.1, c.2.1, c.2.2, mkO P ops c.2.2 o⟩
def okCert (N : Nat) (ops : Array Oper) (ms : List Nat) (cert : List (Nat × Nat × List Nat)) : Bool :=
 okMs ops ms && ops.all (okO N ops) && (cert.all fun c => ms.getD c.1 0 == c.2.1) && (List.range ops.size).all fun i => cert.any fun c => c.1 == i
theorem planB_nodup : ∀ {l : List PI}, planB l = true → (l.map (·.i)).Nodup
 |[], _ => by simp
 |x :: l, h => by
  simp only [planB, Bool.and_eq_true, List.all_eq_true] at h
  simp only [List.map_cons, List.nodup_cons, List.mem_map, not_exists, not_and]
  exact ⟨fun y hy he => by simpa [he] using h.1.1.2 y hy, planB_nodup h.2⟩
theorem drawn_sound {id : Nat} {cert : List (Nat × Nat × List Nat)} {e : Env} (hmix : P.follows .mixedOrders = true) (hc : okCert N ops ms cert = true) (hp : planB (trPl P ops cert) = true)
    (hs : Sim P φ σ w) (he : ER φ N D e a) (h : evL P ((trPl P ops cert).map (·.o)) e σ K)
    (hK : ∀ φ' e' σ' a' w', K e' σ' → Step P φ σ w φ' σ' w' → ER φ' N D e' a' → Q .normal a' w') : (Code.region id ops true).wpIn (fc ro) 0 P Q a w := by
  refine wpIn_region_any hmix ?_
  simp only [okCert, okMs, Bool.and_eq_true, beq_iff_eq, List.all_eq_true, List.any_eq_true, List.mem_range, Array.all_eq_true] at hc
  obtain ⟨⟨⟨⟨h1, h2⟩, h3⟩, h4⟩, h5⟩ := hc
  have hE : ∀ (i : Nat) (o : Oper), ops[i]? = some o → ∀ e ∈ o.after, Region.binds .any e = true → e.on < i := by
    intro i o ho e he hb
    have := h2 i (Array.getElem?_eq_some_iff.1 ho).1
    rw [ho] at this
    simp only [List.all_eq_true] at this
    have := this e (by simpa using he)
    simpa [hb] using this
  have hfit : ∀ p ∈ trPl P ops cert, Fits P ops N p ∧ p.an = ms.getD p.i 0 := by
    intro p hp
    obtain ⟨c, hc1, hc2⟩ := List.mem_filterMap.1 hp
    simp only [Option.map_eq_some_iff] at hc2
    obtain ⟨o, ho, rfl⟩ := hc2
    obtain ⟨hlt, hoe⟩ := Array.getElem?_eq_some_iff.1 ho
    exact ⟨⟨o, ho, rfl, hoe ▸ h3 c.1 hlt⟩, (h4 c hc1).symm⟩
  have hun : ∀ i, i < ops.size → ∃ p ∈ trPl P ops cert, p.i = i := by
    intro i hi
    obtain ⟨c, hc1, hc2⟩ := h5 i hi
    refine ⟨⟨c.1, c.2.1, c.2.2, mkO P ops c.2.2 ops[i]⟩, List.mem_filterMap.2 ⟨c, hc1, ?_⟩, hc2⟩
    rw [hc2]
    simp [hi]
  have hlen : (trPl P ops cert).length = ops.size := by
    have hperm : ((trPl P ops cert).map (·.i)).Perm (List.range ops.size) := by
      rw [List.perm_ext_iff_of_nodup (planB_nodup hp) List.nodup_range]
      intro i
      simp only [List.mem_map, List.mem_range]
      constructor
      · rintro ⟨p, hp1, rfl⟩
        obtain ⟨⟨o, ho, _⟩, _⟩ := hfit p hp1
        exact (Array.getElem?_eq_some_iff.1 ho).1
      · exact hun i
    simpa using hperm.length_eq
  have hst := Step.draw hs (w.drawn + 1)
  refine run_any (φ0 := φ) (σ0 := σ) (w0 := w) (K := K) (ms := ms) (h1 ▸ masks_MP ops) hE hK ops.size (Pd := []) (L := trPl P ops cert) (eS := e) (eF := e) (φ := φ) (σ := σ) ?_ (by simpa using hlen)
  exact { ch := trivial, eq := fun _ => rfl, bs := by simp, blt := (by intro q h; cases h), s0 := hs, st := hst, er := he, go := h, fits := fun p hp => (hfit p (by simpa using hp)).1, an := fun p hp => (hfit p (by simpa using hp)).2,
          plan := (by simpa using hp), un := fun i hi => ⟨fun _ => by simpa using hun i hi, fun _ => by simp [Array.getD_eq_getD_getElem?, hi]⟩,
          shut := fun i o ho hd => by
            unfold Done at hd
            have := (Array.getElem?_eq_some_iff.1 ho).1
            simp [Array.getD_eq_getD_getElem?, this] at hd
          size := by simp }
end
end Go.Cn
