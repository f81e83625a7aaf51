/- Walks of the functions that the claim reaches. Conditions: none. -/
import Derived.Test.YtiipnbnkikmlgaaGreatDoorTb
import Derived.RecoverIn
set_option linter.all false
namespace Go.Proofs.YtiipnbnkikmlgaaGreatDoor
open Go Go.Cn
theorem wpSIn_recover {P : Program} {Q : Exit → Act → List Frame → World → Prop} {a : Act} {c₀ : Frame} {cs : List Frame} {w : World} {id : Nat} {o : Oper}
  (ho : o.op = .call { callee := .builtin .recover, args := #[], argTypes := #[] }) (hg : o.guard = none) (hu : c₀.mode = .returning) (h : Q .normal (a.put o.dst .nilIface) (c₀ :: cs) w) :
  (Code.region id #[o] false).wpSIn (fc none) 0 P Q a (c₀ :: cs) w := by
 refine wpSIn_region ?_
 have hr : recoverD (c₀ :: cs) = none := by simp [recoverD, hu]
 show wpOpsSIn (fc none) 0 P #[o] Q [0] a (c₀ :: cs) w
 simp only [wpOpsSIn, List.getElem?_toArray, List.getElem?_cons_zero]
 refine ⟨fun _ _ => trivial, ?_⟩
 have hw : Region.wanted o (yielded #[o] a.tmps) = true := by unfold Region.wanted; rw [hg]
 have he : (execOp a.eval o).run P w = .ok .recover w := by simp [execOp, ho, resolve, invoke, builtin]
 rw [if_pos hw, he]
 simp only [hr]
 exact h
theorem wpIn_one {P : Program} {Q : Exit → Act → World → Prop} {a : Act} {w : World} {id : Nat} {o : Oper} {v : Value}
  (hd : ∀ c, o.op ≠ .defer c) (hg : o.guard = none) (he : (execOp a.eval o).run P w = .ok (.value v) w) (h : Q .normal (a.put o.dst v) w) :
  (Code.region id #[o] false).wpIn (fc none) 0 P Q a w := by
 refine wpIn_region ?_
 show wpOpsIn (fc none) 0 P #[o] Q [0] a w
 rw [wpOpsIn_cons]
 unfold wpOpIn
 simp only [List.getElem?_toArray, List.getElem?_cons_zero]
 have hw : Region.wanted o (yielded #[o] a.tmps) = true := by unfold Region.wanted; rw [hg]
 rw [if_pos hw]
 exact wpIn_val (ro := none) (nx := .value v) (Oper.semAt_eq none _ o hd) he (.inl rfl) h
theorem run_assign {P : Program} {ρ : Operand → Value} {w : World} {d : Option Tmp} {t : TypeId} {pos : String} {af : Array Edge} {g : Option (Nat × Bool)} {x : Operand} {v : Value} (h : ρ x = v) :
  (execOp ρ ⟨d, .assign x, t, pos, af, g⟩).run P w = .ok (.value v) w := by simp [execOp, h]
theorem run_eqnil {ρ : Operand → Value} {w : World} {d : Option Tmp} {t : TypeId} {pos : String} {af : Array Edge} {g : Option (Nat × Bool)} (h5 : ρ (.tmp 5) = .nilIface) (hc : ρ (.const .nilIface) = .nilIface) :
  (execOp ρ ⟨d, .binOp .eql 20 (.tmp 5) (.const .nilIface) 20, t, pos, af, g⟩).run Tryz.prog w = .ok (.value (.bool true)) w := by
 have g1 : eqGuard .eql 20 (.tmp 5) (.const .nilIface) .nilIface .nilIface = pure () := rfl
 have g2 : binOp .eql 20 .nilIface .nilIface = (do let b ← Op.equalIn Op.maxDepth 20 .nilIface .nilIface; pure (.bool b)) := rfl
 have g3 : (Op.equalIn Op.maxDepth 20 .nilIface .nilIface).run Tryz.prog w = .ok true w := by
  rw [show Op.maxDepth = 9999 + 1 from rfl, Op.equalIn]
  simp only [Sem.run_bind, run_underlying Tryz.underlying20, Result.andThen_ok]
  rfl
 simp only [execOp, h5, hc, g1, g2, Sem.run_bind, Sem.run_pure, Result.andThen_ok, g3]
theorem caught_ok (cap args : Array Value) (σ : H) (R : H → Prop) (h : R σ) : AppDc Tryz.prog 35 cap args σ R := by
 intro φ w cap' args' hs h2 h3
 have hb : Tryz.f35.body = some _ := rfl
 have hname : ¬ Tryz.f35.name = "runtime.NumGoroutine" := by decide
 refine ⟨args' ++ cap', by simp [invoke, callFunc, Tryz.func35, hb, hname], ?_⟩
 generalize args' ++ cap' = xs
 refine callsDIn_of_wpSIn Tryz.func35 hb trivial fun c₀ cs hu => ?_
 have hsz : 15 ≤ (xs ++ Array.replicate (Tryz.f35.ntmps - xs.size) undef).size := by
  have : Tryz.f35.ntmps = 15 := rfl
  rw [this]; simp; omega
 generalize xs ++ Array.replicate (Tryz.f35.ntmps - xs.size) undef = tm at hsz
 refine wpSIn_seq (wpSIn_recover rfl rfl hu ?_)
 show (Code.block 0 _).wpSIn _ _ _ _ _ _ _
 have e5 : (Act.put { tmps := tm, defers := [] } (some 5) .nilIface).eval (.tmp 5) = .nilIface := by
  simp [Act.put, Act.eval, Array.getD_eq_getD_getElem?]
  omega
 refine wpSIn_of_wpIn rfl (wpIn_block (wpIn_seq (wpIn_one (v := .bool true) (fun c h => by cases h) rfl ?_ ?_)))
 ·exact run_eqnil e5 rfl
 ·show (Code.cond (.tmp 7) _ _).wpIn _ _ _ _ _ _
  refine wpIn_cond_true ?_ (wpIn_one (v := .nilIface) (fun c h => by cases h) rfl ?_ ?_)
  ·simp [Act.put, Act.eval, Array.getD_eq_getD_getElem?]
   omega
  ·refine run_assign ?_
   show (Act.put (Act.put { tmps := tm, defers := [] } (some 5) .nilIface) (some 7) (.bool true)).eval (.tmp 5) = .nilIface
   simp [Act.put, Act.eval, Array.getD_eq_getD_getElem?, Array.getElem?_setIfInBounds]
   rw [if_pos (by omega)]
   rfl
  ·have hc : ({ c₀ with mode := .returning } : Frame) = c₀ := by rw [← hu]
   refine ⟨rfl, .returning, by rw [hc], .tuple #[], ?_, rfl, .tuple #[], rfl, σ, φ, h, .refl hs⟩
   show (results Tryz.f35 _).run Tryz.prog w = _
   simp [results, show Tryz.f35.results = #[] from rfl]
theorem glob4 : Tryz.prog.globals.size = 4 := by kernel_rfl
theorem mm_ok : MOk Tryz.prog mm := by
 refine ⟨mixed, tb_ok, fun f d h => ?_, fun f d h => ?_⟩
 ·have h : bq (Nat.beq 13 f) (some (⟨13, s13, _, _⟩ : Cn.Fd)) none = some d := h
  rw [bq_if] at h
  split at h
  ·rename_i hb
   injection h with h
   rw [← beq_iff.1 hb, ← h]
   exact ⟨Tryz.f13, s13, Tryz.func13, t13, k13, r13, Nat.le_of_ble_eq_true rfl⟩
  ·cases h
 ·have h : bq (Nat.beq 33 f) (some (⟨33, some (l33, _, _)⟩ : Dq)) (bq (Nat.beq 35 f) (some (⟨35, none⟩ : Dq)) none) = some d := h
  rw [bq_if] at h
  split at h
  ·rename_i hb
   injection h with h
   rw [← beq_iff.1 hb, ← h]
   exact ⟨Tryz.f33, Tryz.func33, q33, rfl, Nat.le_of_ble_eq_true rfl⟩
  ·rw [bq_if] at h
   split at h
   ·rename_i hb
    injection h with h
    rw [← beq_iff.1 hb, ← h]
    exact caught_ok
   ·cases h
theorem rep_e {ρ : Nat → Rnd} {n : Nat} : rep ρ ⟨n, .e⟩ = Array.replicate n .dead := by
 apply Array.ext_getElem?
 intro i
 rw [rep_get, get_lt, Array.getElem?_replicate]
 show Option.map _ (if i < n then some ((Tr.get 12 .e i).getD .dead) else none) = _
 rw [Tr.get_e]
 split <;> rfl
theorem fleet_app {σ : H} (hσ : Tryz.prog.globals.size ≤ σ.size) : App Tryz.prog (.func 4) #[] #[] σ fun w σ' => σ' = σ ∧ w = .bool true := by
 have hr := run_ok
 obtain ⟨t', ht⟩ : ∃ t', callF mm 40 [] (.func (.func 4) #[] #[]) [] ⟨4, .e⟩ = some (.bool true, t') := by
  generalize callF mm 40 [] (.func (.func 4) #[] #[]) [] ⟨4, .e⟩ = q at hr
  unfold okV at hr
  split at hr
  ·rename_i a t'
   exact ⟨t', by rw [eq_of_beq hr]⟩
  ·cases hr
 obtain ⟨_, _, g⟩ := (callF_ok mm_ok 40).1 [] ⟨4, .e⟩ (fun _ => R0) (by unfold WF; show 4 ≤ 4096; omega) (fun fr h => by cases h) _ _ _ _ ht
 obtain ⟨fn, xs, cap, he, happ⟩ := g (fun v _ => v = .bool true) fun _ _ => rfl
 injection he with h1 h2 h3
 subst h1 h2 h3
 rw [rep_e] at happ
 exact App.start (G := 4) (by rw [glob4]; exact Nat.le_refl _) (by rw [← glob4]; exact hσ) rfl rfl happ
end Go.Proofs.YtiipnbnkikmlgaaGreatDoor
