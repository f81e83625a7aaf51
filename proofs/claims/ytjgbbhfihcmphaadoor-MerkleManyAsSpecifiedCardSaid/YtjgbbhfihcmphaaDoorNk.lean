/- Walks and plain laws. Conditions: none. -/
import Derived.Test.YtjgbbhfihcmphaaDoorNj
set_option linter.all false
set_option maxRecDepth 10000
set_option maxHeartbeats 4000000
namespace Go.Proofs.YtjgbbhfihcmphaaDoor
open Go Go.Cn Go.RowKit
theorem cut_props {t : Int} : ∀ {Q : List Int}, Asc Q → (∀ q ∈ Q.take (cutK Q t), q < t) ∧ (∀ q ∈ Q.drop (cutK Q t), t ≤ q)
 |[], _ => ⟨fun q h => by simp at h, fun q h => by simp at h⟩
 |p :: r, h => by
  obtain ⟨h1, h2⟩ := List.pairwise_cons.1 h
  by_cases hp : p < t
  ·have e : cutK (p :: r) t = cutK r t + 1 := by unfold cutK; rw [List.takeWhile_cons, if_pos (by simpa using hp), List.length_cons]
   obtain ⟨g1, g2⟩ := cut_props (t := t) h2
   rw [e, List.take_succ_cons, List.drop_succ_cons]
   refine ⟨fun q hq => ?_, g2⟩
   rcases List.mem_cons.1 hq with h | h
   ·rw [h]; exact hp
   ·exact g1 q h
  ·have e : cutK (p :: r) t = 0 := by unfold cutK; rw [List.takeWhile_cons, if_neg (by simpa using hp)]; rfl
   rw [e, List.take_zero, List.drop_zero]
   refine ⟨fun q hq => absurd hq (List.not_mem_nil), fun q hq => ?_⟩
   rcases List.mem_cons.1 hq with rfl | hq
   ·omega
   ·have := h1 q hq; omega
set_option maxHeartbeats 8000000
attribute [local irreducible] evL sem onG onI onV
structure Two (τ0 τ : H) (pv fv : Value) (Q : List Int) (F : List (List Int)) : Prop where
 o : Old τ0 τ
 p : Grown (sized τ0.size) τ 1 pv (Q.map (.int .i64)) Q.length
 f : Grown (sized τ0.size) τ 16 fv (F.map digC).flatten F.length
 d : ∀ c, baseOf pv = some c → baseOf fv ≠ some c
theorem Two.ap {τ0 τ : H} {pv fv : Value} {Q : List Int} {F : List (List Int)} {M : List Blk} (h : Two τ0 τ pv fv Q F) : Two τ0 (Cn.ap τ M) pv fv Q F := ⟨h.o.trans .ap, h.p.old .ap, h.f.old .ap, h.d⟩
theorem Two.pushP {τ0 τ : H} {pv fv : Value} {Q : List Int} {F : List (List Int)} {x : Int} (h : Two τ0 τ pv fv Q F) (hn : Q.length < 1000) :
  ∃ w τ', append 1 8 pv (.slice (some ⟨τ.size, 0, none⟩) 1 1) (Cn.ap τ [.cells 0 [.int .i64 x] (0, 0)]) = some (w, τ') ∧ Two τ0 τ' w fv (Q ++ [x]) F := by
 have hs : (sized τ0.size).size = τ0.size := sized_size
 have h' := h.ap (M := [.cells 0 [.int .i64 x] (0, 0)])
 have xc : xcells (Cn.ap τ [.cells 0 [.int .i64 x] (0, 0)]) 1 (.slice (some ⟨τ.size, 0, none⟩) 1 1) = some (1, [.int .i64 x]) := by
  show (rdN (Cn.ap τ _) ⟨τ.size, 0, none⟩ (1 * 1)).map (1, ·) = _
  rw [rdN_all (n := 1 * 1) (by rw [ap_new0]; rfl) rfl]
  rfl
 obtain ⟨w, τ', ha, A⟩ := append_grown (bytes := 8) h'.p (by omega) (by rw [hs]; exact h'.o.1) xc rfl rfl (by omega) (by omega)
 refine ⟨w, τ', ha, A.Old' h'.p (by rw [hs]; exact Nat.le_refl _) h'.o, ?_, ?_, fun c hc => ?_⟩
 ·have := A.grown
  simpa using this
 ·refine h'.f.keep fun c k hc hk => A.frame c k hk fun h9 => h.d c h9 hc
 ·rcases A.base with h9 | h9
  ·rw [h9] at hc; exact h.d c hc
  ·rw [h9] at hc
   injection hc with hc
   intro h8
   have := (h.f.base h8).2
   rw [← hc, ap_size] at this
   omega
theorem Two.ps {τ0 τ : H} {pv fv : Value} {Q : List Int} {F : List (List Int)} (h : Two τ0 τ pv fv Q F) : Ps τ pv Q := by
 have hf : (Q.map intC).flatten = Q.map (.int .i64) := by
  clear h
  induction Q with
  |nil => rfl
  |cons p r ih => rw [List.map_cons, List.flatten_cons, ih]; rfl
 have g : Grown (sized τ0.size) τ 1 pv (Q.map intC).flatten (Q.map intC).length := by
  rw [List.length_map, hf]; exact h.p
 exact ⟨g.Row (fun r hr => by obtain ⟨x, _, rfl⟩ := List.mem_map.1 hr; rfl), h.p.cap⟩
theorem Two.ls {τ0 τ : H} {pv fv : Value} {Q : List Int} {F : List (List Int)} (h : Two τ0 τ pv fv Q F) (hd : ∀ d ∈ F, d.length = 16) : Ls τ fv F := grown_ls h.f hd
end Go.Proofs.YtjgbbhfihcmphaaDoor
