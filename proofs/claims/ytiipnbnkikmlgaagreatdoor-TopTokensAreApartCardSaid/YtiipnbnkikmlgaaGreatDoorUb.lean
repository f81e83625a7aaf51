/- Walks of the functions that the claim reaches. Conditions: none. -/
import Derived.Test.YtiipnbnkikmlgaaGreatDoorUa
set_option linter.all false
set_option maxRecDepth 10000
set_option maxHeartbeats 16000000
namespace Go.Proofs.YtiipnbnkikmlgaaGreatDoor
open Go Go.Cn Go.RowKit
attribute [local irreducible] evL sem onG onI onV
def gC (w : Int) (p : Pl) (a : Bool) (e u : Int) : List Value := [.int .i64 w, .int .i64 p.k, .int .i64 p.m, .int .i64 p.h, .int .i64 p.e, .int .i64 p.u, .bool a, .int .i64 e, .int .i64 u]
def zP : Pl := ⟨0, 0, 0, 0, 0⟩
def idxF (L : List Kp) (m : Int) : Nat := (L.takeWhile fun k => decide (k.m < m)).length
def knownF (L : List Kp) (m : Int) : Bool := match L[idxF L m]? with | some k => decide (k.m = m) | none => false
def keptF (L : List Kp) (m : Int) : Kp := match L[idxF L m]? with | some k => if k.m = m then k else ⟨m, 0, 0, 0⟩ | none => ⟨m, 0, 0, 0⟩
def takeE (k : Kp) (p : Pl) : Kp := if p.k = 1 ∧ k.e < p.e then ⟨k.m, p.e, p.h, k.u⟩ else k
def agrF (k : Kp) (p : Pl) : Bool := decide (k.e = p.e) && decide (k.h = p.h)
def newK (k : Kp) (p : Pl) : Kp := if agrF (takeE k p) p = true then ⟨(takeE k p).m, (takeE k p).e, (takeE k p).h, if (takeE k p).u < p.u then p.u else (takeE k p).u⟩ else takeE k p
def hearL (L : List Kp) (p : Pl) : List Kp :=
 if rightF p = false then L
 else if knownF L p.m = false ∧ p.k = 2 then L
 else (L.take (idxF L p.m) ++ keptF L p.m :: L.drop (idxF L p.m + (if knownF L p.m = true then 1 else 0))).set (idxF L p.m) (newK (keptF L p.m) p)
def hearG (L : List Kp) (p : Pl) : List Value :=
 if rightF p = false then gC 0 zP false 0 0
 else if knownF L p.m = false ∧ p.k = 2 then gC 1 p false 0 0
 else gC 1 p (agrF (takeE (keptF L p.m) p) p) (newK (keptF L p.m) p).e (newK (keptF L p.m) p).u
def hearE (p : Pl) : Int := if rightF p = false then 1 else 0
theorem idxF_le {L : List Kp} {m : Int} : idxF L m ≤ L.length := (List.takeWhile_prefix _).length_le
theorem idxF_spec {m : Int} : ∀ {L : List Kp}, L.Pairwise (fun a b => a.m < b.m) → ∀ i (h : i < L.length), decide (idxF L m ≤ i) = decide (m ≤ L[i].m)
 |[], _, i, h => by cases h
 |k :: r, hs, i, h => by
  obtain ⟨h1, h2⟩ := List.pairwise_cons.1 hs
  by_cases hk : k.m < m
  ·have e : idxF (k :: r) m = idxF r m + 1 := by unfold idxF; rw [List.takeWhile_cons, if_pos (by simpa using hk), List.length_cons]
   cases i with
   |zero =>
    rw [e, List.getElem_cons_zero, decide_eq_false (by omega : ¬ m ≤ k.m), decide_eq_false (by omega)]
   |succ i =>
    have := idxF_spec (m := m) h2 i (by simpa using h)
    rw [e, List.getElem_cons_succ, ← this]
    congr 1
    apply propext
    omega
  ·have e : idxF (k :: r) m = 0 := by unfold idxF; rw [List.takeWhile_cons, if_neg (by simpa using hk)]; rfl
   rw [e, decide_eq_true (Nat.zero_le _)]
   symm
   rw [decide_eq_true]
   cases i with
   |zero => rw [List.getElem_cons_zero]; omega
   |succ i =>
    rw [List.getElem_cons_succ]
    have := h1 (r[i]'(by simpa using h)) (List.getElem_mem _)
    omega
theorem kp_set {L : List Kp} {i : Nat} {k : Kp} (h : i < L.length) : sets (L.map kC).flatten (i * 4) (kC k) = ((L.set i k).map kC).flatten := by
 rw [sets_all (by rw [kp_flat]; show i * 4 + 4 ≤ _; omega)]
 have e : L = L.take i ++ L[i] :: L.drop (i + 1) := by rw [← List.drop_eq_getElem_cons h, List.take_append_drop]
 have e1 : (L.map kC).flatten = ((L.take i).map kC).flatten ++ (kC L[i] ++ ((L.drop (i + 1)).map kC).flatten) := by
  conv => lhs; rw [e]
  rw [List.map_append, List.flatten_append, List.map_cons, List.flatten_cons]
 have lt : ((L.take i).map kC).flatten.length = i * 4 := by rw [kp_flat, List.length_take]; omega
 have e2 : L.set i k = L.take i ++ k :: L.drop (i + 1) := by rw [List.set_eq_take_append_cons_drop, if_pos h]
 rw [e1, e2, List.map_append, List.flatten_append, List.map_cons, List.flatten_cons, List.take_left' lt]
 rw [show i * 4 + (kC k).length = (((L.take i).map kC).flatten ++ kC L[i]).length by rw [List.length_append, lt]; rfl, ← List.append_assoc, List.drop_left]
 rw [List.append_assoc]
structure HS (σ : H) (s : Nat) (Y : H) (w : Value) (p : Pl) (k0 : Kp) (g : List Value) : Prop where
 e : s = σ.size + 4
 o : Old σ Y
 n : s + 2 ≤ Y.size
 y0 : Y[σ.size]? = some (.cells 0 [.int .i64 1, w] (0, 0))
 y1 : Y[σ.size + 1]? = some (.cells 0 [.int .i64 p.k, .int .i64 p.m, .int .i64 p.h, .int .i64 p.e, .int .i64 p.u] (0, 0))
 y2 : Y[σ.size + 2]? = some (.cells 0 [.int .i64 0, .slice none 0 0] (0, 0))
 y3 : Y[σ.size + 3]? = some (.cells 0 [.int .i64 0, .int .i64 0, .int .i64 0, .int .i64 0, .int .i64 0, .int .i64 0, .bool false, .int .i64 0, .int .i64 0] (0, 0))
 y4 : ∃ v, Y[s]? = some (.cells v g (0, 0))
 y5 : ∃ v, Y[s + 1]? = some (.cells v (kC k0) (0, 0))
theorem HS.keep {σ Y Y' : H} {s : Nat} {w : Value} {p : Pl} {k0 : Kp} {g : List Value} (h : HS σ s Y w p k0 g) (hs : Y.size ≤ Y'.size) (hk : ∀ c k, c < s + 2 → Y[c]? = some k → Y'[c]? = some k) : HS σ s Y' w p k0 g := by
 obtain ⟨v, h5⟩ := h.y5
 obtain ⟨v4, h4⟩ := h.y4
 have he := h.e
 refine ⟨he, ⟨Nat.le_trans h.o.1 hs, fun c hc => ?_⟩, Nat.le_trans h.n hs, hk _ _ (by omega) h.y0, hk _ _ (by omega) h.y1, hk _ _ (by omega) h.y2, hk _ _ (by omega) h.y3, ⟨v4, hk _ _ (by omega) h4⟩, v, hk _ _ (by omega) h5⟩
 have h2 := h.o.2 c hc
 have hlt : c < Y.size := Nat.lt_of_lt_of_le hc h.o.1
 have h3 : Y[c]? = some Y[c] := Array.getElem?_eq_getElem hlt
 rw [← h2, h3]
 exact hk c _ (by omega) h3
theorem HS.ap {σ Y : H} {s : Nat} {w : Value} {p : Pl} {k0 : Kp} {g : List Value} {M : List Blk} (h : HS σ s Y w p k0 g) : HS σ s (Cn.ap Y M) w p k0 g := h.keep (by simp [ap_size]) fun c k _ hk => (ap_old (Array.getElem?_eq_some_iff.1 hk).1).trans hk
theorem HS.app {σ Y Y' : H} {s : Nat} {w u u' : Value} {p : Pl} {k0 : Kp} {g : List Value} {cs cs' : List Value} {n n' : Nat} (h : HS σ s Y w p k0 g) (hg : Grown (sized (s + 2)) Y 4 u cs n) (A : Ap (sized (s + 2)) Y Y' 4 u u' cs' n') : HS σ s Y' w p k0 g :=
 h.keep A.size fun c k hc hk => A.low hg (by rw [sized_size]; exact hc) hk
theorem HS.put5 {σ Y : H} {s v : Nat} {w : Value} {p : Pl} {k0 k1 : Kp} {g : List Value} (h : HS σ s Y w p k0 g) : HS σ s (Y.setIfInBounds (s + 1) (.cells v (kC k1) (0, 0))) w p k1 g := by
 obtain ⟨v5, h5⟩ := h.y5
 obtain ⟨v4, h4⟩ := h.y4
 have he := h.e
 exact ⟨he, h.o.set (by omega), by simpa using h.n, (get_set_ne (by omega)).trans h.y0, (get_set_ne (by omega)).trans h.y1, (get_set_ne (by omega)).trans h.y2, (get_set_ne (by omega)).trans h.y3, ⟨v4, (get_set_ne (by omega)).trans h4⟩, v, get_set h5⟩
theorem HS.put4 {σ Y : H} {s v : Nat} {w : Value} {p : Pl} {k0 : Kp} {g g' : List Value} (h : HS σ s Y w p k0 g) : HS σ s (Y.setIfInBounds s (.cells v g' (0, 0))) w p k0 g' := by
 obtain ⟨v5, h5⟩ := h.y5
 obtain ⟨v4, h4⟩ := h.y4
 have he := h.e
 exact ⟨he, h.o.set (by omega), by simpa using h.n, (get_set_ne (by omega)).trans h.y0, (get_set_ne (by omega)).trans h.y1, (get_set_ne (by omega)).trans h.y2, (get_set_ne (by omega)).trans h.y3, ⟨v, get_set h4⟩, v5, (get_set_ne (by omega)).trans h5⟩
theorem wr_at {θ : H} {b i ver : Nat} {cs : List Value} {x : Value} (h : θ[b]? = some (.cells ver cs (0, 0))) (hi : i < cs.length) (hx : x.oneCell' = true) : wrN θ ⟨b, i, none⟩ [x] = some (θ.setIfInBounds b (.cells (ver + 1) (cs.set i x) (0, 0))) := by
 rw [wrN_eq, if_neg (by simp), h, wrc_cells, if_pos ⟨by show i + 1 ≤ cs.length; omega, by simp [hx]⟩]
 rfl
theorem HS.p {σ Y : H} {s : Nat} {w : Value} {p : Pl} {k0 : Kp} {g : List Value} (h : HS σ s Y w p k0 g) :
  rd1 Y ⟨σ.size + 1, 0, none⟩ = some (.int .i64 p.k) ∧ rd1 Y ⟨σ.size + 1, 2, none⟩ = some (.int .i64 p.h) ∧ rd1 Y ⟨σ.size + 1, 3, none⟩ = some (.int .i64 p.e) ∧ rd1 Y ⟨σ.size + 1, 4, none⟩ = some (.int .i64 p.u) :=
 ⟨rd1_of h.y1 .refl rfl, rd1_of h.y1 .refl rfl, rd1_of h.y1 .refl rfl, rd1_of h.y1 .refl rfl⟩
theorem HS.k {σ Y : H} {s : Nat} {w : Value} {p : Pl} {k0 : Kp} {g : List Value} (h : HS σ s Y w p k0 g) :
  rd1 Y ⟨s + 1, 1, none⟩ = some (.int .i64 k0.e) ∧ rd1 Y ⟨s + 1, 2, none⟩ = some (.int .i64 k0.h) ∧ rd1 Y ⟨s + 1, 3, none⟩ = some (.int .i64 k0.u) ∧ rdN Y ⟨s + 1, 0, none⟩ 4 = some [.int .i64 k0.m, .int .i64 k0.e, .int .i64 k0.h, .int .i64 k0.u] := by
 obtain ⟨v, h⟩ := h.y5
 exact ⟨rd1_of h .refl rfl, rd1_of h .refl rfl, rd1_of h .refl rfl, rdb_of h .refl rfl⟩
theorem HS.wk {σ Y : H} {s : Nat} {w : Value} {p : Pl} {k0 k1 : Kp} {g : List Value} {i : Nat} {x : Value} (h : HS σ s Y w p k0 g) (hi : i < 4) (hx : x.oneCell' = true) (hc : (kC k0).set i x = kC k1) :
  ∃ v, wrN Y ⟨s + 1, i, none⟩ [x] = some (Y.setIfInBounds (s + 1) (.cells v (kC k1) (0, 0))) ∧ HS σ s (Y.setIfInBounds (s + 1) (.cells v (kC k1) (0, 0))) w p k1 g := by
 obtain ⟨v, h5⟩ := h.y5
 have := wr_at h5 (i := i) (x := x) (by simpa [kC] using hi) hx
 rw [hc] at this
 exact ⟨v + 1, this, h.put5⟩
theorem HS.wg {σ Y : H} {s : Nat} {w : Value} {p : Pl} {k0 : Kp} {g g' : List Value} {i : Nat} {x : Value} (h : HS σ s Y w p k0 g) (hi : i < g.length) (hx : x.oneCell' = true) (hc : g.set i x = g') :
  ∃ v, wrN Y ⟨s, i, none⟩ [x] = some (Y.setIfInBounds s (.cells v g' (0, 0))) ∧ HS σ s (Y.setIfInBounds s (.cells v g' (0, 0))) w p k0 g' := by
 obtain ⟨v, h4⟩ := h.y4
 have := wr_at h4 (i := i) (x := x) hi hx
 rw [hc] at this
 exact ⟨v + 1, this, h.put4⟩
theorem two_app {σ Y : H} {s : Nat} {w u1 v2 : Value} {p : Pl} {k0 : Kp} {g : List Value} {A B : List Kp} (h : HS σ s Y w p k0 g) (hg : Grown (sized (s + 2)) Y 4 u1 (A.map kC).flatten A.length) (hB : Lk σ v2 B) (hl : A.length + B.length ≤ 100) :
  ∃ u2 Y3 u3 Y4, append 4 32 u1 (.slice (some ⟨Y.size, 0, none⟩) 1 1) (ap Y [.cells 0 (kC k0) (0, 0)]) = some (u2, Y3) ∧ append 4 32 u2 v2 Y3 = some (u3, Y4) ∧ HS σ s Y3 w p k0 g ∧ HS σ s Y4 w p k0 g ∧
   Grown (sized (s + 2)) Y4 4 u3 ((A ++ k0 :: B).map kC).flatten (A ++ k0 :: B).length ∧ (∃ a c, u2 = .slice a (A.length + 1) c) := by
 have hs : (sized (s + 2)).size = s + 2 := sized_size
 have xc : xcells (ap Y [.cells 0 (kC k0) (0, 0)]) 4 (.slice (some ⟨Y.size, 0, none⟩) 1 1) = some (1, kC k0) := by
  show (rdN _ ⟨Y.size, 0, none⟩ (1 * 4)).map (1, ·) = _
  rw [rdN_all (n := 1 * 4) (by rw [ap_new0]; rfl) rfl]
  rfl
 have hgo := hg.old (σ' := ap Y [.cells 0 (kC k0) (0, 0)]) .ap
 obtain ⟨u2, Y3, ha, A1⟩ := append_grown (bytes := 32) hgo (by omega) (by rw [hs, ap_size]; have := h.n; omega) xc rfl kC_one (by omega) (by omega)
 have h3 : HS σ s Y3 w p k0 g := h.ap.app hgo A1
 have g3 : Grown (sized (s + 2)) Y3 4 u2 ((A ++ [k0]).map kC).flatten (A.length + 1) := by
  have := A1.grown
  rw [List.map_append, List.flatten_append]
  simpa using this
 obtain ⟨u3, Y4, hb, A2⟩ := append_grown (bytes := 32) g3 (by omega) (by rw [hs]; exact h3.n) (hB.Old h3.o).x kp_flat kp_ones (by omega) (by omega)
 refine ⟨u2, Y3, u3, Y4, ha, hb, h3, h3.app g3 A2, ?_, g3.slice⟩
 have := A2.grown
 rw [← List.flatten_append, ← List.map_append, List.append_assoc] at this
 have e : (A ++ k0 :: B).length = A.length + 1 + B.length := by simp; omega
 rw [e]
 exact this
theorem grown_put {σ0 σ : H} {b c i : Nat} {N : List Kp} {k : Kp} (h : Grown σ0 σ 4 (.slice (some ⟨b, 0, none⟩) N.length c) (N.map kC).flatten N.length) (hi : i < N.length) :
  ∃ θ, wrN σ ⟨b, i * 4, none⟩ [.int .i64 k.m, .int .i64 k.e, .int .i64 k.h, .int .i64 k.u] = some θ ∧ σ.size ≤ θ.size ∧ (∀ c k, c < σ0.size → σ[c]? = some k → θ[c]? = some k) ∧ Grown σ0 θ 4 (.slice (some ⟨b, 0, none⟩) N.length c) ((N.set i k).map kC).flatten (N.set i k).length := by
 obtain ⟨h1, h2, ⟨h3, _⟩ | ⟨b', ver, cap, h4, h5, h6, h7⟩⟩ := h
 ·omega
 ·injection h6 with e1 e2 e3
  injection e1 with e1
  injection e1 with e1
  subst e1 e3
  have hw : wrN σ ⟨b, i * 4, none⟩ (kC k) = some (σ.setIfInBounds b (.cells (ver + 1) (sets (N.map kC).flatten (i * 4) (kC k)) (0, 0))) := by
   rw [wrN_eq, if_neg (by simp [kC]), h7, wrc_cells, if_pos ⟨by rw [kp_flat]; show i * 4 + 4 ≤ _; omega, kC_one⟩]
   rfl
  rw [kp_set hi] at hw
  exact ⟨_, hw, by simp, fun c k hc hk => (get_set_ne (by omega)).trans hk, by rw [kp_flat], by rw [List.length_set]; exact h2, .inr ⟨b, ver + 1, c, h4, by rw [List.length_set]; exact h5, by rw [List.length_set], get_set h7⟩⟩
inductive ThreeA (a b c : Prop) : Prop
 |ta (h : a) | tb (h : b) | tc (h : c)
inductive ThreeB (a b c : Prop) : Prop
 |ba (h : a) | bb (h : b) | bc (h : c)
theorem hear_app {σ0 σ : H} {v : Value} {L : List Kp} {p : Pl} (hg : Grown σ0 σ 4 v (L.map kC).flatten L.length) (h0 : σ0.size ≤ σ.size) (hs : L.Pairwise (fun a b => a.m < b.m)) (hn : L.length ≤ 10) :
  App Tryz.prog (.func 5) #[] #[.agg #[.int .i64 1, v], .agg (pC p).toArray] σ fun w σ' => Old σ σ' ∧ ∃ u, w = .tuple #[.agg #[.int .i64 1, u], .agg (hearG L p).toArray, .int .i64 (hearE p)] ∧ Grown σ0 σ' 4 u ((hearL L p).map kC).flatten (hearL L p).length := by
 refine App.of_sem mixed Tryz.func5 t5 k5 r5 (Nat.le_of_ble_eq_true rfl) ?_
 have hL := grown_lk hg
 obtain ⟨a, c, rfl⟩ := hL.slice
 have hp : pC p = [.int .i64 p.k, .int .i64 p.m, .int .i64 p.h, .int .i64 p.e, .int .i64 p.u] := rfl
 rw [← ap_nil (σ := σ)]
 unfold s5
 simp only [hp, ↓eD, eZ, ↓reduceIte, Nat.reduceEqDiff, Nat.reduceAdd, Nat.reduceMul, reduceCtorEq, Nat.reduceLeDiff, Int.reduceLT, Int.reduceLE, Int.reduceToNat, Int.reduceEq, Nat.reduceLT, undef_eq]
 obtain ⟨Z, hZ⟩ : ∃ Z, Z = ap σ [.cells 0 [.int .i64 1, .slice a L.length c] (0, 0), .cells 0 [.int .i64 p.k, .int .i64 p.m, .int .i64 p.h, .int .i64 p.e, .int .i64 p.u] (0, 0), .cells 0 [.int .i64 0, .slice none 0 0] (0, 0), .cells 0 [.int .i64 0, .int .i64 0, .int .i64 0, .int .i64 0, .int .i64 0, .int .i64 0, .bool false, .int .i64 0, .int .i64 0] (0, 0)] := ⟨_, rfl⟩
 rw [← hZ]
 have oZ : Old σ Z := by rw [hZ]; exact .ap
 have sZ : Z.size = σ.size + 4 := by rw [hZ]; simp [ap_size]
 have z0 : Z[σ.size]? = some (.cells 0 [.int .i64 1, .slice a L.length c] (0, 0)) := by rw [hZ, ap_new0]; rfl
 have z1 : Z[σ.size + 1]? = some (.cells 0 [.int .i64 p.k, .int .i64 p.m, .int .i64 p.h, .int .i64 p.e, .int .i64 p.u] (0, 0)) := by rw [hZ, ap_new]; rfl
 have z2 : Z[σ.size + 2]? = some (.cells 0 [.int .i64 0, .slice none 0 0] (0, 0)) := by rw [hZ, ap_new]; rfl
 have z3 : Z[σ.size + 3]? = some (.cells 0 [.int .i64 0, .int .i64 0, .int .i64 0, .int .i64 0, .int .i64 0, .int .i64 0, .bool false, .int .i64 0, .int .i64 0] (0, 0)) := by rw [hZ, ap_new]; rfl
 clear hZ
 refine appK_at (right_app (p := p)) ?_
 have pk2 : ∀ (θ : H) (x : Value), x.oneCell' = true → θ[σ.size + 2]? = some (.cells 0 [.int .i64 0, .slice none 0 0] (0, 0)) → wrN θ ⟨σ.size + 2, 0, none⟩ [.int .i64 1, x] = some (θ.setIfInBounds (σ.size + 2) (.cells 1 [.int .i64 1, x] (0, 0))) := fun θ x hx h => by
  rw [wrN_eq, if_neg (by simp), h, wrc_cells, if_pos ⟨by simp, by simp [hx]; rfl⟩]
  rfl
 have pk3 : ∀ (θ : H) (w : Int) (q : Pl) (aa : Bool) (e u : Int), θ[σ.size + 3]? = some (.cells 0 [.int .i64 0, .int .i64 0, .int .i64 0, .int .i64 0, .int .i64 0, .int .i64 0, .bool false, .int .i64 0, .int .i64 0] (0, 0)) → wrN θ ⟨σ.size + 3, 0, none⟩ (gC w q aa e u) = some (θ.setIfInBounds (σ.size + 3) (.cells 1 (gC w q aa e u) (0, 0))) := fun θ w q aa e u h => by
  rw [wrN_eq, if_neg (by simp [gC]), h, wrc_cells, if_pos ⟨by simp [gC], rfl⟩]
  rfl
 have out : ∀ (θ : H) (x : Value) (w : Int) (q : Pl) (aa : Bool) (e u : Int), θ[σ.size + 2]? = some (.cells 0 [.int .i64 0, .slice none 0 0] (0, 0)) → θ[σ.size + 3]? = some (.cells 0 [.int .i64 0, .int .i64 0, .int .i64 0, .int .i64 0, .int .i64 0, .int .i64 0, .bool false, .int .i64 0, .int .i64 0] (0, 0)) → x.oneCell' = true →
   ∃ θ', wrN θ ⟨σ.size + 2, 0, none⟩ [.int .i64 1, x] = some (θ.setIfInBounds (σ.size + 2) (.cells 1 [.int .i64 1, x] (0, 0))) ∧ wrN (θ.setIfInBounds (σ.size + 2) (.cells 1 [.int .i64 1, x] (0, 0))) ⟨σ.size + 3, 0, none⟩ (gC w q aa e u) = some θ' ∧ rdN θ' ⟨σ.size + 2, 0, none⟩ 2 = some [.int .i64 1, x] ∧ rdN θ' ⟨σ.size + 3, 0, none⟩ 9 = some (gC w q aa e u) ∧ θ' = (θ.setIfInBounds (σ.size + 2) (.cells 1 [.int .i64 1, x] (0, 0))).setIfInBounds (σ.size + 3) (.cells 1 (gC w q aa e u) (0, 0)) := fun θ x w q aa e u h2 h3 hx => by
  have h3' := (get_set_ne (k := .cells 1 [.int .i64 1, x] (0, 0)) (b := σ.size + 2) (c := σ.size + 3) (by omega)).trans h3
  exact ⟨_, pk2 θ x hx h2, pk3 _ w q aa e u h3', rdN_all ((get_set_ne (by omega)).trans (get_set h2)) rfl, rdN_all (get_set h3') rfl, rfl⟩
 have rw2 : rdN Z ⟨σ.size, 0, none⟩ 2 = some [.int .i64 1, .slice a L.length c] := rdN_all z0 rfl
 cases g1 : rightF p with
 |false =>
  have e1 : hearL L p = L := by unfold hearL; rw [if_pos g1]
  have e2 : hearG L p = gC 0 zP false 0 0 := by unfold hearG; rw [if_pos g1]
  have e3 : hearE p = 1 := by unfold hearE; rw [if_pos g1]
  rw [e1, e2, e3]
  obtain ⟨θ, q1, q2, q3, q4, q5⟩ := out Z (.slice a L.length c) 0 zP false 0 0 z2 z3 rfl
  have hz : gC 0 zP false 0 0 = [.int .i64 0, .int .i64 0, .int .i64 0, .int .i64 0, .int .i64 0, .int .i64 0, .bool false, .int .i64 0, .int .i64 0] := rfl
  rw [hz] at q2 q4
  simp only [↓eD, eZ, ↓reduceIte, Nat.reduceEqDiff, Nat.reduceAdd, Nat.reduceMul, reduceCtorEq, Nat.reduceLeDiff, Int.reduceLT, Int.reduceLE, Int.reduceToNat, Int.reduceEq, Nat.reduceLT, rw2, q1, q2, q3, q4, Bool.not_false, undef_eq]
  rw [hz]
  have oθ : Old σ θ := by rw [q5]; exact (oZ.set (by omega)).set (by omega)
  exact ⟨oθ, _, rfl, hg.old oθ⟩
 |true =>
 have z4 : List.replicate 4 (Value.int .i64 0) = [.int .i64 0, .int .i64 0, .int .i64 0, .int .i64 0] := _root_.id rfl
 obtain ⟨i, hi⟩ : ∃ i, i = idxF L p.m := ⟨_, rfl⟩
 have hil : i ≤ L.length := by rw [hi]; exact idxF_le
 have hsr := search_app (σ := Z) (n := L.length) (k := i) (f := 18) (cap := #[.pointer (some ⟨σ.size, 0, none⟩), .pointer (some ⟨σ.size + 1, 0, none⟩)]) hil (by omega) (fun j hj => by
  have := hear1_app (p := p) (i := j) z0 z1 (hL.Old oZ) hj (by omega)
  rw [← idxF_spec (m := p.m) hs j hj, ← hi] at this
  exact this)
 have rL0 : rd1 Z ⟨σ.size, 1, none⟩ = some (.slice a L.length c) := rd1_of z0 .refl rfl
 simp only [↓eD, eZ, ↓reduceIte, Nat.reduceEqDiff, Nat.reduceAdd, Nat.reduceMul, reduceCtorEq, Nat.reduceLeDiff, Int.reduceLT, Int.reduceLE, Int.reduceToNat, Int.reduceEq, Nat.reduceLT, rL0, Bool.not_true, undef_eq]
 refine appK_at hsr ?_
 have rL : ∀ M, rd1 (ap Z M) ⟨σ.size, 1, none⟩ = some (.slice a L.length c) := fun M => rd1_of z0 .ap rfl
 have rI : ∀ M, rd1 (ap Z M) ⟨σ.size, 0, none⟩ = some (.int .i64 1) := fun M => rd1_of z0 .ap rfl
 have rM : ∀ M, rd1 (ap Z M) ⟨σ.size + 1, 1, none⟩ = some (.int .i64 p.m) := fun M => rd1_of z1 .ap rfl
 have rK : ∀ M, rd1 (ap Z M) ⟨σ.size + 1, 0, none⟩ = some (.int .i64 p.k) := fun M => rd1_of z1 .ap rfl
 have rP : ∀ M, rdN (ap Z M) ⟨σ.size + 1, 0, none⟩ 5 = some [.int .i64 p.k, .int .i64 p.m, .int .i64 p.h, .int .i64 p.e, .int .i64 p.u] := fun M => rdb_of z1 .ap rfl
 have rW : ∀ M, rdN (ap Z M) ⟨σ.size, 0, none⟩ 2 = some [.int .i64 1, .slice a L.length c] := fun M => rdb_of z0 .ap rfl
 have hbig : L.length < big := Nat.lt_of_le_of_lt hn (by decide)
 obtain ⟨v1, s1, L1, _⟩ := hL.sub (lo := 0) (hi := i) (xl := none) (xh := some (.int .i64 (i : Int))) (xm := none) (by omega) hil (by omega) (.inr ⟨rfl, rfl⟩) (.inl rfl) (.inl rfl)
 rw [List.drop_zero] at L1
 have hcase : (∃ h : i < L.length, L[i].m = p.m) ∨ (∃ h : i < L.length, L[i].m ≠ p.m) ∨ i = L.length := by
  by_cases h : i < L.length
  ·by_cases h' : L[i].m = p.m
   ·exact .inl ⟨h, h'⟩
   ·exact .inr (.inl ⟨h, h'⟩)
  ·exact .inr (.inr (by omega))
 have e64 : decide (64 ≤ (L.length : Int)) = false := by rw [decide_eq_false]; omega
 obtain ⟨K, hK⟩ : ∃ K, K = knownF L p.m := ⟨_, rfl⟩
 obtain ⟨k0, hk0⟩ : ∃ k0, k0 = keptF L p.m := ⟨_, rfl⟩
 have eL : ¬(K = false ∧ p.k = 2) → hearL L p = (L.take i ++ k0 :: L.drop (i + (if K = true then 1 else 0))).set i (newK k0 p) := fun h => by
  unfold hearL
  rw [if_neg (by rw [g1]; simp), ← hK, if_neg h, ← hi, ← hk0]
 have eG : ¬(K = false ∧ p.k = 2) → hearG L p = gC 1 p (agrF (takeE k0 p) p) (newK k0 p).e (newK k0 p).u := fun h => by
  unfold hearG
  rw [if_neg (by rw [g1]; simp), ← hK, if_neg h, ← hk0]
 have eE : hearE p = 0 := by unfold hearE; rw [if_neg (by rw [g1]; simp)]
 have eL2 : K = false ∧ p.k = 2 → hearL L p = L := fun h => by unfold hearL; rw [if_neg (by rw [g1]; simp), ← hK, if_pos h]
 have eG2 : K = false ∧ p.k = 2 → hearG L p = gC 1 p false 0 0 := fun h => by unfold hearG; rw [if_neg (by rw [g1]; simp), ← hK, if_pos h]
 rw [eE]
 rw [← ap_nil (σ := Z)]
 have hgc : gC 1 p false 0 0 = [.int .i64 1, .int .i64 p.k, .int .i64 p.m, .int .i64 p.h, .int .i64 p.e, .int .i64 p.u, .bool false, .int .i64 0, .int .i64 0] := rfl
 have hHS0 : HS σ Z.size (ap Z [.cells 1 (gC 1 p false 0 0) (0, 0), .cells 1 (kC ⟨p.m, 0, 0, 0⟩) (0, 0), .cells 0 [] (0, 0)]) (.slice a L.length c) p ⟨p.m, 0, 0, 0⟩ (gC 1 p false 0 0) :=
  ⟨sZ, oZ.trans .ap, by rw [ap_size]; simp, (ap_old (by omega)).trans z0, (ap_old (by omega)).trans z1, (ap_old (by omega)).trans z2, (ap_old (by omega)).trans z3, ⟨1, by rw [ap_new0]; rfl⟩, 1, by rw [ap_new]; rfl⟩
 have hs2 : (sized (Z.size + 2)).size = Z.size + 2 := sized_size
 have g0 : Grown (sized (Z.size + 2)) (ap Z [.cells 1 (gC 1 p false 0 0) (0, 0), .cells 1 (kC ⟨p.m, 0, 0, 0⟩) (0, 0), .cells 0 [] (0, 0)]) 4 (.slice (some ⟨Z.size + 2, 0, none⟩) 0 0) [] 0 := Grown.lit (ver := 0) rfl (by decide) (by omega) (by rw [ap_new]; rfl)
 obtain ⟨u1, Y1, ha1, A1⟩ := append_grown (bytes := 32) g0 (by omega) (by rw [hs2, ap_size]; simp) (L1.Old hHS0.o).x kp_flat kp_ones (by rw [List.length_take]; omega) (by omega)
 have hH1 := hHS0.app g0 A1
 have gY1 := A1.grown
 rw [List.nil_append, Nat.zero_add] at gY1
 clear A1 g0 hHS0
 have kCz : kC ⟨p.m, 0, 0, 0⟩ = [.int .i64 p.m, .int .i64 0, .int .i64 0, .int .i64 0] := rfl
 rw [hgc, kCz] at ha1
 obtain ⟨ua, uc, rfl⟩ := gY1.slice
 rcases hcase with ⟨hlt, hm⟩ | ⟨hlt, hm⟩ | hie
 case' inl =>
  have e8 : decide ((i : Int) < (L.length : Int)) = true := by rw [decide_eq_true]; omega
  have hb : (0 : Int) ≤ (i : Int) ∧ (i : Int) < (L.length : Int) := by omega
  obtain ⟨b, o, rfl, hr⟩ := (hL.Old oZ).at hlt
  have r3 : ∀ M, rd1 (ap Z M) ⟨b, o + i * 4, none⟩ = some (.int .i64 L[i].m) := fun M => rd1_old (rd1_row hr (j := 0) rfl)
  have em : decide (L[i].m = p.m) = true := decide_eq_true hm
  have hKt : K = true := by
   rw [hK]; unfold knownF
   rw [← hi, List.getElem?_eq_getElem hlt]
   exact decide_eq_true hm
  have hkk : k0 = L[i] := by
   rw [hk0]; unfold keptF
   rw [← hi, List.getElem?_eq_getElem hlt]
   exact if_pos hm
  have nk2 : ¬(K = false ∧ p.k = 2) := fun h => by rw [hKt] at h; cases h.1
  simp only [z4, ↓eD, eZ, ↓reduceIte, Nat.reduceEqDiff, Nat.reduceAdd, Nat.reduceMul, reduceCtorEq, Nat.reduceLeDiff, Int.reduceLT, Int.reduceLE, Int.reduceToNat, Int.reduceEq, Nat.reduceLT, rL, rI, rM, rK, rP, e8, hb, Int.toNat_natCast, r3, em, s1, Bool.not_true, undef_eq]
  refine onV_of ha1 ?_
  have q0 : ∀ M, rd1 (ap Y1 M) ⟨σ.size, 1, none⟩ = some (.slice (some ⟨b, o, none⟩) L.length c) := fun M => rd1_of hH1.y0 .ap rfl
  obtain ⟨b', o', he', hr'⟩ := (hL.Old hH1.o).at hlt
  injection he' with he'
  injection he' with he1 he2
  subst he1 he2
  have q4 : ∀ M, rdN (ap Y1 M) ⟨b, o + i * 4, none⟩ 4 = some [.int .i64 L[i].m, .int .i64 L[i].e, .int .i64 L[i].h, .int .i64 L[i].u] := fun M => rdN_old hr'
  obtain ⟨v5, y5⟩ := hH1.y5
  have qw : wrN Y1 ⟨Z.size + 1, 0, none⟩ [.int .i64 L[i].m, .int .i64 L[i].e, .int .i64 L[i].h, .int .i64 L[i].u] = some (Y1.setIfInBounds (Z.size + 1) (.cells (v5 + 1) (kC L[i]) (0, 0))) := by
   rw [wrN_eq, if_neg (by simp), y5, wrc_cells, if_pos ⟨by simp [kC], rfl⟩]
   rfl
  have hH2 := hH1.put5 (v := v5 + 1) (k1 := L[i])
  have gY2 := gY1.set (b := Z.size + 1) (k := .cells (v5 + 1) (kC L[i]) (0, 0)) (by omega)
  obtain ⟨Y2, hY2⟩ : ∃ Y2, Y2 = Y1.setIfInBounds (Z.size + 1) (.cells (v5 + 1) (kC L[i]) (0, 0)) := ⟨_, rfl⟩
  rw [← hY2] at hH2 gY2 qw
  have x5 : Y2[Z.size + 1]? = some (.cells (v5 + 1) (kC L[i]) (0, 0)) := by rw [hY2]; exact get_set y5
  clear hY2
  obtain ⟨v2, s2, L2, _⟩ := hL.sub (lo := i + 1) (hi := L.length) (xl := some (.int .i64 ((i + 1 : Nat) : Int))) (xh := none) (xm := none) (by omega) (by omega) (by omega) (.inl rfl) (.inr ⟨rfl, rfl, rfl⟩) (.inl rfl)
  rw [List.take_length] at L2
  obtain ⟨u2, Y3, u3, Y4, ap1, ap2, hH3, hH4, gN, ⟨u2a, u2c, hu2⟩⟩ := two_app hH2 gY2 L2 (by rw [List.length_take, List.length_drop]; omega)
  have qw2 : ∀ M, rd1 (ap Y2 M) ⟨σ.size, 1, none⟩ = some (.slice (some ⟨b, o, none⟩) L.length c) := fun M => rd1_of hH2.y0 .ap rfl
  have q5 : ∀ M, rdN (ap Y2 M) ⟨Z.size + 1, 0, none⟩ 4 = some [.int .i64 L[i].m, .int .i64 L[i].e, .int .i64 L[i].h, .int .i64 L[i].u] := fun M => rdb_of x5 .ap rfl
  have wi : IntKind.wrap .i64 ((i : Int) + 1) = ((i + 1 : Nat) : Int) := by rw [wrap64' (by omega) (by omega)]; omega
  have kCe : kC L[i] = [.int .i64 L[i].m, .int .i64 L[i].e, .int .i64 L[i].h, .int .i64 L[i].u] := rfl
  rw [kCe] at ap1
  rw [← ap_nil (σ := Y1)] at qw ⊢
  simp only [z4, ↓eD, eZ, ↓reduceIte, Nat.reduceEqDiff, Nat.reduceAdd, Nat.reduceMul, reduceCtorEq, Nat.reduceLeDiff, Int.reduceLT, Int.reduceLE, Int.reduceToNat, Int.reduceEq, Nat.reduceLT, q0, q4, hb, Int.toNat_natCast, qw, undef_eq]
  rw [← ap_nil (σ := Y2)]
  simp only [z4, ↓eD, eZ, ↓reduceIte, Nat.reduceEqDiff, Nat.reduceAdd, Nat.reduceMul, reduceCtorEq, Nat.reduceLeDiff, Int.reduceLT, Int.reduceLE, Int.reduceToNat, Int.reduceEq, Nat.reduceLT, qw2, q5, wi, s2, undef_eq]
  subst hu2
  refine onV_of ap1 ?_
  have q6 : rd1 Y3 ⟨σ.size, 1, none⟩ = some (.slice (some ⟨b, o, none⟩) L.length c) := rd1_of hH3.y0 .refl rfl
  simp only [↓eD, eZ, ↓reduceIte, Nat.reduceEqDiff, Nat.reduceAdd, Nat.reduceMul, reduceCtorEq, Nat.reduceLeDiff, Int.reduceLT, Int.reduceLE, Int.reduceToNat, Int.reduceEq, Nat.reduceLT, q6, wi, s2, undef_eq]
  refine onV_of ap2 ?_
  have nB : L.drop (i + 1) = L.drop (i + (if K = true then 1 else 0)) := by rw [hKt]; rfl
  have hkC : kC L[i] = kC k0 := by rw [hkk]
  rw [← hkk] at hH4
  rw [← hkk, nB] at gN
 case' inr.inl =>
  have e8 : decide ((i : Int) < (L.length : Int)) = true := by rw [decide_eq_true]; omega
  have hb : (0 : Int) ≤ (i : Int) ∧ (i : Int) < (L.length : Int) := by omega
  obtain ⟨b, o, rfl, hr⟩ := (hL.Old oZ).at hlt
  have r3 : ∀ M, rd1 (ap Z M) ⟨b, o + i * 4, none⟩ = some (.int .i64 L[i].m) := fun M => rd1_old (rd1_row hr (j := 0) rfl)
  have em : decide (L[i].m = p.m) = false := decide_eq_false hm
  have hKt : K = false := by
   rw [hK]; unfold knownF
   rw [← hi, List.getElem?_eq_getElem hlt]
   exact decide_eq_false hm
  have hkk : k0 = ⟨p.m, 0, 0, 0⟩ := by
   rw [hk0]; unfold keptF
   rw [← hi, List.getElem?_eq_getElem hlt]
   exact if_neg hm
  simp only [z4, ↓eD, eZ, ↓reduceIte, Nat.reduceEqDiff, Nat.reduceAdd, Nat.reduceMul, reduceCtorEq, Nat.reduceLeDiff, Int.reduceLT, Int.reduceLE, Int.reduceToNat, Int.reduceEq, Nat.reduceLT, rL, e8, hb, Int.toNat_natCast, r3, rM, em, undef_eq]
 case' inr.inr =>
  have e8 : decide ((i : Int) < (L.length : Int)) = false := by rw [decide_eq_false]; omega
  have hKt : K = false := by
   rw [hK]; unfold knownF
   rw [← hi, List.getElem?_eq_none (by omega)]
  have hkk : k0 = ⟨p.m, 0, 0, 0⟩ := by
   rw [hk0]; unfold keptF
   rw [← hi, List.getElem?_eq_none (by omega)]
  simp only [z4, ↓eD, eZ, ↓reduceIte, Nat.reduceEqDiff, Nat.reduceAdd, Nat.reduceMul, reduceCtorEq, Nat.reduceLeDiff, Int.reduceLT, Int.reduceLE, Int.reduceToNat, Int.reduceEq, Nat.reduceLT, rL, e8, undef_eq]
 case' inr.inl | inr.inr =>
  obtain ⟨aa, hL', hg', rL', rW', hH', ha'⟩ : ∃ aa, Lk σ (.slice aa L.length c) L ∧ Grown σ0 σ 4 (.slice aa L.length c) (L.map kC).flatten L.length ∧ (∀ M, rd1 (ap Z M) ⟨σ.size, 1, none⟩ = some (.slice aa L.length c)) ∧ (∀ M, rdN (ap Z M) ⟨σ.size, 0, none⟩ 2 = some [.int .i64 1, .slice aa L.length c]) ∧ HS σ Z.size Y1 (.slice aa L.length c) p ⟨p.m, 0, 0, 0⟩ (gC 1 p false 0 0) ∧ sliceV 4 (.slice aa L.length c) none (some (.int .i64 (i : Int))) none = some v1 := ⟨_, hL, hg, rL, rW, hH1, s1⟩
  by_cases hk2 : p.k = 2
  ·have d2 : decide (p.k = 2) = true := decide_eq_true hk2
   have oZ1 : Old σ (ap Z [.cells 1 (gC 1 p false 0 0) (0, 0)]) := oZ.trans .ap
   obtain ⟨θ, q1, q2, q3, q4, q5⟩ := out (ap Z [.cells 1 (gC 1 p false 0 0) (0, 0)]) (.slice aa L.length c) 1 p false 0 0 ((ap_old (by omega)).trans z2) ((ap_old (by omega)).trans z3) rfl
   have oθ : Old σ θ := by rw [q5]; exact (oZ1.set (by omega)).set (by omega)
   have y8 : (ap Z [.cells 1 (gC 1 p false 0 0) (0, 0)])[Z.size]? = some (.cells 1 (gC 1 p false 0 0) (0, 0)) := ap_new0
   have rG : rdN (ap Z [.cells 1 (gC 1 p false 0 0) (0, 0)]) ⟨Z.size, 0, none⟩ 9 = some (gC 1 p false 0 0) := rdb_of y8 .refl rfl
   have rG2 : ∀ (k : Blk), rdN ((ap Z [.cells 1 (gC 1 p false 0 0) (0, 0)]).setIfInBounds (σ.size + 2) k) ⟨Z.size, 0, none⟩ 9 = some (gC 1 p false 0 0) := fun (k : Blk) => rdb_of ((get_set_ne (k := k) (b := σ.size + 2) (c := Z.size) (by omega)).trans y8) .refl rfl
   have hpost : ∃ u, Value.tuple #[.agg #[.int .i64 1, .slice aa L.length c], .agg (gC 1 p false 0 0).toArray, .int .i64 0] = .tuple #[.agg #[.int .i64 1, u], .agg (gC 1 p false 0 0).toArray, .int .i64 0] ∧ Grown σ0 θ 4 u (L.map kC).flatten L.length := ⟨_, rfl, hg'.old oθ⟩
   clear y8 q5
   rw [eL2 ⟨hKt, hk2⟩, eG2 ⟨hKt, hk2⟩]
   rw [hgc] at q1 q2 q4 rG rG2 hpost ⊢
   simp only [z4, ↓eD, eZ, ↓reduceIte, Nat.reduceEqDiff, Nat.reduceAdd, Nat.reduceMul, reduceCtorEq, Nat.reduceLeDiff, Int.reduceLT, Int.reduceLE, Int.reduceToNat, Int.reduceEq, Nat.reduceLT, rL', rW', rI, rP, rK, e64, d2, Bool.not_false, rG, rG2, q1, q2, q3, q4, undef_eq]
   exact ⟨oθ, hpost⟩
  have d2 : decide (p.k = 2) = false := decide_eq_false hk2
  have nk2 : ¬(K = false ∧ p.k = 2) := fun h => hk2 h.2
  have q0 : ∀ M, rd1 (ap Y1 M) ⟨σ.size, 1, none⟩ = some (.slice aa L.length c) := fun M => rd1_of hH'.y0 .ap rfl
  obtain ⟨v2, s2, L2, _⟩ := hL'.sub (lo := i) (hi := L.length) (xl := some (.int .i64 (i : Int))) (xh := none) (xm := none) (by omega) (by omega) (by omega) (.inl rfl) (.inr ⟨rfl, rfl, rfl⟩) (.inl rfl)
  rw [List.take_length] at L2
  obtain ⟨u2, Y3, u3, Y4, ap1, ap2, hH3, hH4, gN, ⟨u2a, u2c, hu2⟩⟩ := two_app hH' gY1 L2 (by rw [List.length_take, List.length_drop]; omega)
  have q5 : ∀ M, rdN (ap Y1 M) ⟨Z.size + 1, 0, none⟩ 4 = some [.int .i64 p.m, .int .i64 0, .int .i64 0, .int .i64 0] := fun M => by
   obtain ⟨v, h⟩ := hH'.y5
   exact rdb_of h .ap rfl
  have q6 : rd1 Y3 ⟨σ.size, 1, none⟩ = some (.slice aa L.length c) := rd1_of hH3.y0 .refl rfl
  rw [kCz] at ap1
  subst hu2
  have nB : L.drop i = L.drop (i + (if K = true then 1 else 0)) := by rw [hKt]; rfl
  rw [← hkk] at hH4
  rw [← hkk, nB] at gN
  simp only [z4, ↓eD, eZ, ↓reduceIte, Nat.reduceEqDiff, Nat.reduceAdd, Nat.reduceMul, reduceCtorEq, Nat.reduceLeDiff, Int.reduceLT, Int.reduceLE, Int.reduceToNat, Int.reduceEq, Nat.reduceLT, rL', rI, rM, rK, rP, e64, d2, ha', Bool.not_false, undef_eq]
  refine onV_of ha1 ?_
  rw [← ap_nil (σ := Y1)]
  simp only [z4, ↓eD, eZ, ↓reduceIte, Nat.reduceEqDiff, Nat.reduceAdd, Nat.reduceMul, reduceCtorEq, Nat.reduceLeDiff, Int.reduceLT, Int.reduceLE, Int.reduceToNat, Int.reduceEq, Nat.reduceLT, q0, q5, s2, undef_eq]
  refine onV_of ap1 ?_
  simp only [↓eD, eZ, ↓reduceIte, Nat.reduceEqDiff, Nat.reduceAdd, Nat.reduceMul, reduceCtorEq, Nat.reduceLeDiff, Int.reduceLT, Int.reduceLE, Int.reduceToNat, Int.reduceEq, Nat.reduceLT, q6, s2, undef_eq]
  refine onV_of ap2 ?_
  simp only [↓eD, eZ, ↓reduceIte, Nat.reduceEqDiff, Nat.reduceAdd, Nat.reduceMul, reduceCtorEq, Nat.reduceLeDiff, Int.reduceLT, Int.reduceLE, Int.reduceToNat, Int.reduceEq, Nat.reduceLT, undef_eq]
 all_goals
  have hml : (L.take i).length = i := by rw [List.length_take]; omega
  obtain ⟨N, hN⟩ : ∃ N, N = L.take i ++ k0 :: L.drop (i + (if K = true then 1 else 0)) := ⟨_, rfl⟩
  rw [← hN] at gN
  have hNl : i < N.length := by rw [hN, List.length_append, List.length_cons, hml]; omega
  have hNt : N.length ≤ 20 := by rw [hN, List.length_append, List.length_cons, hml, List.length_drop]; omega
  rw [eL nk2, eG nk2, ← hN]
  obtain ⟨ub, uc3, hu3⟩ : ∃ ub uc3, u3 = .slice (some ⟨ub, 0, none⟩) N.length uc3 := by
   obtain ⟨_, _, ⟨h3, _⟩ | ⟨b', ver, cap, h4, h5, h6, h7⟩⟩ := gN
   ·omega
   ·exact ⟨_, _, h6⟩
  subst hu3
  have hS1 : ThreeA (p.k = 1 ∧ k0.e < p.e) (p.k = 1 ∧ ¬k0.e < p.e) (p.k ≠ 1) := by
   by_cases a : p.k = 1
   ·by_cases b : k0.e < p.e
    ·exact .ta ⟨a, b⟩
    ·exact .tb ⟨a, b⟩
   ·exact .tc a
  obtain ⟨k1, hk1⟩ : ∃ k1, k1 = takeE k0 p := ⟨_, rfl⟩
  rw [← hk1]
  have hnk : newK k0 p = if agrF k1 p = true then ⟨k1.m, k1.e, k1.h, if k1.u < p.u then p.u else k1.u⟩ else k1 := by unfold newK; rw [← hk1]
  obtain ⟨pk, ph, pe, pu⟩ := hH4.p
  obtain ⟨ke, kh, ku, kr⟩ := hH4.k
  rcases hS1 with ⟨a1, a2⟩ | ⟨a1, a2⟩ | a1
  case' ta =>
   have d1 : decide (p.k = 1) = true := decide_eq_true a1
   have d2 : decide (k0.e < p.e) = true := decide_eq_true a2
   have ht : ⟨k0.m, p.e, p.h, k0.u⟩ = k1 := by rw [hk1]; exact (if_pos ⟨a1, a2⟩).symm
   obtain ⟨v1, w1, hH5⟩ := hH4.wk (i := 1) (x := .int .i64 p.e) (k1 := ⟨k0.m, p.e, k0.h, k0.u⟩) (by omega) rfl rfl
   obtain ⟨v2, w2, hH6⟩ := hH5.wk (i := 2) (x := .int .i64 p.h) (k1 := k1) (by omega) rfl (by rw [← ht]; rfl)
   have gN1 := (gN.set (b := Z.size + 1) (k := .cells v1 (kC ⟨k0.m, p.e, k0.h, k0.u⟩) (0, 0)) (by omega)).set (b := Z.size + 1) (k := .cells v2 (kC k1) (0, 0)) (by omega)
   have ph5 := hH5.p.2.1
   obtain ⟨Y6, hY6⟩ : ∃ Y6, Y6 = ((Y4.setIfInBounds (Z.size + 1) (.cells v1 (kC ⟨k0.m, p.e, k0.h, k0.u⟩) (0, 0))).setIfInBounds (Z.size + 1) (.cells v2 (kC k1) (0, 0))) := ⟨_, rfl⟩
   rw [← hY6] at w2 hH6 gN1
   simp only [↓eD, eZ, ↓reduceIte, Nat.reduceEqDiff, Nat.reduceAdd, Nat.reduceMul, reduceCtorEq, Nat.reduceLeDiff, Int.reduceLT, Int.reduceLE, Int.reduceToNat, Int.reduceEq, Nat.reduceLT, pk, pe, ph, ph5, ke, d1, d2, w1, w2, undef_eq]
   clear w1 w2 hH5 ph5 hY6
  case' tb =>
   have d1 : decide (p.k = 1) = true := decide_eq_true a1
   have d2 : decide (k0.e < p.e) = false := decide_eq_false a2
   have ht : k0 = k1 := by rw [hk1]; exact (if_neg fun h => a2 h.2).symm
   have gN1 := gN
   have hH6 := hH4
   rw [ht] at hH6 d2 ke kh
   simp only [↓eD, eZ, ↓reduceIte, Nat.reduceEqDiff, Nat.reduceAdd, Nat.reduceMul, reduceCtorEq, Nat.reduceLeDiff, Int.reduceLT, Int.reduceLE, Int.reduceToNat, Int.reduceEq, Nat.reduceLT, pk, pe, ph, ke, d1, d2, undef_eq]
  case' tc =>
   have d1 : decide (p.k = 1) = false := decide_eq_false a1
   have ht : k0 = k1 := by rw [hk1]; exact (if_neg fun h => a1 h.1).symm
   have gN1 := gN
   have hH6 := hH4
   rw [ht] at hH6 ke kh
   simp only [↓eD, eZ, ↓reduceIte, Nat.reduceEqDiff, Nat.reduceAdd, Nat.reduceMul, reduceCtorEq, Nat.reduceLeDiff, Int.reduceLT, Int.reduceLE, Int.reduceToNat, Int.reduceEq, Nat.reduceLT, pk, pe, ph, ke, d1, undef_eq]
  all_goals
   clear pk ph pe pu ke kh ku kr d1
   clear hH4 gN
   obtain ⟨pk, ph, pe, pu⟩ := hH6.p
   obtain ⟨ke, kh, ku, kr⟩ := hH6.k
   obtain ⟨ag, hag⟩ : ∃ ag, ag = agrF k1 p := ⟨_, rfl⟩
   rw [← hag] at hnk ⊢
   have hS2 : ThreeB (k1.e = p.e ∧ k1.h = p.h) (k1.e = p.e ∧ ¬k1.h = p.h) (¬k1.e = p.e) := by
    by_cases a : k1.e = p.e
    ·by_cases b : k1.h = p.h
     ·exact .ba ⟨a, b⟩
     ·exact .bb ⟨a, b⟩
    ·exact .bc a
   rcases hS2 with ⟨a1, a2⟩ | ⟨a1, a2⟩ | a1
   case' ba =>
    have d1 : decide (k1.e = p.e) = true := decide_eq_true a1
    have d2 : decide (k1.h = p.h) = true := decide_eq_true a2
    have ha : ag = true := by rw [hag]; unfold agrF; rw [d1, d2]; rfl
    rw [ha] at hnk
    rw [if_pos rfl] at hnk
    obtain ⟨v3, w3, hH7⟩ := hH6.wg (i := 6) (x := .bool true) (g' := gC 1 p ag 0 0) (by simp [gC]) rfl (by rw [ha]; rfl)
    have gN2 := gN1.set (b := Z.size) (k := .cells v3 (gC 1 p ag 0 0) (0, 0)) (by omega)
    obtain ⟨v4, w4, hH8⟩ := hH7.wk (i := 3) (x := .int .i64 (if k1.u < p.u then p.u else k1.u)) (k1 := newK k0 p) (by omega) rfl (by rw [hnk]; rfl)
    have gN3 := gN2.set (b := Z.size + 1) (k := .cells v4 (kC (newK k0 p)) (0, 0)) (by omega)
    obtain ⟨v4', y4'⟩ := hH7.y4
    have r6 := rd1_of (k := 6) (x := .bool true) y4' .refl (by rw [ha]; rfl)
    simp only [↓eD, eZ, ↓reduceIte, Nat.reduceEqDiff, Nat.reduceAdd, Nat.reduceMul, reduceCtorEq, Nat.reduceLeDiff, Int.reduceLT, Int.reduceLE, Int.reduceToNat, Int.reduceEq, Nat.reduceLT, pe, ph, pu, ke, kh, ku, hH7.p.2.2.2, hH7.k.2.2.1, d1, d2, w3, w4, r6, minV, undef_eq]
   case' bb =>
    have d1 : decide (k1.e = p.e) = true := decide_eq_true a1
    have d2 : decide (k1.h = p.h) = false := decide_eq_false a2
    have ha : ag = false := by rw [hag]; unfold agrF; rw [d1, d2]; rfl
    rw [ha] at hnk
    rw [if_neg (by simp)] at hnk
    obtain ⟨v3, w3, hH7⟩ := hH6.wg (i := 6) (x := .bool false) (g' := gC 1 p ag 0 0) (by simp [gC]) rfl (by rw [ha]; rfl)
    have gN3 := gN1.set (b := Z.size) (k := .cells v3 (gC 1 p ag 0 0) (0, 0)) (by omega)
    obtain ⟨v4', y4'⟩ := hH7.y4
    have r6 := rd1_of (k := 6) (x := .bool false) y4' .refl (by rw [ha]; rfl)
    have hH8 := hH7
    rw [← hnk] at hH8
    simp only [↓eD, eZ, ↓reduceIte, Nat.reduceEqDiff, Nat.reduceAdd, Nat.reduceMul, reduceCtorEq, Nat.reduceLeDiff, Int.reduceLT, Int.reduceLE, Int.reduceToNat, Int.reduceEq, Nat.reduceLT, pe, ph, pu, ke, kh, ku, hH7.p.2.2.2, hH7.k.2.2.1, d1, d2, w3, r6, undef_eq]
   case' bc =>
    have d1 : decide (k1.e = p.e) = false := decide_eq_false a1
    have ha : ag = false := by rw [hag]; unfold agrF; rw [d1]; rfl
    rw [ha] at hnk
    rw [if_neg (by simp)] at hnk
    obtain ⟨v3, w3, hH7⟩ := hH6.wg (i := 6) (x := .bool false) (g' := gC 1 p ag 0 0) (by simp [gC]) rfl (by rw [ha]; rfl)
    have gN3 := gN1.set (b := Z.size) (k := .cells v3 (gC 1 p ag 0 0) (0, 0)) (by omega)
    obtain ⟨v4', y4'⟩ := hH7.y4
    have r6 := rd1_of (k := 6) (x := .bool false) y4' .refl (by rw [ha]; rfl)
    have hH8 := hH7
    rw [← hnk] at hH8
    simp only [↓eD, eZ, ↓reduceIte, Nat.reduceEqDiff, Nat.reduceAdd, Nat.reduceMul, reduceCtorEq, Nat.reduceLeDiff, Int.reduceLT, Int.reduceLE, Int.reduceToNat, Int.reduceEq, Nat.reduceLT, pe, ph, pu, ke, kh, ku, hH7.p.2.2.2, hH7.k.2.2.1, d1, w3, r6, undef_eq]
   all_goals
    clear pk ph pe pu ke kh ku kr d1 r6 w3 y4' hH6 hH7 gN1
    obtain ⟨k2, hk2⟩ : ∃ k2, k2 = newK k0 p := ⟨_, rfl⟩
    rw [← hk2] at hH8 ⊢
    try rw [← hk2] at gN3
    obtain ⟨ke, kh, ku, kr⟩ := hH8.k
    obtain ⟨v5, w5, hH9⟩ := hH8.wg (i := 7) (x := .int .i64 k2.e) (g' := gC 1 p ag k2.e 0) (by simp [gC]) rfl rfl
    obtain ⟨v6, w6, hHa⟩ := hH9.wg (i := 8) (x := .int .i64 k2.u) (g' := gC 1 p ag k2.e k2.u) (by simp [gC]) rfl rfl
    have gN4 := (gN3.set (b := Z.size) (k := .cells v5 (gC 1 p ag k2.e 0) (0, 0)) (by omega)).set (b := Z.size) (k := .cells v6 (gC 1 p ag k2.e k2.u) (0, 0)) (by omega)
    obtain ⟨Yb, w7, hub, hkb, gN5⟩ := grown_put (k := k2) gN4 hNl
    have hHb := hHa.keep (Y' := Yb) hub (fun c k hc hk => hkb c k (by omega) hk)
    have hbN : (0 : Int) ≤ (i : Int) ∧ (i : Int) < (N.length : Int) := by omega
    obtain ⟨v8, y8⟩ := hHb.y4
    have rI2 := rd1_of (k := 0) (x := .int .i64 1) hHb.y0 .refl rfl
    obtain ⟨θ, q1, q2, q3, q4, q5⟩ := out _ (.slice (some ⟨ub, 0, none⟩) N.length uc3) 1 p ag k2.e k2.u hHb.y2 hHb.y3 rfl
    have hgL : gC 1 p ag k2.e k2.u = [.int .i64 1, .int .i64 p.k, .int .i64 p.m, .int .i64 p.h, .int .i64 p.e, .int .i64 p.u, .bool ag, .int .i64 k2.e, .int .i64 k2.u] := rfl
    have rG : rdN Yb ⟨Z.size, 0, none⟩ 9 = some [.int .i64 1, .int .i64 p.k, .int .i64 p.m, .int .i64 p.h, .int .i64 p.e, .int .i64 p.u, .bool ag, .int .i64 k2.e, .int .i64 k2.u] := rdb_of y8 .refl rfl
    have rG2 : ∀ (k : Blk), rdN (Yb.setIfInBounds (σ.size + 2) k) ⟨Z.size, 0, none⟩ 9 = some [.int .i64 1, .int .i64 p.k, .int .i64 p.m, .int .i64 p.h, .int .i64 p.e, .int .i64 p.u, .bool ag, .int .i64 k2.e, .int .i64 k2.u] := fun (k : Blk) => rdb_of ((get_set_ne (k := k) (b := σ.size + 2) (c := Z.size) (by omega)).trans y8) .refl rfl
    have gN6 := ((gN5.set (b := σ.size + 2) (k := .cells 1 [.int .i64 1, .slice (some ⟨ub, 0, none⟩) N.length uc3] (0, 0)) (by omega)).set (b := σ.size + 3) (k := .cells 1 (gC 1 p ag k2.e k2.u) (0, 0)) (by omega)).from (σ0 := σ0) (by omega)
    have oθ : Old σ θ := by rw [q5]; exact (hHb.o.set (by omega)).set (by omega)
    rw [← q5] at gN6
    have hpost : ∃ u, Value.tuple #[.agg #[.int .i64 1, .slice (some ⟨ub, 0, none⟩) N.length uc3], .agg (gC 1 p ag k2.e k2.u).toArray, .int .i64 0] = .tuple #[.agg #[.int .i64 1, u], .agg (gC 1 p ag k2.e k2.u).toArray, .int .i64 0] ∧ Grown σ0 θ 4 u ((N.set i k2).map kC).flatten (N.set i k2).length := ⟨_, rfl, by rw [List.length_set] at gN6; rw [List.length_set]; exact gN6⟩
    rw [hgL] at q2 q4 hpost ⊢
    simp only [↓eD, eZ, ↓reduceIte, Nat.reduceEqDiff, Nat.reduceAdd, Nat.reduceMul, reduceCtorEq, Nat.reduceLeDiff, Int.reduceLT, Int.reduceLE, Int.reduceToNat, Int.reduceEq, Nat.reduceLT, ke, ku, hH9.k.2.2.1, w5, w6, hHa.k.2.2.2, hbN, Int.toNat_natCast, Nat.zero_add, w7, rI2, rG, rG2, q1, q2, q3, q4, undef_eq]
    exact ⟨oθ, hpost⟩
end Go.Proofs.YtiipnbnkikmlgaaGreatDoor
