/- Walks of the functions that the claim reaches. Conditions: none. -/
import Derived.Test.YtiipnbnkikmlgaaGreatDoorUb
set_option linter.all false
set_option maxRecDepth 10000
set_option maxHeartbeats 4000000
namespace Go.Proofs.YtiipnbnkikmlgaaGreatDoor
open Go Go.Cn Go.RowKit
attribute [local irreducible] evL sem onG onI onV
def Few (m : Int) (L : List Kp) : Prop := L = [] ∨ ∃ k, L = [k] ∧ k.m = m
theorem Few.length {m : Int} {L : List Kp} (h : Few m L) : L.length ≤ 1 := by
 rcases h with rfl | ⟨k, rfl, _⟩ <;> simp
theorem newK_m {k : Kp} {p : Pl} : (newK k p).m = k.m := by
 unfold newK takeE
 split <;> split <;> rfl
theorem Few.sorted {A B : List Kp} (h1 : Few 1 A) (h2 : Few 2 B) : (A ++ B).Pairwise (fun a b => a.m < b.m) := by
 rcases h1 with rfl | ⟨k, rfl, hk⟩ <;> rcases h2 with rfl | ⟨j, rfl, hj⟩ <;> simp <;> omega
theorem Few.sort {m : Int} {A : List Kp} (h1 : Few m A) : A.Pairwise (fun a b => a.m < b.m) := by
 rcases h1 with rfl | ⟨k, rfl, hk⟩ <;> simp
theorem hear_one {A B : List Kp} {p : Pl} (h1 : Few 1 A) (h2 : Few 2 B) (hp : p.m = 1) : hearL (A ++ B) p = hearL A p ++ B ∧ hearG (A ++ B) p = hearG A p ∧ Few 1 (hearL A p) := by
 by_cases hr : rightF p = false
 ·simp only [hearL, hearG, if_pos hr, h1, and_self]
 have e : idxF (A ++ B) p.m = 0 ∧ idxF A p.m = 0 ∧ knownF (A ++ B) p.m = knownF A p.m ∧ keptF (A ++ B) p.m = keptF A p.m ∧ (keptF A p.m).m = 1 := by
  rw [hp]
  rcases h1 with rfl | ⟨k, rfl, hk⟩ <;> rcases h2 with rfl | ⟨j, rfl, hj⟩ <;> simp [idxF, knownF, keptF, *]
 obtain ⟨e1, e2, e3, e4, e5⟩ := e
 have hk : knownF A p.m = true → ∃ k, A = [k] := fun h => by
  rcases h1 with rfl | ⟨k, rfl, hk⟩
  ·simp [knownF] at h
  ·exact ⟨k, rfl⟩
 have hk2 : knownF A p.m = false → A = [] := fun h => by
  rcases h1 with rfl | ⟨k, rfl, hkm⟩
  ·rfl
  ·rw [hp] at h
   simp [knownF, idxF, hkm] at h
 simp only [hearL, hearG, if_neg hr, e1, e2, e3, e4]
 by_cases c : knownF A p.m = false ∧ p.k = 2
 ·simp only [if_pos c, h1, and_self]
 ·simp only [if_neg c]
  refine ⟨?_, trivial, .inr ?_⟩
  ·cases g : knownF A p.m with
   |true => obtain ⟨k, rfl⟩ := hk g; rfl
   |false => obtain rfl := hk2 g; rfl
  ·cases g : knownF A p.m with
   |true =>
    obtain ⟨k, rfl⟩ := hk g
    exact ⟨_, rfl, by rw [newK_m]; exact e5⟩
   |false =>
    obtain rfl := hk2 g
    exact ⟨_, rfl, by rw [newK_m]; exact e5⟩
theorem hear_two {A B : List Kp} {p : Pl} (h1 : Few 1 A) (h2 : Few 2 B) (hp : p.m = 2) : hearL (A ++ B) p = A ++ hearL B p ∧ hearG (A ++ B) p = hearG B p ∧ Few 2 (hearL B p) := by
 by_cases hr : rightF p = false
 ·simp only [hearL, hearG, if_pos hr, h2, and_self]
 have e : idxF (A ++ B) p.m = A.length ∧ idxF B p.m = 0 ∧ knownF (A ++ B) p.m = knownF B p.m ∧ keptF (A ++ B) p.m = keptF B p.m ∧ (keptF B p.m).m = 2 := by
  rw [hp]
  rcases h1 with rfl | ⟨k, rfl, hk⟩ <;> rcases h2 with rfl | ⟨j, rfl, hj⟩ <;> simp [idxF, knownF, keptF, *]
 obtain ⟨e1, e2, e3, e4, e5⟩ := e
 have hk : knownF B p.m = true → ∃ k, B = [k] := fun h => by
  rcases h2 with rfl | ⟨k, rfl, hk⟩
  ·simp [knownF] at h
  ·exact ⟨k, rfl⟩
 have hk2 : knownF B p.m = false → B = [] := fun h => by
  rcases h2 with rfl | ⟨k, rfl, hkm⟩
  ·rfl
  ·rw [hp] at h
   simp [knownF, idxF, hkm] at h
 simp only [hearL, hearG, if_neg hr, e1, e2, e3, e4]
 by_cases c : knownF B p.m = false ∧ p.k = 2
 ·simp only [if_pos c, h2, and_self]
 ·simp only [if_neg c]
  refine ⟨?_, trivial, .inr ?_⟩
  ·cases g : knownF B p.m with
   |true => obtain ⟨k, rfl⟩ := hk g; simp
   |false => obtain rfl := hk2 g; simp
  ·cases g : knownF B p.m with
   |true =>
    obtain ⟨k, rfl⟩ := hk g
    exact ⟨_, rfl, by rw [newK_m]; exact e5⟩
   |false =>
    obtain rfl := hk2 g
    exact ⟨_, rfl, by rw [newK_m]; exact e5⟩
theorem kept_eq {k : Kp} : aggEq (List.replicate 4 (.int .i64)) (kC k) (kC k) = some true := by
 have h : (List.replicate 4 (Leaf.int .i64)) = [.int .i64, .int .i64, .int .i64, .int .i64] := rfl
 rw [h]
 simp [aggEq, kC, Leaf.fits, leafEq]
theorem same_app {σ : H} {u v : Value} {A : List Kp} (h1 : Lk σ u A) (h2 : Lk σ v A) (hn : A.length < 1000) :
  App Tryz.prog (.func 6) #[] #[.agg #[.int .i64 1, u], v] σ fun w σ' => σ' = σ ∧ w = .bool true := by
 refine App.forget (App.of_sem mixed Tryz.func6 t6 k6 r6 (Nat.le_of_ble_eq_true rfl) ?_)
 obtain ⟨a, c, rfl⟩ := h1.slice
 obtain ⟨a', c', rfl⟩ := h2.slice
 rw [← ap_nil (σ := σ)]
 unfold s6
 simp only [↓eD, eZ, ↓reduceIte, Nat.reduceEqDiff, Nat.reduceAdd, Nat.reduceMul, reduceCtorEq, Nat.reduceLeDiff, Int.reduceLT, Int.reduceLE, Int.reduceToNat, Int.reduceEq, Nat.reduceLT, undef_eq]
 obtain ⟨Z, hZ⟩ : ∃ Z, Z = ap σ [.cells 0 [.int .i64 1, .slice a A.length c] (0, 0)] := ⟨_, rfl⟩
 rw [← hZ]
 have oZ : Old σ Z := by rw [hZ]; exact .ap
 have z0 : Z[σ.size]? = some (.cells 0 [.int .i64 1, .slice a A.length c] (0, 0)) := by rw [hZ, ap_new0]; rfl
 clear hZ
 have rL := rd1_of (k := 1) (x := .slice a A.length c) z0 .refl rfl
 refine loop_for (J := fun i e τ => τ = Z ∧ i ≤ A.length ∧ e = [(1, .slice a' A.length c'), (2, .pointer (some ⟨σ.size, 0, none⟩)), (13, .int .i64 (A.length : Int)), (14, .int .i64 (i : Int))]) A.length ⟨rfl, by omega, rfl⟩ ?_
 rintro i e τ hi ⟨hτ, _, rfl⟩
 subst hτ
 by_cases hlt : i < A.length
 ·have d0 : decide ((i : Int) < (A.length : Int)) = true := by rw [decide_eq_true]; omega
  have hbd : (0 : Int) ≤ (i : Int) ∧ (i : Int) < (A.length : Int) := by omega
  have hw : IntKind.wrap .i64 ((i : Int) + 1) = ((i + 1 : Nat) : Int) := by rw [wrap64' (by omega) (by omega)]; omega
  obtain ⟨b, o, rfl, r1⟩ := (h1.Old oZ).at hlt
  obtain ⟨b', o', rfl, r2⟩ := (h2.Old oZ).at hlt
  have ae := kept_eq (k := A[i])
  generalize A[i] = k at r1 r2 ae
  have hk : kC k = [.int .i64 k.m, .int .i64 k.e, .int .i64 k.h, .int .i64 k.u] := rfl
  rw [hk] at r1 r2 ae
  simp only [↓eD, eZ, ↓reduceIte, Nat.reduceEqDiff, Nat.reduceAdd, Nat.reduceMul, reduceCtorEq, Nat.reduceLeDiff, Int.reduceLT, Int.reduceLE, Int.reduceToNat, Int.reduceEq, Nat.reduceLT, rL, d0, hbd, Int.toNat_natCast, r1, r2, ae, hw, Bool.not_true, undef_eq]
  exact ⟨hlt, by omega⟩
 ·have d0 : decide ((i : Int) < (A.length : Int)) = false := by rw [decide_eq_false]; omega
  simp only [↓eD, eZ, ↓reduceIte, Nat.reduceEqDiff, Nat.reduceAdd, Nat.reduceMul, reduceCtorEq, Nat.reduceLeDiff, Int.reduceLT, Int.reduceLE, Int.reduceToNat, Int.reduceEq, Nat.reduceLT, d0, undef_eq]
  exact ⟨by rw [ap_nil]; exact oZ, rfl⟩
set_option maxHeartbeats 8000000
structure LJ (σ τ : H) (A B : List Kp) (u va vb : Value) : Prop where
 a : Few 1 A
 b : Few 2 B
 o : Old σ τ
 n : σ.size + 3 ≤ τ.size
 y0 : ∃ v, τ[σ.size]? = some (.cells v [.int .i64 1, u] (0, 0))
 y1 : ∃ v, τ[σ.size + 1]? = some (.cells v [.int .i64 1, va] (0, 0))
 y2 : ∃ v, τ[σ.size + 2]? = some (.cells v [.int .i64 1, vb] (0, 0))
 g0 : Grown (sized (σ.size + 3)) τ 4 u ((A ++ B).map kC).flatten (A ++ B).length
 g1 : Grown (sized (σ.size + 3)) τ 4 va (A.map kC).flatten A.length
 g2 : Grown (sized (σ.size + 3)) τ 4 vb (B.map kC).flatten B.length
theorem wr_all {θ : H} {b ver : Nat} {cs xs : List Value} (h : θ[b]? = some (.cells ver cs (0, 0))) (hl : xs.length = cs.length) (h1 : xs.isEmpty = false) (hx : xs.all Value.oneCell' = true) :
  wrN θ ⟨b, 0, none⟩ xs = some (θ.setIfInBounds b (.cells (ver + 1) xs (0, 0))) := by
 have e : sets cs 0 xs = xs := by
  rw [sets_all (by omega), Nat.zero_add, hl, List.take_zero, List.drop_length, List.nil_append, List.append_nil]
 rw [wrN_eq, if_neg (by intro h; rw [h] at h1; cases h1), h, wrc_cells, if_pos ⟨by show 0 + xs.length ≤ cs.length; omega, hx⟩]
 show some (θ.setIfInBounds b (.cells (ver + 1) (sets cs 0 xs) (0, 0))) = _
 rw [e]
theorem grant_eq {w : Int} {q : Pl} {a : Bool} {e u : Int} : aggEq [.int .i64, .int .i64, .int .i64, .int .i64, .int .i64, .int .i64, .bool, .int .i64, .int .i64] (gC w q a e u) (gC w q a e u) = some true := by
 simp [aggEq, gC, Leaf.fits, leafEq]
theorem and_one (m : Int) : IntKind.i64.wrap (1 + IntKind.i64.wrap ((BitVec.ofInt IntKind.i64.bits m &&& BitVec.ofInt IntKind.i64.bits 1).toNat : Int)) = 1 ∨ IntKind.i64.wrap (1 + IntKind.i64.wrap ((BitVec.ofInt IntKind.i64.bits m &&& BitVec.ofInt IntKind.i64.bits 1).toNat : Int)) = 2 := by
 have h : (BitVec.ofInt IntKind.i64.bits m &&& BitVec.ofInt IntKind.i64.bits 1).toNat = (BitVec.ofInt IntKind.i64.bits m).toNat % 2 := by
  rw [BitVec.toNat_and]
  have : (BitVec.ofInt IntKind.i64.bits 1).toNat = 1 := by decide
  rw [this, Nat.and_one_is_mod]
 rw [h]
 generalize (BitVec.ofInt IntKind.i64.bits m).toNat = n
 have : n % 2 = 0 ∨ n % 2 = 1 := by omega
 rcases this with h | h <;> rw [h]
 ·left; decide
 ·right; decide
theorem hearG_shape {L : List Kp} {p : Pl} : ∃ w q a e u, hearG L p = gC w q a e u := by
 unfold hearG
 split
 ·exact ⟨_, _, _, _, _, rfl⟩
 ·split
  ·exact ⟨_, _, _, _, _, rfl⟩
  ·exact ⟨_, _, _, _, _, rfl⟩
theorem law3 {σ : H} {v : Value} {L : List Pl} (hr : Row σ 5 v (L.map pC)) (hc : L.length < 20000000000000) (hσ : Tryz.prog.globals.size ≤ σ.size) :
  App Tryz.prog (.func 3) #[] #[v] σ fun w σ' => Old σ σ' ∧ w = .bool true := by
 refine App.of_sem mixed Tryz.func3 t3 k3 r3 (Nat.le_of_ble_eq_true rfl) ?_
 obtain ⟨a, c, hv⟩ : ∃ a c, v = .slice a L.length c := by
  obtain ⟨b, cap, h1, _⟩ := hr
  exact ⟨b, cap, by rw [h1, List.length_map]⟩
 subst hv
 unfold s3
 by_cases h30 : 30 < L.length
 ·have d0 : decide (30 < (L.length : Int)) = true := by rw [decide_eq_true]; omega
  simp only [↓eD, eZ, ↓reduceIte, Nat.reduceEqDiff, Nat.reduceAdd, Nat.reduceMul, reduceCtorEq, Nat.reduceLeDiff, Int.reduceLT, Int.reduceLE, Int.reduceToNat, Int.reduceEq, Nat.reduceLT, d0, undef_eq]
  refine appK_at (fleet_app hσ) ?_
  simp only [↓eD, eZ, ↓reduceIte, Nat.reduceEqDiff, Nat.reduceAdd, Nat.reduceMul, reduceCtorEq, Nat.reduceLeDiff, Int.reduceLT, Int.reduceLE, Int.reduceToNat, Int.reduceEq, Nat.reduceLT, undef_eq]
  first | exact ⟨.refl, rfl⟩ | exact .refl
 have d0 : decide (30 < (L.length : Int)) = false := by rw [decide_eq_false]; omega
 rw [← ap_nil (σ := σ)]
 simp only [↓eD, eZ, ↓reduceIte, Nat.reduceEqDiff, Nat.reduceAdd, Nat.reduceMul, reduceCtorEq, Nat.reduceLeDiff, Int.reduceLT, Int.reduceLE, Int.reduceToNat, Int.reduceEq, Nat.reduceLT, d0, undef_eq]
 obtain ⟨Z, hZ⟩ : ∃ Z, Z = ap σ [.cells 1 [.int .i64 1, .slice none 0 0] (0, 0), .cells 1 [.int .i64 1, .slice none 0 0] (0, 0), .cells 1 [.int .i64 1, .slice none 0 0] (0, 0)] := ⟨_, rfl⟩
 rw [← hZ]
 have hJ0 : LJ σ Z [] [] (.slice none 0 0) (.slice none 0 0) (.slice none 0 0) := by
  refine ⟨.inl rfl, .inl rfl, by rw [hZ]; exact .ap, by rw [hZ, ap_size]; simp, ⟨1, by rw [hZ, ap_new0]; rfl⟩, ⟨1, by rw [hZ, ap_new]; rfl⟩, ⟨1, by rw [hZ, ap_new]; rfl⟩, ?_, .nil, .nil⟩
  exact .nil
 clear hZ
 refine loop_for (J := fun i e τ => i ≤ L.length ∧ (∃ A B u va vb, LJ σ τ A B u va vb) ∧ e = [(3, .pointer (some ⟨σ.size, 0, none⟩)), (4, .pointer (some ⟨σ.size + 1, 0, none⟩)), (5, .pointer (some ⟨σ.size + 2, 0, none⟩)), (22, .slice a L.length c), (23, .int .i64 (L.length : Int)), (24, .int .i64 (i : Int))]) L.length ⟨by omega, ⟨_, _, _, _, _, hJ0⟩, rfl⟩ ?_
 rintro i e τ hi ⟨_, ⟨A, B, u, va, vb, hJ⟩, rfl⟩
 by_cases hlt : i < L.length
 ·have d1 : decide ((i : Int) < (L.length : Int)) = true := by rw [decide_eq_true]; omega
  have hbd : (0 : Int) ≤ (i : Int) ∧ (i : Int) < (L.length : Int) := by omega
  have hw : IntKind.wrap .i64 ((i : Int) + 1) = ((i + 1 : Nat) : Int) := by rw [wrap64' (by omega) (by omega)]; omega
  obtain ⟨b, o, rfl, r1⟩ := (hr.Old hJ.o).at (i := i) (x := pC L[i]) (by simp [hlt])
  generalize L[i] = p0 at r1
  have hp0 : pC p0 = [.int .i64 p0.k, .int .i64 p0.m, .int .i64 p0.h, .int .i64 p0.e, .int .i64 p0.u] := rfl
  rw [hp0] at r1
  rw [← ap_nil (σ := τ)]
  have r1' : ∀ M, rdN (ap τ M) ⟨b, o + i * 5, none⟩ 5 = some [.int .i64 p0.k, .int .i64 p0.m, .int .i64 p0.h, .int .i64 p0.e, .int .i64 p0.u] := fun M => rdN_old r1
  obtain ⟨x, hx⟩ : ∃ x, IntKind.i64.wrap (1 + IntKind.i64.wrap ((BitVec.ofInt IntKind.i64.bits p0.m &&& BitVec.ofInt IntKind.i64.bits 1).toNat : Int)) = x := ⟨_, rfl⟩
  have hx12 : x = 1 ∨ x = 2 := by rw [← hx]; exact and_one p0.m
  obtain ⟨v0, y0⟩ := hJ.y0
  obtain ⟨v1, y1⟩ := hJ.y1
  obtain ⟨v2, y2⟩ := hJ.y2
  have q0 : ∀ M, rdN (ap τ M) ⟨σ.size, 0, none⟩ 2 = some [.int .i64 1, u] := fun M => rdb_of y0 .ap rfl
  simp only [z5, ↓eD, eZ, ↓reduceIte, Nat.reduceEqDiff, Nat.reduceAdd, Nat.reduceMul, reduceCtorEq, Nat.reduceLeDiff, Int.reduceLT, Int.reduceLE, Int.reduceToNat, Int.reduceEq, Nat.reduceLT, d1, hbd, Int.toNat_natCast, r1', hx, q0, undef_eq]
  clear hx
  obtain ⟨p, hp⟩ : ∃ p : Pl, p = ⟨p0.k, x, p0.h, p0.e, p0.u⟩ := ⟨_, rfl⟩
  have hpm : p.m = x := by rw [hp]
  obtain ⟨Z1, hZ1⟩ : ∃ Z1, Z1 = ap τ [.cells 2 (pC p) (0, 0)] := ⟨_, rfl⟩
  have hZ1' := hZ1
  have o1 : Old τ Z1 := by rw [hZ1]; exact .ap
  have n1 : Z1.size = τ.size + 1 := by rw [hZ1, ap_size]; rfl
  have x1 : Z1[τ.size]? = some (.cells 2 [.int .i64 p0.k, .int .i64 x, .int .i64 p0.h, .int .i64 p0.e, .int .i64 p0.u] (0, 0)) := by rw [hZ1, ap_new0, hp]; rfl
  rw [hp] at hZ1'
  unfold pC at hZ1'
  rw [← hZ1']
  clear hZ1' hZ1
  have hn := hJ.n
  have hsz : (sized (σ.size + 3)).size = σ.size + 3 := sized_size
  have happ := hear_app (σ0 := sized (σ.size + 3)) (p := p) (hJ.g0.old o1) (by omega) (hJ.a.sorted hJ.b) (by rw [List.length_append]; have := hJ.a.length; have := hJ.b.length; omega)
  obtain ⟨gw, gq, ga, ge, gu, hG⟩ := hearG_shape (L := A ++ B) (p := p)
  rw [hG] at happ
  unfold pC gC at happ
  have hpe : [Value.int .i64 p.k, .int .i64 p.m, .int .i64 p.h, .int .i64 p.e, .int .i64 p.u] = [.int .i64 p0.k, .int .i64 x, .int .i64 p0.h, .int .i64 p0.e, .int .i64 p0.u] := by rw [hp]
  rw [hpe] at happ
  refine appK_of happ ?_
  rintro _ Z2 ⟨o2, u2, rfl, gU⟩
  have n2 := o2.1
  have x2 : Z2[τ.size]? = some (.cells 2 [.int .i64 p0.k, .int .i64 x, .int .i64 p0.h, .int .i64 p0.e, .int .i64 p0.u] (0, 0)) := (o2.2 _ (by omega)).trans x1
  have o12 := o1.trans o2
  have rm : ∀ M, rd1 (ap Z2 M) ⟨τ.size, 1, none⟩ = some (.int .i64 x) := fun M => rd1_of x2 .ap rfl
  have rp : ∀ M, rdN (ap Z2 M) ⟨τ.size, 0, none⟩ 5 = some [.int .i64 p0.k, .int .i64 x, .int .i64 p0.h, .int .i64 p0.e, .int .i64 p0.u] := fun M => rdb_of x2 .ap rfl
  have ra : ∀ M, rdN (ap Z2 M) ⟨σ.size + 1, 0, none⟩ 2 = some [.int .i64 1, va] := fun M => rdb_of ((o12.2 _ (by omega)).trans y1) .ap rfl
  have rb : ∀ M, rdN (ap Z2 M) ⟨σ.size + 2, 0, none⟩ 2 = some [.int .i64 1, vb] := fun M => rdb_of ((o12.2 _ (by omega)).trans y2) .ap rfl
  have z9 : List.replicate 9 (Value.int .i64 0) = List.replicate 9 (Value.int .i64 0) := rfl
  rw [← ap_nil (σ := Z2)]
  rcases hx12 with hx1 | hx1
  ·have hx2 : decide (x = 2) = false := by rw [hx1]; rfl
   simp only [↓eD, eZ, ↓reduceIte, Nat.reduceEqDiff, Nat.reduceAdd, Nat.reduceMul, reduceCtorEq, Nat.reduceLeDiff, Int.reduceLT, Int.reduceLE, Int.reduceToNat, Int.reduceEq, Nat.reduceLT, rm, rp, ra, rb, hx2, gU.one, undef_eq]
   obtain ⟨e1, e2, e3⟩ := hear_one hJ.a hJ.b (p := p) (by rw [hpm, hx1])
   obtain ⟨Z3, hZ3⟩ : ∃ Z3, Z3 = ap Z2 [.cells 1 [.int .i64 1, u2] (0, 0), .cells 1 [.int .i64 gw, .int .i64 gq.k, .int .i64 gq.m, .int .i64 gq.h, .int .i64 gq.e, .int .i64 gq.u, .bool ga, .int .i64 ge, .int .i64 gu] (0, 0), .cells 0 [.int .i64 0, .slice none 0 0] (0, 0), .cells 0 [.int .i64 0, .int .i64 0, .int .i64 0, .int .i64 0, .int .i64 0, .int .i64 0, .bool false, .int .i64 0, .int .i64 0] (0, 0)] := ⟨_, rfl⟩
   rw [← hZ3]
   have o3 : Old Z2 Z3 := by rw [hZ3]; exact .ap
   have n3 : Z3.size = Z2.size + 4 := by rw [hZ3, ap_size]; rfl
   have w0 : Z3[Z2.size]? = some (.cells 1 [.int .i64 1, u2] (0, 0)) := by rw [hZ3, ap_new0]; rfl
   have w1 : Z3[Z2.size + 1]? = some (.cells 1 [.int .i64 gw, .int .i64 gq.k, .int .i64 gq.m, .int .i64 gq.h, .int .i64 gq.e, .int .i64 gq.u, .bool ga, .int .i64 ge, .int .i64 gu] (0, 0)) := by rw [hZ3, ap_new]; rfl
   have w2 : Z3[Z2.size + 2]? = some (.cells 0 [.int .i64 0, .slice none 0 0] (0, 0)) := by rw [hZ3, ap_new]; rfl
   have w3 : Z3[Z2.size + 3]? = some (.cells 0 [.int .i64 0, .int .i64 0, .int .i64 0, .int .i64 0, .int .i64 0, .int .i64 0, .bool false, .int .i64 0, .int .i64 0] (0, 0)) := by rw [hZ3, ap_new]; rfl
   clear hZ3
   have happ2 := hear_app (σ0 := sized (σ.size + 3)) (p := p) (hJ.g1.old (o12.trans o3)) (by omega) hJ.a.sort (by have := hJ.a.length; omega)
   rw [e2] at hG
   rw [hG] at happ2
   unfold pC gC at happ2
   rw [hpe] at happ2
   refine appK_of happ2 ?_
   rintro _ Z4 ⟨o4, u3, rfl, gV⟩
   have n4 := o4.1
   have w0 := (o4.2 _ (by omega)).trans w0
   have w1 := (o4.2 _ (by omega)).trans w1
   have w2 := (o4.2 _ (by omega)).trans w2
   have w3 := (o4.2 _ (by omega)).trans w3
   have k2 := wr_all (xs := [.int .i64 1, u3]) w2 rfl rfl (by simp [gV.one]; rfl)
   have k3 := wr_all (θ := Z4.setIfInBounds (Z2.size + 2) (.cells (0 + 1) [.int .i64 1, u3] (0, 0))) (xs := [.int .i64 gw, .int .i64 gq.k, .int .i64 gq.m, .int .i64 gq.h, .int .i64 gq.e, .int .i64 gq.u, .bool ga, .int .i64 ge, .int .i64 gu]) ((get_set_ne (by omega)).trans w3) rfl rfl rfl
   simp only [↓eD, eZ, ↓reduceIte, Nat.reduceEqDiff, Nat.reduceAdd, Nat.reduceMul, reduceCtorEq, Nat.reduceLeDiff, Int.reduceLT, Int.reduceLE, Int.reduceToNat, Int.reduceEq, Nat.reduceLT, k2, k3, undef_eq]
   have a0 : Z4[σ.size]? = some (.cells v0 [.int .i64 1, u] (0, 0)) := (o4.2 _ (by omega)).trans ((o3.2 _ (by omega)).trans ((o12.2 _ (by omega)).trans y0))
   have a1 : Z4[σ.size + 1]? = some (.cells v1 [.int .i64 1, va] (0, 0)) := (o4.2 _ (by omega)).trans ((o3.2 _ (by omega)).trans ((o12.2 _ (by omega)).trans y1))
   have a2 : Z4[σ.size + 2]? = some (.cells v2 [.int .i64 1, vb] (0, 0)) := (o4.2 _ (by omega)).trans ((o3.2 _ (by omega)).trans ((o12.2 _ (by omega)).trans y2))
   have o5' : Old σ ((Z4.setIfInBounds (Z2.size + 2) (.cells (0 + 1) [.int .i64 1, u3] (0, 0))).setIfInBounds (Z2.size + 3) (.cells (0 + 1) [.int .i64 gw, .int .i64 gq.k, .int .i64 gq.m, .int .i64 gq.h, .int .i64 gq.e, .int .i64 gq.u, .bool ga, .int .i64 ge, .int .i64 gu] (0, 0))) := ((hJ.o.trans ((o12.trans o3).trans o4)).set (by omega)).set (by omega)
   obtain ⟨Z5, hZ5⟩ : ∃ Z5, Z5 = ((Z4.setIfInBounds (Z2.size + 2) (.cells (0 + 1) [.int .i64 1, u3] (0, 0))).setIfInBounds (Z2.size + 3) (.cells (0 + 1) [.int .i64 gw, .int .i64 gq.k, .int .i64 gq.m, .int .i64 gq.h, .int .i64 gq.e, .int .i64 gq.u, .bool ga, .int .i64 ge, .int .i64 gu] (0, 0))) := ⟨_, rfl⟩
   have o5 : Old σ Z5 := by rw [hZ5]; exact o5'
   have n5 : Z5.size = Z4.size := by rw [hZ5]; simp
   have c0 : Z5[σ.size]? = some (.cells v0 [.int .i64 1, u] (0, 0)) := by rw [hZ5]; exact (get_set_ne (by omega)).trans ((get_set_ne (by omega)).trans a0)
   have c1 : Z5[σ.size + 1]? = some (.cells v1 [.int .i64 1, va] (0, 0)) := by rw [hZ5]; exact (get_set_ne (by omega)).trans ((get_set_ne (by omega)).trans a1)
   have c2 : Z5[σ.size + 2]? = some (.cells v2 [.int .i64 1, vb] (0, 0)) := by rw [hZ5]; exact (get_set_ne (by omega)).trans ((get_set_ne (by omega)).trans a2)
   have b0 : Z5[Z2.size]? = some (.cells 1 [.int .i64 1, u2] (0, 0)) := by rw [hZ5]; exact (get_set_ne (by omega)).trans ((get_set_ne (by omega)).trans w0)
   have b1 : Z5[Z2.size + 1]? = some (.cells 1 [.int .i64 gw, .int .i64 gq.k, .int .i64 gq.m, .int .i64 gq.h, .int .i64 gq.e, .int .i64 gq.u, .bool ga, .int .i64 ge, .int .i64 gu] (0, 0)) := by rw [hZ5]; exact (get_set_ne (by omega)).trans ((get_set_ne (by omega)).trans w1)
   have b2 : Z5[Z2.size + 2]? = some (.cells (0 + 1) [.int .i64 1, u3] (0, 0)) := by rw [hZ5]; exact (get_set_ne (by omega)).trans (get_set w2)
   have b3 : Z5[Z2.size + 3]? = some (.cells (0 + 1) [.int .i64 gw, .int .i64 gq.k, .int .i64 gq.m, .int .i64 gq.h, .int .i64 gq.e, .int .i64 gq.u, .bool ga, .int .i64 ge, .int .i64 gu] (0, 0)) := by rw [hZ5]; exact get_set ((get_set_ne (by omega)).trans w3)
   have o45 : ∀ {v : Value} {cs : List Value} {n : Nat}, Grown (sized (σ.size + 3)) Z4 4 v cs n → Grown (sized (σ.size + 3)) Z5 4 v cs n := fun h => by
    refine h.keep fun c k hc hk => ?_
    obtain ⟨l1, _, ⟨_, rfl⟩ | ⟨b, ver, cap, _, _, rfl, l4⟩⟩ := h
    ·cases hc
    ·injection hc with hc
     simp only at hc
     subst hc
     have m2 : b ≠ Z2.size + 2 := fun e => by
      rw [e, w2] at l4
      injection l4 with l4
      injection l4 with _ l4
      rw [← l4] at l1
      simp at l1
      omega
     have m3 : b ≠ Z2.size + 3 := fun e => by
      rw [e, w3] at l4
      injection l4 with l4
      injection l4 with _ l4
      rw [← l4] at l1
      simp at l1
      omega
     rw [hZ5]
     exact (get_set_ne (Ne.symm m3)).trans ((get_set_ne (Ne.symm m2)).trans hk)
   have ae := grant_eq (w := gw) (q := gq) (a := ga) (e := ge) (u := gu)
   unfold gC at ae
   have r0 : rdN Z5 ⟨Z2.size, 0, none⟩ 2 = some [.int .i64 1, u2] := rdb_of b0 .refl rfl
   have r1 : rdN Z5 ⟨Z2.size + 1, 0, none⟩ 9 = some [.int .i64 gw, .int .i64 gq.k, .int .i64 gq.m, .int .i64 gq.h, .int .i64 gq.e, .int .i64 gq.u, .bool ga, .int .i64 ge, .int .i64 gu] := rdb_of b1 .refl rfl
   have r2 : rdN Z5 ⟨Z2.size + 2, 0, none⟩ 2 = some [.int .i64 1, u3] := rdb_of b2 .refl rfl
   have r3 : rdN Z5 ⟨Z2.size + 3, 0, none⟩ 9 = some [.int .i64 gw, .int .i64 gq.k, .int .i64 gq.m, .int .i64 gq.h, .int .i64 gq.e, .int .i64 gq.u, .bool ga, .int .i64 ge, .int .i64 gu] := rdb_of b3 .refl rfl
   have k5 := wr_all (xs := [.int .i64 1, u2]) c0 rfl rfl (by simp [gU.one]; rfl)
   have r2' : rdN (Z5.setIfInBounds σ.size (.cells (v0 + 1) [.int .i64 1, u2] (0, 0))) ⟨Z2.size + 2, 0, none⟩ 2 = some [.int .i64 1, u3] := rdb_of ((get_set_ne (by omega)).trans b2) .refl rfl
   have k6 := wr_all (θ := (Z5.setIfInBounds σ.size (.cells (v0 + 1) [.int .i64 1, u2] (0, 0)))) (xs := [.int .i64 1, u3]) ((get_set_ne (by omega)).trans c1) rfl rfl (by simp [gV.one]; rfl)
   rw [← hZ5]
   simp only [↓eD, eZ, ↓reduceIte, Nat.reduceEqDiff, Nat.reduceAdd, Nat.reduceMul, reduceCtorEq, Nat.reduceLeDiff, Int.reduceLT, Int.reduceLE, Int.reduceToNat, Int.reduceEq, Nat.reduceLT, r0, r1, r2, r3, ae, k5, k6, r2', hw, Bool.not_true, undef_eq]
   rw [e1] at gU
   exact ⟨hlt, by omega, hearL A p, B, u2, u3, vb, ⟨e3, hJ.b, (o5.set (by omega)).set (by omega), by simp only [Array.size_setIfInBounds]; omega, ⟨_, (get_set_ne (by omega)).trans (get_set c0)⟩, ⟨_, get_set ((get_set_ne (by omega)).trans c1)⟩, ⟨_, (get_set_ne (by omega)).trans ((get_set_ne (by omega)).trans c2)⟩, ((o45 (gU.old (o3.trans o4))).set (by omega)).set (by omega), ((o45 gV).set (by omega)).set (by omega), ((o45 (hJ.g2.old (o12.trans (o3.trans o4)))).set (by omega)).set (by omega)⟩⟩
  ·have hx2 : decide (x = 2) = true := by rw [hx1]; rfl
   simp only [↓eD, eZ, ↓reduceIte, Nat.reduceEqDiff, Nat.reduceAdd, Nat.reduceMul, reduceCtorEq, Nat.reduceLeDiff, Int.reduceLT, Int.reduceLE, Int.reduceToNat, Int.reduceEq, Nat.reduceLT, rm, rp, ra, rb, hx2, gU.one, undef_eq]
   obtain ⟨e1, e2, e3⟩ := hear_two hJ.a hJ.b (p := p) (by rw [hpm, hx1])
   obtain ⟨Z3, hZ3⟩ : ∃ Z3, Z3 = ap Z2 [.cells 1 [.int .i64 1, u2] (0, 0), .cells 1 [.int .i64 gw, .int .i64 gq.k, .int .i64 gq.m, .int .i64 gq.h, .int .i64 gq.e, .int .i64 gq.u, .bool ga, .int .i64 ge, .int .i64 gu] (0, 0), .cells 0 [.int .i64 0, .slice none 0 0] (0, 0), .cells 0 [.int .i64 0, .int .i64 0, .int .i64 0, .int .i64 0, .int .i64 0, .int .i64 0, .bool false, .int .i64 0, .int .i64 0] (0, 0)] := ⟨_, rfl⟩
   rw [← hZ3]
   have o3 : Old Z2 Z3 := by rw [hZ3]; exact .ap
   have n3 : Z3.size = Z2.size + 4 := by rw [hZ3, ap_size]; rfl
   have w0 : Z3[Z2.size]? = some (.cells 1 [.int .i64 1, u2] (0, 0)) := by rw [hZ3, ap_new0]; rfl
   have w1 : Z3[Z2.size + 1]? = some (.cells 1 [.int .i64 gw, .int .i64 gq.k, .int .i64 gq.m, .int .i64 gq.h, .int .i64 gq.e, .int .i64 gq.u, .bool ga, .int .i64 ge, .int .i64 gu] (0, 0)) := by rw [hZ3, ap_new]; rfl
   have w2 : Z3[Z2.size + 2]? = some (.cells 0 [.int .i64 0, .slice none 0 0] (0, 0)) := by rw [hZ3, ap_new]; rfl
   have w3 : Z3[Z2.size + 3]? = some (.cells 0 [.int .i64 0, .int .i64 0, .int .i64 0, .int .i64 0, .int .i64 0, .int .i64 0, .bool false, .int .i64 0, .int .i64 0] (0, 0)) := by rw [hZ3, ap_new]; rfl
   clear hZ3
   have happ2 := hear_app (σ0 := sized (σ.size + 3)) (p := p) (hJ.g2.old (o12.trans o3)) (by omega) hJ.b.sort (by have := hJ.b.length; omega)
   rw [e2] at hG
   rw [hG] at happ2
   unfold pC gC at happ2
   rw [hpe] at happ2
   refine appK_of happ2 ?_
   rintro _ Z4 ⟨o4, u3, rfl, gV⟩
   have n4 := o4.1
   have w0 := (o4.2 _ (by omega)).trans w0
   have w1 := (o4.2 _ (by omega)).trans w1
   have w2 := (o4.2 _ (by omega)).trans w2
   have w3 := (o4.2 _ (by omega)).trans w3
   have k2 := wr_all (xs := [.int .i64 1, u3]) w2 rfl rfl (by simp [gV.one]; rfl)
   have k3 := wr_all (θ := Z4.setIfInBounds (Z2.size + 2) (.cells (0 + 1) [.int .i64 1, u3] (0, 0))) (xs := [.int .i64 gw, .int .i64 gq.k, .int .i64 gq.m, .int .i64 gq.h, .int .i64 gq.e, .int .i64 gq.u, .bool ga, .int .i64 ge, .int .i64 gu]) ((get_set_ne (by omega)).trans w3) rfl rfl rfl
   simp only [↓eD, eZ, ↓reduceIte, Nat.reduceEqDiff, Nat.reduceAdd, Nat.reduceMul, reduceCtorEq, Nat.reduceLeDiff, Int.reduceLT, Int.reduceLE, Int.reduceToNat, Int.reduceEq, Nat.reduceLT, k2, k3, undef_eq]
   have a0 : Z4[σ.size]? = some (.cells v0 [.int .i64 1, u] (0, 0)) := (o4.2 _ (by omega)).trans ((o3.2 _ (by omega)).trans ((o12.2 _ (by omega)).trans y0))
   have a1 : Z4[σ.size + 1]? = some (.cells v1 [.int .i64 1, va] (0, 0)) := (o4.2 _ (by omega)).trans ((o3.2 _ (by omega)).trans ((o12.2 _ (by omega)).trans y1))
   have a2 : Z4[σ.size + 2]? = some (.cells v2 [.int .i64 1, vb] (0, 0)) := (o4.2 _ (by omega)).trans ((o3.2 _ (by omega)).trans ((o12.2 _ (by omega)).trans y2))
   have o5' : Old σ ((Z4.setIfInBounds (Z2.size + 2) (.cells (0 + 1) [.int .i64 1, u3] (0, 0))).setIfInBounds (Z2.size + 3) (.cells (0 + 1) [.int .i64 gw, .int .i64 gq.k, .int .i64 gq.m, .int .i64 gq.h, .int .i64 gq.e, .int .i64 gq.u, .bool ga, .int .i64 ge, .int .i64 gu] (0, 0))) := ((hJ.o.trans ((o12.trans o3).trans o4)).set (by omega)).set (by omega)
   obtain ⟨Z5, hZ5⟩ : ∃ Z5, Z5 = ((Z4.setIfInBounds (Z2.size + 2) (.cells (0 + 1) [.int .i64 1, u3] (0, 0))).setIfInBounds (Z2.size + 3) (.cells (0 + 1) [.int .i64 gw, .int .i64 gq.k, .int .i64 gq.m, .int .i64 gq.h, .int .i64 gq.e, .int .i64 gq.u, .bool ga, .int .i64 ge, .int .i64 gu] (0, 0))) := ⟨_, rfl⟩
   have o5 : Old σ Z5 := by rw [hZ5]; exact o5'
   have n5 : Z5.size = Z4.size := by rw [hZ5]; simp
   have c0 : Z5[σ.size]? = some (.cells v0 [.int .i64 1, u] (0, 0)) := by rw [hZ5]; exact (get_set_ne (by omega)).trans ((get_set_ne (by omega)).trans a0)
   have c1 : Z5[σ.size + 1]? = some (.cells v1 [.int .i64 1, va] (0, 0)) := by rw [hZ5]; exact (get_set_ne (by omega)).trans ((get_set_ne (by omega)).trans a1)
   have c2 : Z5[σ.size + 2]? = some (.cells v2 [.int .i64 1, vb] (0, 0)) := by rw [hZ5]; exact (get_set_ne (by omega)).trans ((get_set_ne (by omega)).trans a2)
   have b0 : Z5[Z2.size]? = some (.cells 1 [.int .i64 1, u2] (0, 0)) := by rw [hZ5]; exact (get_set_ne (by omega)).trans ((get_set_ne (by omega)).trans w0)
   have b1 : Z5[Z2.size + 1]? = some (.cells 1 [.int .i64 gw, .int .i64 gq.k, .int .i64 gq.m, .int .i64 gq.h, .int .i64 gq.e, .int .i64 gq.u, .bool ga, .int .i64 ge, .int .i64 gu] (0, 0)) := by rw [hZ5]; exact (get_set_ne (by omega)).trans ((get_set_ne (by omega)).trans w1)
   have b2 : Z5[Z2.size + 2]? = some (.cells (0 + 1) [.int .i64 1, u3] (0, 0)) := by rw [hZ5]; exact (get_set_ne (by omega)).trans (get_set w2)
   have b3 : Z5[Z2.size + 3]? = some (.cells (0 + 1) [.int .i64 gw, .int .i64 gq.k, .int .i64 gq.m, .int .i64 gq.h, .int .i64 gq.e, .int .i64 gq.u, .bool ga, .int .i64 ge, .int .i64 gu] (0, 0)) := by rw [hZ5]; exact get_set ((get_set_ne (by omega)).trans w3)
   have o45 : ∀ {v : Value} {cs : List Value} {n : Nat}, Grown (sized (σ.size + 3)) Z4 4 v cs n → Grown (sized (σ.size + 3)) Z5 4 v cs n := fun h => by
    refine h.keep fun c k hc hk => ?_
    obtain ⟨l1, _, ⟨_, rfl⟩ | ⟨b, ver, cap, _, _, rfl, l4⟩⟩ := h
    ·cases hc
    ·injection hc with hc
     simp only at hc
     subst hc
     have m2 : b ≠ Z2.size + 2 := fun e => by
      rw [e, w2] at l4
      injection l4 with l4
      injection l4 with _ l4
      rw [← l4] at l1
      simp at l1
      omega
     have m3 : b ≠ Z2.size + 3 := fun e => by
      rw [e, w3] at l4
      injection l4 with l4
      injection l4 with _ l4
      rw [← l4] at l1
      simp at l1
      omega
     rw [hZ5]
     exact (get_set_ne (Ne.symm m3)).trans ((get_set_ne (Ne.symm m2)).trans hk)
   have ae := grant_eq (w := gw) (q := gq) (a := ga) (e := ge) (u := gu)
   unfold gC at ae
   have r0 : rdN Z5 ⟨Z2.size, 0, none⟩ 2 = some [.int .i64 1, u2] := rdb_of b0 .refl rfl
   have r1 : rdN Z5 ⟨Z2.size + 1, 0, none⟩ 9 = some [.int .i64 gw, .int .i64 gq.k, .int .i64 gq.m, .int .i64 gq.h, .int .i64 gq.e, .int .i64 gq.u, .bool ga, .int .i64 ge, .int .i64 gu] := rdb_of b1 .refl rfl
   have r2 : rdN Z5 ⟨Z2.size + 2, 0, none⟩ 2 = some [.int .i64 1, u3] := rdb_of b2 .refl rfl
   have r3 : rdN Z5 ⟨Z2.size + 3, 0, none⟩ 9 = some [.int .i64 gw, .int .i64 gq.k, .int .i64 gq.m, .int .i64 gq.h, .int .i64 gq.e, .int .i64 gq.u, .bool ga, .int .i64 ge, .int .i64 gu] := rdb_of b3 .refl rfl
   have k5 := wr_all (xs := [.int .i64 1, u2]) c0 rfl rfl (by simp [gU.one]; rfl)
   have r2' : rdN (Z5.setIfInBounds σ.size (.cells (v0 + 1) [.int .i64 1, u2] (0, 0))) ⟨Z2.size + 2, 0, none⟩ 2 = some [.int .i64 1, u3] := rdb_of ((get_set_ne (by omega)).trans b2) .refl rfl
   have k6 := wr_all (θ := (Z5.setIfInBounds σ.size (.cells (v0 + 1) [.int .i64 1, u2] (0, 0)))) (xs := [.int .i64 1, u3]) ((get_set_ne (by omega)).trans c2) rfl rfl (by simp [gV.one]; rfl)
   rw [← hZ5]
   simp only [↓eD, eZ, ↓reduceIte, Nat.reduceEqDiff, Nat.reduceAdd, Nat.reduceMul, reduceCtorEq, Nat.reduceLeDiff, Int.reduceLT, Int.reduceLE, Int.reduceToNat, Int.reduceEq, Nat.reduceLT, r0, r1, r2, r3, ae, k5, k6, r2', hw, Bool.not_true, undef_eq]
   rw [e1] at gU
   exact ⟨hlt, by omega, A, hearL B p, u2, va, u3, ⟨hJ.a, e3, (o5.set (by omega)).set (by omega), by simp only [Array.size_setIfInBounds]; omega, ⟨_, (get_set_ne (by omega)).trans (get_set c0)⟩, ⟨_, (get_set_ne (by omega)).trans ((get_set_ne (by omega)).trans c1)⟩, ⟨_, get_set ((get_set_ne (by omega)).trans c2)⟩, ((o45 (gU.old (o3.trans o4))).set (by omega)).set (by omega), ((o45 (hJ.g1.old (o12.trans (o3.trans o4)))).set (by omega)).set (by omega), ((o45 gV).set (by omega)).set (by omega)⟩⟩
 ·have d1 : decide ((i : Int) < (L.length : Int)) = false := by rw [decide_eq_false]; omega
  simp only [↓eD, eZ, ↓reduceIte, Nat.reduceEqDiff, Nat.reduceAdd, Nat.reduceMul, reduceCtorEq, Nat.reduceLeDiff, Int.reduceLT, Int.reduceLE, Int.reduceToNat, Int.reduceEq, Nat.reduceLT, d1, undef_eq]
  refine appK_at (fleet_app (Nat.le_trans hσ hJ.o.1)) ?_
  obtain ⟨v0, y0⟩ := hJ.y0
  obtain ⟨v1, y1⟩ := hJ.y1
  obtain ⟨v2, y2⟩ := hJ.y2
  rw [← ap_nil (σ := τ)]
  have q0 : ∀ M, rdN (ap τ M) ⟨σ.size, 0, none⟩ 2 = some [.int .i64 1, u] := fun M => rdb_of y0 .ap rfl
  have q1 : ∀ M, rd1 (ap τ M) ⟨σ.size + 1, 1, none⟩ = some va := fun M => rd1_of y1 .ap rfl
  have q2 : ∀ M, rd1 (ap τ M) ⟨σ.size + 2, 1, none⟩ = some vb := fun M => rd1_of y2 .ap rfl
  simp only [↓eD, eZ, ↓reduceIte, Nat.reduceEqDiff, Nat.reduceAdd, Nat.reduceMul, reduceCtorEq, Nat.reduceLeDiff, Int.reduceLT, Int.reduceLE, Int.reduceToNat, Int.reduceEq, Nat.reduceLT, q0, q1, q2, undef_eq]
  have hst : (sized τ.size).size = τ.size := sized_size
  have g0 : Grown (sized τ.size) (ap τ [.cells 0 [] (0, 0)]) 4 (.slice (some ⟨τ.size, 0, none⟩) 0 0) [] 0 := Grown.lit (ver := 0) rfl (by decide) (by omega) ap_new0
  obtain ⟨w1, Y1, ha1, A1⟩ := append_grown (bytes := 32) g0 (by omega) (by rw [hst, ap_size]; simp) ((grown_lk hJ.g1).Old .ap).x kp_flat kp_ones (by have := hJ.a.length; omega) (by omega)
  have o1 : Old τ Y1 := A1.Old' g0 (by omega) .ap
  obtain ⟨w2, Y2, ha2, A2⟩ := append_grown (bytes := 32) A1.grown (by omega) (by rw [hst]; exact o1.1) ((grown_lk hJ.g2).Old o1).x kp_flat kp_ones (by have := hJ.a.length; have := hJ.b.length; omega) (by omega)
  have o2 : Old τ Y2 := A2.Old' A1.grown (by omega) o1
  have g2 := A2.grown
  rw [List.nil_append, Nat.zero_add, ← List.flatten_append, ← List.map_append, ← List.length_append] at g2
  refine onV_of ha1 ?_
  have q3 : rd1 Y1 ⟨σ.size + 2, 1, none⟩ = some vb := rd1_of y2 o1 rfl
  have q4 : rdN Y1 ⟨σ.size, 0, none⟩ 2 = some [.int .i64 1, u] := rdb_of y0 o1 rfl
  have q5 : rdN Y2 ⟨σ.size, 0, none⟩ 2 = some [.int .i64 1, u] := rdb_of y0 o2 rfl
  simp only [↓eD, eZ, ↓reduceIte, Nat.reduceEqDiff, Nat.reduceAdd, Nat.reduceMul, reduceCtorEq, Nat.reduceLeDiff, Int.reduceLT, Int.reduceLE, Int.reduceToNat, Int.reduceEq, Nat.reduceLT, q3, q4, undef_eq]
  refine onV_of ha2 ?_
  simp only [↓eD, eZ, ↓reduceIte, Nat.reduceEqDiff, Nat.reduceAdd, Nat.reduceMul, reduceCtorEq, Nat.reduceLeDiff, Int.reduceLT, Int.reduceLE, Int.reduceToNat, Int.reduceEq, Nat.reduceLT, q5, undef_eq]
  refine appK_at (same_app ((grown_lk hJ.g0).Old o2) (grown_lk g2) (by rw [List.length_append]; have := hJ.a.length; have := hJ.b.length; omega)) ?_
  simp only [↓eD, eZ, ↓reduceIte, Nat.reduceEqDiff, Nat.reduceAdd, Nat.reduceMul, reduceCtorEq, Nat.reduceLeDiff, Int.reduceLT, Int.reduceLE, Int.reduceToNat, Int.reduceEq, Nat.reduceLT, undef_eq]
  first | exact ⟨hJ.o.trans o2, rfl⟩ | exact hJ.o.trans o2
end Go.Proofs.YtiipnbnkikmlgaaGreatDoor
