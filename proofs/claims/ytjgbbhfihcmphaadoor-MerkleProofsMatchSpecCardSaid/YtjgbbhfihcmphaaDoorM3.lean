/- Walks and plain laws. Conditions: none. -/
import Derived.Test.YtjgbbhfihcmphaaDoorBodiesL3
set_option linter.all false
set_option maxRecDepth 10000
set_option maxHeartbeats 4000000
namespace Go.Proofs.YtjgbbhfihcmphaaDoor
open Go Go.Cn Go.RowKit
attribute [local irreducible] evL sem onG onI onV
theorem law3 {σ : H} {v : Value} {L : List (List Int)} {i m : Int} {s : ByteArray} (hL : Ls σ v L) (hG : HGlob σ) (hR : Glob σ) (hB : BGlob σ) :
  App Tryd.prog (.func 3) #[] #[v, .int .i64 i, .int .i64 m, .string s] σ fun w σ' => Old σ σ' ∧ w = .bool true := by
 refine App.of_sem mixed Tryd.func3 t3 k3 r3 (Nat.le_of_ble_eq_true rfl) ?_
 obtain ⟨a, c, rfl⟩ := hL.slice
 unfold s3
 by_cases h1 : 40 < L.length
 ·have e1 : decide ((40 : Int) < (L.length : Int)) = true := by rw [decide_eq_true]; omega
  simp only [↓eD, eZ, ↓reduceIte, Nat.reduceEqDiff, Nat.reduceAdd, Nat.reduceMul, reduceCtorEq, Nat.reduceLeDiff, Int.reduceLT, Int.reduceLE, Int.reduceToNat, Int.reduceEq, Nat.reduceLT, e1, undef_eq]
  refine appK_of (sanity_app hG hR hB) ?_
  rintro _ τ ⟨o, rfl⟩
  simp only [↓eD, eZ, ↓reduceIte, Nat.reduceEqDiff, Nat.reduceAdd, Nat.reduceMul, reduceCtorEq, Nat.reduceLeDiff, Int.reduceLT, Int.reduceLE, Int.reduceToNat, Int.reduceEq, Nat.reduceLT, undef_eq]
  exact o
 have e1 : decide ((40 : Int) < (L.length : Int)) = false := by rw [decide_eq_false]; omega
 by_cases h2 : 200 < s.size
 ·have e2 : decide ((200 : Int) < (s.size : Int)) = true := by rw [decide_eq_true]; omega
  simp only [↓eD, eZ, ↓reduceIte, Nat.reduceEqDiff, Nat.reduceAdd, Nat.reduceMul, reduceCtorEq, Nat.reduceLeDiff, Int.reduceLT, Int.reduceLE, Int.reduceToNat, Int.reduceEq, Nat.reduceLT, e1, e2, undef_eq]
  refine appK_of (sanity_app hG hR hB) ?_
  rintro _ τ ⟨o, rfl⟩
  simp only [↓eD, eZ, ↓reduceIte, Nat.reduceEqDiff, Nat.reduceAdd, Nat.reduceMul, reduceCtorEq, Nat.reduceLeDiff, Int.reduceLT, Int.reduceLE, Int.reduceToNat, Int.reduceEq, Nat.reduceLT, undef_eq]
  exact o
 have e2 : decide ((200 : Int) < (s.size : Int)) = false := by rw [decide_eq_false]; omega
 simp only [↓eD, eZ, ↓reduceIte, Nat.reduceEqDiff, Nat.reduceAdd, Nat.reduceMul, reduceCtorEq, Nat.reduceLeDiff, Int.reduceLT, Int.reduceLE, Int.reduceToNat, Int.reduceEq, Nat.reduceLT, e1, e2, undef_eq]
 refine appK_of (linclusion_app hL (by omega) hG) ?_
 rintro _ τ1 ⟨o1, x, rfl, hx⟩
 simp only [↓eD, eZ, ↓reduceIte, Nat.reduceEqDiff, Nat.reduceAdd, Nat.reduceMul, reduceCtorEq, Nat.reduceLeDiff, Int.reduceLT, Int.reduceLE, Int.reduceToNat, Int.reduceEq, Nat.reduceLT, undef_eq]
 refine appK_of (lconsistency_app (hL.Old o1) (by omega) (hG.Old o1)) ?_
 rintro _ τ2 ⟨p2, y, rfl, hy⟩
 have o2 := o1.trans p2
 have hx2 := hx.Old p2
 simp only [↓eD, eZ, ↓reduceIte, Nat.reduceEqDiff, Nat.reduceAdd, Nat.reduceMul, reduceCtorEq, Nat.reduceLeDiff, Int.reduceLT, Int.reduceLE, Int.reduceToNat, Int.reduceEq, Nat.reduceLT, undef_eq]
 refine appK_of (rinclusion_app (hL.Old o2) (by omega) (hR.Old o2)) ?_
 rintro _ τ3 ⟨p3, z, rfl, hz⟩
 have o3 := o2.trans p3
 have hx3 := hx2.Old p3
 have hy3 := hy.Old p3
 clear hx hx2 hy p2 p3 o1 o2
 obtain ⟨za, zc, rfl⟩ := hz.slice
 rw [← ap_nil (σ := τ3)]
 simp only [↓eD, eZ, ↓reduceIte, Nat.reduceEqDiff, Nat.reduceAdd, Nat.reduceMul, reduceCtorEq, Nat.reduceLeDiff, Int.reduceLT, Int.reduceLE, Int.reduceToNat, Int.reduceEq, Nat.reduceLT, undef_eq]
 obtain ⟨X, hX⟩ : ∃ X, X = ap τ3 [.cells 1 [.slice za (inclP L i).length zc, .int .i64 (inclE L i)] (0, 0)] := ⟨_, rfl⟩
 rw [← hX]
 have oX : Old τ3 X := by rw [hX]; exact .ap
 have x0 : X[τ3.size]? = some (.cells 1 [.slice za (inclP L i).length zc, .int .i64 (inclE L i)] (0, 0)) := by rw [hX]; exact ap_new0
 clear hX
 have oσX := o3.trans oX
 refine appK_of (rconsistency_app (hL.Old oσX) (by omega) (hR.Old oσX)) ?_
 rintro _ τ4 ⟨p4, w, rfl, hw⟩
 have o4 := oσX.trans p4
 have oX4 := oX.trans p4
 have hx4 := hx3.Old oX4
 have hy4 := hy3.Old oX4
 have hz4 := hz.Old oX4
 have x04 := (p4.2 _ (Array.getElem?_eq_some_iff.1 x0).1).trans x0
 clear hx3 hy3 hz x0 o3 oσX p4 oX4 oX
 obtain ⟨wa, wc, rfl⟩ := hw.slice
 have G4 := hG.Old o4
 have R4 := hR.Old o4
 have B4 := hB.Old o4
 have L4 := hL.Old o4
 have lf16 := leafF_len (s := s)
 have hleaf : ∀ {τ : H}, HGlob τ → App Tryd.prog (.func 14) #[] #[.string s] τ fun v σ' => σ' = τ ∧ v = .agg (digC (leafF s)).toArray := fun h => lleaf_app (by omega) h
 have rleaf : ∀ {τ : H}, Glob τ → App Tryd.prog (.func 18) #[] #[.string s] τ fun v σ' => σ' = τ ∧ v = .agg (digC (leafF s)).toArray := fun h => rleaf_app (by omega) h
 generalize leafF s = D at lf16 hleaf rleaf
 have R16 := rootF_len hL.d
 obtain ⟨d1, d2, d3, d4⟩ := dig_len lf16
 have hroot : ∀ {τ : H}, Old τ4 τ → App Tryd.prog (.func 15) #[] #[.slice a L.length c] τ fun w σ' => σ' = τ ∧ w = .agg (digC (rootF L)).toArray := fun h => lroot_app (L4.Old h) (by omega) (G4.Old h)
 have rroot : ∀ {τ : H}, Old τ4 τ → App Tryd.prog (.func 16) #[] #[.slice a L.length c] τ fun w σ' => σ' = τ ∧ w = .agg (digC (rootF L)).toArray := fun h => rroot_app (L4.Old h) (by omega) (R4.Old h)
 generalize rootF L = E at R16 hroot rroot
 obtain ⟨f1, f2, f3, f4⟩ := dig_len R16
 rw [← ap_nil (σ := τ4)]
 simp only [↓eD, eZ, ↓reduceIte, Nat.reduceEqDiff, Nat.reduceAdd, Nat.reduceMul, reduceCtorEq, Nat.reduceLeDiff, Int.reduceLT, Int.reduceLE, Int.reduceToNat, Int.reduceEq, Nat.reduceLT, undef_eq]
 refine appK_at (hleaf (G4.Old .ap)) ?_
 simp only [↓eD, eZ, ↓reduceIte, Nat.reduceEqDiff, Nat.reduceAdd, Nat.reduceMul, reduceCtorEq, Nat.reduceLeDiff, Int.reduceLT, Int.reduceLE, Int.reduceToNat, Int.reduceEq, Nat.reduceLT, rep16, d1, d2, d3, d4, digC_one, undef_eq]
 refine appK_at (hroot .ap) ?_
 simp only [↓eD, eZ, ↓reduceIte, Nat.reduceEqDiff, Nat.reduceAdd, Nat.reduceMul, reduceCtorEq, Nat.reduceLeDiff, Int.reduceLT, Int.reduceLE, Int.reduceToNat, Int.reduceEq, Nat.reduceLT, rep16, f1, f2, f3, f4, digC_one, undef_eq]
 refine appK_of (sanity_app (G4.Old .ap) (R4.Old .ap) (B4.Old .ap)) ?_
 rintro _ η ⟨oη, rfl⟩
 have s4 : (ap τ4 [.cells 1 [.slice wa (consP L m).length wc, .int .i64 (consE L m)] (0, 0), .cells 1 (digC D) (0, 0), .cells 1 (digC E) (0, 0)]).size = τ4.size + 3 := by simp [ap_size]
 have y0 : η[τ4.size]? = some (.cells 1 [.slice wa (consP L m).length wc, .int .i64 (consE L m)] (0, 0)) := (oη.2 _ (by omega)).trans ap_new0
 have y1 : η[τ4.size + 1]? = some (.cells 1 (digC D) (0, 0)) := (oη.2 _ (by omega)).trans ap_new
 have y2 : η[τ4.size + 2]? = some (.cells 1 (digC E) (0, 0)) := (oη.2 _ (by omega)).trans ap_new
 have oF : Old τ4 η := Old.ap.trans oη
 have x0η := (oF.2 _ (Array.getElem?_eq_some_iff.1 x04).1).trans x04
 have r15 := rdN_all (n := 16) y1 d1
 have r16 := rdN_all (n := 16) y2 f1
 have r13a : rd1 η ⟨τ3.size, 0, none⟩ = some (.slice za (inclP L i).length zc) := rd1_of x0η .refl rfl
 have r13b : rd1 η ⟨τ3.size, 1, none⟩ = some (.int .i64 (inclE L i)) := rd1_of x0η .refl rfl
 have r14a : rd1 η ⟨τ4.size, 0, none⟩ = some (.slice wa (consP L m).length wc) := rd1_of y0 .refl rfl
 have r14b : rd1 η ⟨τ4.size, 1, none⟩ = some (.int .i64 (consE L m)) := rd1_of y0 .refl rfl
 have q1 : aggEq (List.replicate 16 (.int .u8)) (digC E) (digC E) = some true := by rw [aggEq_dig R16 R16, decide_eq_true rfl]
 have q2 : aggEq (List.replicate 16 (.int .u8)) (digC D) (digC D) = some true := by rw [aggEq_dig lf16 lf16, decide_eq_true rfl]
 have ei : decide (inclE L i = inclE L i) = true := decide_eq_true rfl
 have ec : decide (consE L m = consE L m) = true := decide_eq_true rfl
 simp only [↓eD, eZ, ↓reduceIte, Nat.reduceEqDiff, Nat.reduceAdd, Nat.reduceMul, reduceCtorEq, Nat.reduceLeDiff, Int.reduceLT, Int.reduceLE, Int.reduceToNat, Int.reduceEq, Nat.reduceLT, r16, undef_eq]
 refine appK_at (rroot oF) ?_
 simp only [↓eD, eZ, ↓reduceIte, Nat.reduceEqDiff, Nat.reduceAdd, Nat.reduceMul, reduceCtorEq, Nat.reduceLeDiff, Int.reduceLT, Int.reduceLE, Int.reduceToNat, Int.reduceEq, Nat.reduceLT, r16, q1, r13a, undef_eq]
 have hP1 : (inclP L i).length < 1000000 := by
  unfold inclP
  split
  ·simp
  ·have := inclF_len (L := L) (i := i.toNat) (Nat.le_refl _); omega
 have hP2 : (consP L m).length < 1000000 := by
  unfold consP
  split
  ·simp
  ·split
   ·simp
   ·have := consF_len (L := L) (m := m.toNat) (mark := true) (Nat.le_refl _); omega
 refine appK_at (same_app (hx4.Old oF) (hz4.Old oF) hP1) ?_
 rw [decide_eq_true rfl]
 simp only [↓eD, eZ, ↓reduceIte, Nat.reduceEqDiff, Nat.reduceAdd, Nat.reduceMul, reduceCtorEq, Nat.reduceLeDiff, Int.reduceLT, Int.reduceLE, Int.reduceToNat, Int.reduceEq, Nat.reduceLT, r13b, ei, r14a, undef_eq]
 refine appK_at (same_app (hy4.Old oF) (hw.Old oF) hP2) ?_
 rw [decide_eq_true rfl]
 simp only [↓eD, eZ, ↓reduceIte, Nat.reduceEqDiff, Nat.reduceAdd, Nat.reduceMul, reduceCtorEq, Nat.reduceLeDiff, Int.reduceLT, Int.reduceLE, Int.reduceToNat, Int.reduceEq, Nat.reduceLT, r14b, ec, r15, undef_eq]
 refine appK_at (rleaf (R4.Old oF)) ?_
 simp only [↓eD, eZ, ↓reduceIte, Nat.reduceEqDiff, Nat.reduceAdd, Nat.reduceMul, reduceCtorEq, Nat.reduceLeDiff, Int.reduceLT, Int.reduceLE, Int.reduceToNat, Int.reduceEq, Nat.reduceLT, q2, r15, r16, undef_eq]
 refine appK_at (lnode_app lf16 R16 (G4.Old oF)) ?_
 simp only [↓eD, eZ, ↓reduceIte, Nat.reduceEqDiff, Nat.reduceAdd, Nat.reduceMul, reduceCtorEq, Nat.reduceLeDiff, Int.reduceLT, Int.reduceLE, Int.reduceToNat, Int.reduceEq, Nat.reduceLT, r15, r16, undef_eq]
 refine appK_at (rnode_app lf16 R16 (R4.Old oF)) ?_
 have N16 : (nodeF D E).length = 16 := nodeF_len
 have q3 : aggEq (List.replicate 16 (.int .u8)) (digC (nodeF D E)) (digC (nodeF D E)) = some true := by rw [aggEq_dig N16 N16, decide_eq_true rfl]
 simp only [↓eD, eZ, ↓reduceIte, Nat.reduceEqDiff, Nat.reduceAdd, Nat.reduceMul, reduceCtorEq, Nat.reduceLeDiff, Int.reduceLT, Int.reduceLE, Int.reduceToNat, Int.reduceEq, Nat.reduceLT, q3, undef_eq]
 exact o4.trans oF
end Go.Proofs.YtjgbbhfihcmphaaDoor
