/- Walks of the functions that the claim reaches. Conditions: none. -/
import Derived.Test.YtajchhghjjlahaaDoorId
set_option linter.all false
set_option maxRecDepth 100000
set_option maxHeartbeats 4000000
namespace Go.Proofs.YtajchhghjjlahaaDoor
open Go Go.Cn Go.RowKit
attribute [local irreducible] evL sem onG onI onV
def exS (at_ : Int) : List Seg := [⟨0, ⟨#[97, 98]⟩⟩, ⟨at_, ⟨#[99]⟩⟩]
def exI (e at_ : Int) : Img := ⟨e, 1, exS at_, []⟩
theorem ImgR.lit {σ0 σ : H} {e p : Int} {S : List Seg} {b ver : Nat} (he : I64 e) (hp : I64 p) (hs : ∀ s ∈ S, I64 s.at_ ∧ s.data.size ≤ 140737488351232) (hn : S.length < 1000) (hb : σ0.size ≤ b) (h : σ[b]? = some (.cells ver (S.map segV).flatten (0, 0))) :
  ImgR σ (imgC e p (.slice (some ⟨b, 0, none⟩) S.length S.length) (.slice none 0 0)) ⟨e, p, S, []⟩ (some ⟨b, 0, none⟩) S.length none 0 := by
 have hl : (S.map segV).flatten.length = (S.map segV).length * 2 := flatten_length segV_rows
 have g : Grown σ0 σ 2 (.slice (some ⟨b, 0, none⟩) S.length S.length) (S.map segV).flatten S.length := Grown.lit (by rw [hl, List.length_map]) (by unfold big; omega) hb h
 have g' : Grown σ0 σ 2 (.slice (some ⟨b, 0, none⟩) S.length S.length) (S.map segV).flatten (S.map segV).length := by rw [List.length_map]; exact g
 exact ⟨rfl, g'.Row segV_rows, ⟨none, 0, rfl, (fun i x h => by simp at h)⟩, (fun d h => by cases h), g.cap, ⟨none, 0, 0, rfl, (by decide), .inl rfl⟩, he, hp, hs, (by dsimp only; omega), (by simp)⟩
theorem ImgR.c0 {σ : H} {l : List Value} {I : Img} {a1 a2 : Option Addr} {b1 b2 : Nat} (h : ImgR σ l I a1 b1 a2 b2) : l = [.int .i64 I.e, .int .i64 I.p, .slice a1 I.S.length b1, .slice a2 I.D.length b2] := h.l
theorem example_app {σ : H} : App Tryd.prog (.func 30) #[] #[] σ fun v σ' => Old σ σ' ∧ ∃ a c, v = .agg #[.int .i64 4, .int .i64 1, .slice a 2 c, .slice none 0 0] ∧ ImgR σ' [.int .i64 4, .int .i64 1, .slice a 2 c, .slice none 0 0] (exI 4 4) a c none 0 := by
 refine App.of_sem mixed Tryd.func30 t30 k30 r30 (Nat.le_of_ble_eq_true rfl) ?_
 rw [← ap_nil (σ := σ)]
 unfold s30
 simp only [↓eD, eZ, ↓reduceIte, Nat.reduceEqDiff, Nat.reduceAdd, Nat.reduceMul, reduceCtorEq, Nat.reduceLeDiff, Int.reduceLT, Int.reduceLE, Int.reduceToNat, Int.reduceEq, Nat.reduceLT, undef_eq]
 rw [ap_nil]
 refine ⟨.ap, _, _, rfl, ?_⟩
 exact ImgR.lit (σ0 := σ) (S := exS 4) (ver := 0) (by unfold I64; omega) (by unfold I64; omega) (fun s hs => by
  simp only [exS, List.mem_cons, List.not_mem_nil, or_false] at hs
  rcases hs with rfl | rfl <;> exact ⟨by unfold I64; dsimp only; omega, by decide⟩) (by decide) (by omega) (by rw [ap_new]; rfl)
theorem second_app {σ : H} {at_ : Int} (ha : I64 at_) : App Tryd.prog (.func 31) #[] #[.int .i64 at_] σ fun v σ' => Old σ σ' ∧ ∃ a c, v = .agg #[.int .i64 4, .int .i64 1, .slice a 2 c, .slice none 0 0] ∧ ImgR σ' [.int .i64 4, .int .i64 1, .slice a 2 c, .slice none 0 0] (exI 4 at_) a c none 0 := by
 refine App.of_sem mixed Tryd.func31 t31 k31 r31 (Nat.le_of_ble_eq_true rfl) ?_
 rw [← ap_nil (σ := σ)]
 unfold s31
 simp only [↓eD, eZ, ↓reduceIte, Nat.reduceEqDiff, Nat.reduceAdd, Nat.reduceMul, reduceCtorEq, Nat.reduceLeDiff, Int.reduceLT, Int.reduceLE, Int.reduceToNat, Int.reduceEq, Nat.reduceLT, undef_eq]
 rw [ap_nil]
 refine ⟨.ap, _, _, rfl, ?_⟩
 exact ImgR.lit (σ0 := σ) (S := exS at_) (ver := 0) (by unfold I64; omega) (by unfold I64; omega) (fun s hs => by
  simp only [exS, List.mem_cons, List.not_mem_nil, or_false] at hs
  rcases hs with rfl | rfl
  ·exact ⟨by unfold I64; dsimp only; omega, by decide⟩
  ·exact ⟨ha, Nat.le_of_ble_eq_true rfl⟩) (Nat.le_of_ble_eq_true rfl) (by omega) (by rw [ap_new]; rfl)
theorem x_c0 : checkI (exI 4 4) = 0 := by decide
theorem x_c1 : checkI (exI 2 4) = 7 := by decide
theorem x_c2 : checkI (exI 128 4) = 7 := by decide
theorem x_c3 : checkI (exI 4 1) = 3 := by decide
theorem x_c4 : checkI (exI 4 2) = 0 := by decide
theorem x_c5 : checkI (exI 4 128) = 3 := by decide
def zB (n : Nat) : List Int := List.replicate n 0
def ldB : List Int := [97, 98, 0, 0, 99] ++ zB 123
def wrB1 : List Int := [0, 1, 0, 2] ++ zB 252
def wrB2 : List Int := [0, 1, 0, 2] ++ zB 124 ++ [3] ++ zB 127
theorem x_l : loadB (exI 4 4) = ldB := by decide +kernel
theorem x_w1 : wrB 2 (List.replicate 256 0) 1 ⟨#[1, 0, 2]⟩ = wrB1 := by decide +kernel
theorem x_w2 : wrB 2 wrB1 128 ⟨#[3]⟩ = wrB2 := by decide +kernel
def wantI : Img := ⟨4, 2, [⟨1, ⟨#[1, 0, 2]⟩⟩, ⟨128, ⟨#[3]⟩⟩], []⟩
def wholeI : Img := ⟨4, 1, [⟨0, ⟨#[97, 98, 0, 0, 99]⟩⟩], []⟩
theorem x_o1 : ofI 1 ldB 4 [] = wholeI := by kernel_rfl
theorem x_o2 : ofI 2 wrB2 4 [] = wantI := by kernel_rfl
theorem x_fit {I : Img} (h1 : I.S.length ≤ 2) (h2 : I.D.length = 0) (h3 : I.S.all (fun s => decide (s.data.size ≤ 5)) = true) : I.fit :=
 ⟨by omega, by omega, fun s hs => by have := of_decide_eq_true (List.all_eq_true.1 h3 s hs); omega⟩
def xD1 : List Int := [230, 168, 202, 97, 168, 234, 233, 199, 26, 22, 241, 34, 195, 183, 188, 173]
def xD2 : List Int := [175, 191, 222, 204, 64, 61, 175, 218, 189, 33, 218, 169, 234, 18, 3, 35]
theorem x_d1 : digI (exI 4 4) = xD1 := by kernel_rfl
theorem x_d2 : digI (exI 4 2) = xD2 := by kernel_rfl
theorem x_dec : decI (encI (exI 4 4)) = (exI 4 4, 0) := by kernel_rfl
theorem x_ld : le4 (ldB.getD 0 0) (ldB.getD (0 + 1) 0) (ldB.getD (0 + 2) 0) (ldB.getD (0 + 3) 0) = 25185 := by decide +kernel
theorem x_ld4 : le4 (ldB.getD 4 0) (ldB.getD (4 + 1) 0) (ldB.getD (4 + 2) 0) (ldB.getD (4 + 3) 0) = 99 := by decide +kernel
theorem sanity_app {σ : H} (hG : HGlob σ) : App Tryd.prog (.func 10) #[] #[] σ fun v σ' => σ' = σ ∧ v = .bool true := by
 refine App.forget (App.of_sem mixed Tryd.func10 t10 k10 r10 (Nat.le_of_ble_eq_true rfl) ?_)
 unfold s10
 simp only [↓eD, eZ, ↓reduceIte, Nat.reduceEqDiff, Nat.reduceAdd, Nat.reduceMul, reduceCtorEq, Nat.reduceLeDiff, Int.reduceLT, Int.reduceLE, Int.reduceToNat, Int.reduceEq, Nat.reduceLT, undef_eq]
 refine appK_of example_app ?_
 rintro _ σ0 ⟨o0, a1, b1, rfl, hX⟩
 rw [← ap_nil (σ := σ0)]
 simp only [↓eD, eZ, ↓reduceIte, Nat.reduceEqDiff, Nat.reduceAdd, Nat.reduceMul, reduceCtorEq, Nat.reduceLeDiff, Int.reduceLT, Int.reduceLE, Int.reduceToNat, Int.reduceEq, Nat.reduceLT, undef_eq]
 obtain ⟨σ1, hσ1⟩ : ∃ σ1, σ1 = ap σ0 [.cells 1 [.int .i64 4, .int .i64 1, .slice a1 2 b1, .slice none 0 0] (0, 0), .cells 2 [.int .i64 2, .int .i64 1, .slice a1 2 b1, .slice none 0 0] (0, 0), .cells 2 [.int .i64 128, .int .i64 1, .slice a1 2 b1, .slice none 0 0] (0, 0)] := ⟨_, rfl⟩
 rw [← hσ1]
 have o1 : Old σ0 σ1 := by rw [hσ1]; exact .ap
 have s1 : σ1.size = σ0.size + 3 := by rw [hσ1]; simp [ap_size]
 have Q0 : ∀ τ, Old σ1 τ → τ[σ0.size]? = some (.cells 1 [.int .i64 4, .int .i64 1, .slice a1 2 b1, .slice none 0 0] (0, 0)) := fun τ h => (h.2 _ (by omega)).trans (by rw [hσ1, ap_new0]; rfl)
 have Q1 : ∀ τ, Old σ1 τ → τ[σ0.size + 1]? = some (.cells 2 [.int .i64 2, .int .i64 1, .slice a1 2 b1, .slice none 0 0] (0, 0)) := fun τ h => (h.2 _ (by omega)).trans (by rw [hσ1, ap_new]; rfl)
 have Q2 : ∀ τ, Old σ1 τ → τ[σ0.size + 2]? = some (.cells 2 [.int .i64 128, .int .i64 1, .slice a1 2 b1, .slice none 0 0] (0, 0)) := fun τ h => (h.2 _ (by omega)).trans (by rw [hσ1, ap_new]; rfl)
 clear hσ1
 have r0 : ∀ τ, Old σ1 τ → rdN τ ⟨σ0.size, 0, none⟩ 4 = some [.int .i64 4, .int .i64 1, .slice a1 2 b1, .slice none 0 0] := fun τ h => rdN_all (Q0 τ h) rfl
 have r1 : ∀ τ, Old σ1 τ → rdN τ ⟨σ0.size + 1, 0, none⟩ 4 = some [.int .i64 2, .int .i64 1, .slice a1 2 b1, .slice none 0 0] := fun τ h => rdN_all (Q1 τ h) rfl
 have r2 : ∀ τ, Old σ1 τ → rdN τ ⟨σ0.size + 2, 0, none⟩ 4 = some [.int .i64 128, .int .i64 1, .slice a1 2 b1, .slice none 0 0] := fun τ h => rdN_all (Q2 τ h) rfl
 have hX1 : ∀ τ, Old σ1 τ → ImgR τ [.int .i64 4, .int .i64 1, .slice a1 2 b1, .slice none 0 0] (exI 4 4) a1 b1 none 0 := fun τ h => (hX.Old o1).Old h
 have hY1 : ∀ (e : Int) τ, I64 e → Old σ1 τ → ImgR τ [.int .i64 e, .int .i64 1, .slice a1 2 b1, .slice none 0 0] (exI e 4) a1 b1 none 0 := fun e τ he h =>
  have g := hX1 τ h
  ⟨rfl, g.S, g.D, g.d, g.c1, g.c2, he, g.p, g.s, g.n1, g.n2⟩
 have rf : ∀ τ : H, Old τ τ := fun τ => ⟨Nat.le_refl _, fun c hc => rfl⟩
 refine appK_at (lcheck_app (hX1 σ1 (rf _))) ?_
 rw [x_c0]
 have dd0 : ∀ n : Int, decide (n = n) = true := fun n => decide_eq_true rfl
 have i2 : I64 2 := by unfold I64; omega
 have i128 : I64 128 := by unfold I64; omega
 have i1 : I64 1 := by unfold I64; omega
 simp only [↓eD, eZ, ↓reduceIte, Nat.reduceEqDiff, Nat.reduceAdd, Nat.reduceMul, reduceCtorEq, Nat.reduceLeDiff, Int.reduceLT, Int.reduceLE, Int.reduceToNat, Int.reduceEq, Nat.reduceLT, dd0, r1 σ1 (rf _), Bool.not_true, undef_eq]
 refine appK_at (lcheck_app (hY1 2 σ1 i2 (rf _))) ?_
 rw [x_c1]
 simp only [↓eD, eZ, ↓reduceIte, Nat.reduceEqDiff, Nat.reduceAdd, Nat.reduceMul, reduceCtorEq, Nat.reduceLeDiff, Int.reduceLT, Int.reduceLE, Int.reduceToNat, Int.reduceEq, Nat.reduceLT, dd0, r2 σ1 (rf _), Bool.not_true, undef_eq]
 refine appK_at (lcheck_app (hY1 128 σ1 i128 (rf _))) ?_
 rw [x_c2]
 simp only [↓eD, eZ, ↓reduceIte, Nat.reduceEqDiff, Nat.reduceAdd, Nat.reduceMul, reduceCtorEq, Nat.reduceLeDiff, Int.reduceLT, Int.reduceLE, Int.reduceToNat, Int.reduceEq, Nat.reduceLT, dd0, Bool.not_true, undef_eq]
 refine appK_of (second_app i1) ?_
 rintro _ σ2 ⟨o2, a2, b2, rfl, hS2⟩
 simp only [↓eD, eZ, ↓reduceIte, Nat.reduceEqDiff, Nat.reduceAdd, Nat.reduceMul, reduceCtorEq, Nat.reduceLeDiff, Int.reduceLT, Int.reduceLE, Int.reduceToNat, Int.reduceEq, Nat.reduceLT, undef_eq]
 refine appK_at (lcheck_app hS2) ?_
 rw [x_c3]
 simp only [↓eD, eZ, ↓reduceIte, Nat.reduceEqDiff, Nat.reduceAdd, Nat.reduceMul, reduceCtorEq, Nat.reduceLeDiff, Int.reduceLT, Int.reduceLE, Int.reduceToNat, Int.reduceEq, Nat.reduceLT, dd0, Bool.not_true, undef_eq]
 clear hS2
 refine appK_of (second_app i2) ?_
 rintro _ σ3 ⟨o3, a3, b3, rfl, hS3⟩
 simp only [↓eD, eZ, ↓reduceIte, Nat.reduceEqDiff, Nat.reduceAdd, Nat.reduceMul, reduceCtorEq, Nat.reduceLeDiff, Int.reduceLT, Int.reduceLE, Int.reduceToNat, Int.reduceEq, Nat.reduceLT, undef_eq]
 refine appK_at (lcheck_app hS3) ?_
 rw [x_c4]
 simp only [↓eD, eZ, ↓reduceIte, Nat.reduceEqDiff, Nat.reduceAdd, Nat.reduceMul, reduceCtorEq, Nat.reduceLeDiff, Int.reduceLT, Int.reduceLE, Int.reduceToNat, Int.reduceEq, Nat.reduceLT, dd0, Bool.not_true, undef_eq]
 clear hS3
 refine appK_of (second_app i128) ?_
 rintro _ σ4 ⟨o4, a4, b4, rfl, hS4⟩
 simp only [↓eD, eZ, ↓reduceIte, Nat.reduceEqDiff, Nat.reduceAdd, Nat.reduceMul, reduceCtorEq, Nat.reduceLeDiff, Int.reduceLT, Int.reduceLE, Int.reduceToNat, Int.reduceEq, Nat.reduceLT, undef_eq]
 refine appK_at (lcheck_app hS4) ?_
 rw [x_c5]
 clear hS4
 have o14 : Old σ1 σ4 := (o2.trans o3).trans o4
 simp only [↓eD, eZ, ↓reduceIte, Nat.reduceEqDiff, Nat.reduceAdd, Nat.reduceMul, reduceCtorEq, Nat.reduceLeDiff, Int.reduceLT, Int.reduceLE, Int.reduceToNat, Int.reduceEq, Nat.reduceLT, dd0, Bool.not_true, r0 σ4 o14, undef_eq]
 refine appK_of (lload_app (hX1 σ4 o14)) ?_
 rintro _ σ5 ⟨o5, m, rfl, hM, hone⟩
 have nM : loadN (exI 4 4) = 1 := by decide
 rw [nM, x_l] at hM
 rw [x_c0]
 obtain ⟨ma, mc, rfl⟩ := hM.w.slice
 clear o2 o3 o4
 have o15 := o14.trans o5
 rw [← ap_nil (σ := σ5)]
 simp only [↓eD, eZ, ↓reduceIte, Nat.reduceEqDiff, Nat.reduceAdd, Nat.reduceMul, reduceCtorEq, Nat.reduceLeDiff, Int.reduceLT, Int.reduceLE, Int.reduceToNat, Int.reduceEq, Nat.reduceLT, dd0, Bool.not_true, undef_eq]
 obtain ⟨σ6, hσ6⟩ : ∃ σ6, σ6 = ap σ5 [.cells 1 [.slice ma 1 mc] (0, 0)] := ⟨_, rfl⟩
 rw [← hσ6]
 have o6 : Old σ5 σ6 := by rw [hσ6]; exact .ap
 have Q4 : ∀ τ, Old σ6 τ → rdN τ ⟨σ5.size, 0, none⟩ 1 = some [.slice ma 1 mc] := fun τ h => rdN_all (ver := 1) ((h.2 _ (by rw [hσ6, ap_size]; simp)).trans (by rw [hσ6, ap_new0]; rfl)) rfl
 clear hσ6
 have o16 := o15.trans o6
 have hM6 := hM.Old o6
 refine appK_at (load4_app (k := 0) hM6 (by omega) (by omega) rfl) ?_
 rw [x_ld]
 simp only [↓eD, eZ, ↓reduceIte, Nat.reduceEqDiff, Nat.reduceAdd, Nat.reduceMul, reduceCtorEq, Nat.reduceLeDiff, Int.reduceLT, Int.reduceLE, Int.reduceToNat, Int.reduceEq, Nat.reduceLT, Q4 σ6 (rf _), undef_eq]
 refine appK_at (load4_app (k := 4) hM6 (by omega) (by omega) rfl) ?_
 rw [x_ld4]
 simp only [↓eD, eZ, ↓reduceIte, Nat.reduceEqDiff, Nat.reduceAdd, Nat.reduceMul, reduceCtorEq, Nat.reduceLeDiff, Int.reduceLT, Int.reduceLE, Int.reduceToNat, Int.reduceEq, Nat.reduceLT, r0 σ6 o16, undef_eq]
 refine appK_of (lcpus_app (n := 2) (hX1 σ6 o16)) ?_
 rintro _ σ7 ⟨o7, u, rfl, hU⟩
 have eU : cpuE (exI 4 4) 2 = 0 := by decide
 have nU : cpuN (exI 4 4) 2 = 2 := by decide
 have cU : (cpusF (exI 4 4).e 2).flatten = cpuV 4 0 false ++ cpuV 4 1 true := rfl
 rw [nU, cU] at hU
 rw [eU]
 have o17 := o16.trans o7
 obtain ⟨ua, uc, rfl⟩ := hU.slice
 obtain ⟨ub, uo, rfl, hUr⟩ := hU.whl.at (by omega)
 have hone4 := hone
 simp only [↓eD, eZ, ↓reduceIte, Nat.reduceEqDiff, Nat.reduceAdd, Nat.reduceMul, reduceCtorEq, Nat.reduceLeDiff, Int.reduceLT, Int.reduceLE, Int.reduceToNat, Int.reduceEq, Nat.reduceLT, Q4 σ7 o7, undef_eq]
 have hno : ∀ τ : H, PagesR τ (.slice none 0 0) [] := fun τ => ⟨⟨rfl, .inl ⟨rfl, none, 0, rfl, .inl rfl⟩⟩, fun d hd => by cases hd⟩
 have i4 : I64 4 := by unfold I64; omega
 refine appK_of (lof_app (D := []) (e := 4) (hM6.Old o7) (hno _) i4 (by omega) (by simp)) ?_
 rintro _ σ8 ⟨o8, l8, a8, b8, c8, d8, rfl, hI8⟩
 have eO : ofE 1 4 ([] : List (List Int)).length = 0 := by decide
 rw [x_o1] at hI8
 rw [eO]
 have l8e : l8 = [.int .i64 4, .int .i64 1, .slice a8 1 b8, .slice c8 0 d8] := hI8.c0
 subst l8e
 have o18 := o17.trans o8
 have r08 : ∀ M, rdN (ap σ8 M) ⟨σ0.size, 0, none⟩ 4 = some [.int .i64 4, .int .i64 1, .slice a1 2 b1, .slice none 0 0] := fun M => r0 _ (o18.trans .ap)
 rw [← ap_nil (σ := σ8)]
 simp only [↓eD, eZ, ↓reduceIte, Nat.reduceEqDiff, Nat.reduceAdd, Nat.reduceMul, reduceCtorEq, Nat.reduceLeDiff, Int.reduceLT, Int.reduceLE, Int.reduceToNat, Int.reduceEq, Nat.reduceLT, r08, undef_eq]
 obtain ⟨σ9, hσ9⟩ : ∃ σ9, σ9 = ap σ8 [.cells 1 [.int .i64 4, .int .i64 1, .slice a8 1 b8, .slice c8 0 d8] (0, 0)] := ⟨_, rfl⟩
 rw [← hσ9]
 have o9 : Old σ8 σ9 := by rw [hσ9]; exact .ap
 have r8 : ∀ τ, Old σ9 τ → rdN τ ⟨σ8.size, 0, none⟩ 4 = some [.int .i64 4, .int .i64 1, .slice a8 1 b8, .slice c8 0 d8] := fun τ h => rdN_all (ver := 1) ((h.2 _ (by rw [hσ9, ap_size]; simp)).trans (by rw [hσ9, ap_new0]; rfl)) rfl
 clear hσ9
 have o19 := o18.trans o9
 have fX : (exI 4 4).fit := x_fit (by decide) rfl (by decide)
 refine appK_of (lenc_app (hX1 σ9 o19) fX) ?_
 rintro _ σ10 ⟨o10, hE⟩
 have hEw := hE.whl
 obtain ⟨ea, ec, rfl⟩ := hE.slice
 have hbE : Byt (encI (exI 4 4)) := by unfold Byt; decide +kernel
 have hlE : (encI (exI 4 4)).length < 1000000 := by decide +kernel
 simp only [↓eD, eZ, ↓reduceIte, Nat.reduceEqDiff, Nat.reduceAdd, Nat.reduceMul, reduceCtorEq, Nat.reduceLeDiff, Int.reduceLT, Int.reduceLE, Int.reduceToNat, Int.reduceEq, Nat.reduceLT, undef_eq]
 refine appK_of (ldecI_app hEw hbE hlE) ?_
 rintro _ σ11 ⟨o11, l11, a11, b11, c11, d11, rfl, hI11⟩
 rw [x_dec] at hI11 ⊢
 have l11e : l11 = [.int .i64 4, .int .i64 1, .slice a11 2 b11, .slice c11 0 d11] := hI11.c0
 subst l11e
 have d00 : decide ((0 : Int) = 0) = true := rfl
 have d22 : decide (((2 : Nat) : Int) = 2) = true := rfl
 have q0 : ∀ M, rd1 (ap σ11 M) ⟨ub, uo, none⟩ = some (.int .u32 4) := fun M => rd1_row (j := 0) (rdN_Old ((((o8.trans o9).trans o10).trans o11).trans .ap) hUr) rfl
 have q : ∀ (j : Nat) (v : Value), (cpuV 4 0 false ++ cpuV 4 1 true)[j]? = some v → ∀ M, rd1 (ap σ11 M) ⟨ub, uo + j, none⟩ = some v := fun j v hj M => rd1_row (rdN_Old ((((o8.trans o9).trans o10).trans o11).trans .ap) hUr) hj
 have q30 := q 30 _ rfl
 have q27 := q 27 _ rfl
 have q57 := q 57 _ rfl
 have q25 : ∀ M, rd1 (ap σ11 M) ⟨ub, uo + 17 + 8, none⟩ = some (.int .u32 0) := q 25 _ rfl
 have q57' : ∀ M, rd1 (ap σ11 M) ⟨ub, uo + 30 + 27, none⟩ = some (.bool true) := q 57 _ rfl
 have q55 : ∀ M, rd1 (ap σ11 M) ⟨ub, uo + 30 + 17 + 8, none⟩ = some (.int .u32 1) := q 55 _ rfl
 have n89 : ((8 : Int) < ((9 : Nat) : Int)) = True := by simp
 have b0 : (0:Int) ≤ 0 ∧ (0:Int) < ((2 : Nat) : Int) := by decide
 have b1' : (0:Int) ≤ 1 ∧ (1:Int) < ((2 : Nat) : Int) := by decide
 have t0 : Int.toNat 0 = 0 := rfl
 have t1 : Int.toNat 1 = 1 := rfl
 have t8 : Int.toNat 8 = 8 := rfl
 rw [← ap_nil (σ := σ11)]
 simp only [↓eD, eZ, ↓reduceIte, Nat.reduceEqDiff, Nat.reduceAdd, Nat.reduceMul, reduceCtorEq, Nat.reduceLeDiff, Int.reduceLT, Int.reduceLE, Int.reduceToNat, Int.reduceEq, Nat.reduceLT, d00, d22, b0, b1', t0, t1, t8, q0, q30, q27, q57, q57', q25, q55, n89, dd0, Bool.not_true, undef_eq]
 obtain ⟨σ12, hσ12⟩ : ∃ σ12, σ12 = ap σ11 [.cells 1 [.int .i64 4, .int .i64 1, .slice a11 2 b11, .slice c11 0 d11] (0, 0)] := ⟨_, rfl⟩
 rw [← hσ12]
 have o12 : Old σ11 σ12 := by rw [hσ12]; exact .ap
 have r11 : ∀ τ, Old σ12 τ → rdN τ ⟨σ11.size, 0, none⟩ 4 = some [.int .i64 4, .int .i64 1, .slice a11 2 b11, .slice c11 0 d11] := fun τ h => rdN_all (ver := 1) ((h.2 _ (by rw [hσ12, ap_size]; simp)).trans (by rw [hσ12, ap_new0]; rfl)) rfl
 clear hσ12 q0 q q30 q27 q57 q57' q25 q55 hU hUr hE hEw
 have o9b := ((o10.trans o11).trans o12)
 have o1b := o19.trans o9b
 refine appK_of new_app ?_
 rintro _ σ13 ⟨o13, v, rfl, hV, hv1, -⟩
 have nV : newN 2 = 2 := by decide
 rw [nV] at hV
 have z2 : (if (1:Int) ≤ 2 ∧ (2:Int) ≤ 64 then (0:Int) else 1) = 0 := by decide
 rw [z2]
 obtain ⟨va, vc, rfl⟩ := hV.w.slice
 rw [← ap_nil (σ := σ13)]
 simp only [↓eD, eZ, ↓reduceIte, Nat.reduceEqDiff, Nat.reduceAdd, Nat.reduceMul, reduceCtorEq, Nat.reduceLeDiff, Int.reduceLT, Int.reduceLE, Int.reduceToNat, Int.reduceEq, Nat.reduceLT, undef_eq]
 refine appK_of (write_app (hV.Old .ap) (by omega) (by omega) (by omega) (by omega)) ?_
 rintro _ σ14 ⟨o14', v2, rfl, hV2, -⟩
 have w2 : wrB 2 (List.replicate (128 * 2) 0) 1 ⟨#[1, 0, 2]⟩ = wrB1 := x_w1
 have k2 : wrOk 2 1 ⟨#[1, 0, 2]⟩ = true := by decide
 rw [w2] at hV2
 rw [k2]
 obtain ⟨va2, vc2, rfl⟩ := hV2.w.slice
 rw [← ap_nil (σ := σ14)]
 simp only [↓eD, eZ, ↓reduceIte, Nat.reduceEqDiff, Nat.reduceAdd, Nat.reduceMul, reduceCtorEq, Nat.reduceLeDiff, Int.reduceLT, Int.reduceLE, Int.reduceToNat, Int.reduceEq, Nat.reduceLT, undef_eq]
 refine appK_of (write_app (hV2.Old .ap) (by omega) (by omega) (by omega) (by omega)) ?_
 rintro _ σ15 ⟨o15', v3, rfl, hV3, hv3⟩
 rw [x_w2] at hV3
 have k3 : wrOk 2 128 ⟨#[3]⟩ = true := by decide
 rw [k3]
 obtain ⟨va3, vc3, rfl⟩ := hV3.w.slice
 have z14 : σ15[σ14.size]? = some (.cells 1 [.slice va2 2 vc2] (0, 0)) := (o15'.2 _ (by rw [ap_size]; simp)).trans (by rw [ap_new0]; rfl)
 have k14 : wrN σ15 ⟨σ14.size, 0, none⟩ [.slice va3 2 vc3] = some (σ15.setIfInBounds σ14.size (.cells 2 [.slice va3 2 vc3] (0, 0))) := by
  rw [wrN_eq, if_neg (by simp), z14, wrc_cells, if_pos ⟨by simp, rfl⟩]
  rfl
 have g14 := rdN_all (n := 1) (get_set (k := .cells 2 [.slice va3 2 vc3] (0, 0)) z14) rfl
 have hV4 : MemV (σ15.setIfInBounds σ14.size (.cells 2 [.slice va3 2 vc3] (0, 0))) (.slice va3 2 vc3) 2 wrB2 := by
  refine ⟨Whl.oldB (b := σ14.size) hV3.w (fun q hq => ?_) ⟨by simp, fun q h1 h2 => get_set_ne (Ne.symm h2)⟩ (by omega), hV3.l, hV3.b⟩
  rcases hv3 q hq with h9 | h9
  ·rw [ap_size] at h9; simp at h9; omega
  ·obtain ⟨k, o, hk, hr⟩ := hV2.w.at (by omega)
   have := rdN_lt hr (by omega)
   subst hk
   have h10 : some k = some q := h9
   injection h10 with h10
   omega
 have s1213 := o13.1
 have s1314 := o14'.1
 rw [ap_size] at s1314
 have o12T : Old σ12 (σ15.setIfInBounds σ14.size (.cells 2 [.slice va3 2 vc3] (0, 0))) := (((o13.trans .ap).trans o14').trans (Old.ap.trans o15')).set (by omega)
 simp only [↓eD, eZ, ↓reduceIte, Nat.reduceEqDiff, Nat.reduceAdd, Nat.reduceMul, reduceCtorEq, Nat.reduceLeDiff, Int.reduceLT, Int.reduceLE, Int.reduceToNat, Int.reduceEq, Nat.reduceLT, k14, g14, undef_eq]
 obtain ⟨T, hT⟩ : ∃ T, T = σ15.setIfInBounds σ14.size (.cells 2 [.slice va3 2 vc3] (0, 0)) := ⟨_, rfl⟩
 rw [← hT] at hV4 o12T ⊢
 clear hT g14 k14 z14 hV3 hv3 hV2 hV o13 o14' o15' s1213 s1314
 refine appK_of (lof_app (D := []) (e := 4) hV4 (hno _) i4 (by omega) (by simp)) ?_
 rintro _ σ16 ⟨o16', l16, a16, b16, c16, d16, rfl, hI16⟩
 have eO2 : ofE 2 4 ([] : List (List Int)).length = 0 := by decide
 rw [x_o2] at hI16
 rw [eO2]
 have l16e : l16 = [.int .i64 4, .int .i64 2, .slice a16 2 b16, .slice c16 0 d16] := hI16.c0
 subst l16e
 have o12b := o12T.trans o16'
 have fO : wantI.fit := x_fit (by decide) rfl (by decide)
 have fW : wholeI.fit := x_fit (by decide) rfl (by decide)
 rw [← ap_nil (σ := σ16)]
 simp only [↓eD, eZ, ↓reduceIte, Nat.reduceEqDiff, Nat.reduceAdd, Nat.reduceMul, reduceCtorEq, Nat.reduceLeDiff, Int.reduceLT, Int.reduceLE, Int.reduceToNat, Int.reduceEq, Nat.reduceLT, d00, undef_eq]
 obtain ⟨σ17, hσ17⟩ : ∃ σ17, σ17 = ap σ16 [.cells 1 [.int .i64 4, .int .i64 2, .slice a16 2 b16, .slice c16 0 d16] (0, 0), .cells 0 [.int .i64 1, .string ⟨#[1, 0, 2]⟩, .int .i64 128, .string ⟨#[3]⟩] (0, 0), .cells 1 [.int .i64 4, .int .i64 2, .slice (some ⟨σ16.size + 1, 0, none⟩) 2 2, .slice none 0 0] (0, 0)] := ⟨_, rfl⟩
 rw [← hσ17]
 have o17' : Old σ16 σ17 := by rw [hσ17]; exact .ap
 have hW : ImgR σ17 [.int .i64 4, .int .i64 2, .slice (some ⟨σ16.size + 1, 0, none⟩) 2 2, .slice none 0 0] wantI (some ⟨σ16.size + 1, 0, none⟩) 2 none 0 :=
  ImgR.lit (σ0 := σ16) (S := wantI.S) (ver := 0) i4 i2 (fun s hs => by
   simp only [wantI, List.mem_cons, List.not_mem_nil, or_false] at hs
   rcases hs with rfl | rfl <;> exact ⟨by unfold I64; dsimp only; omega, by decide⟩) (by decide) (by omega) (by rw [hσ17, ap_new]; rfl)
 clear hσ17
 refine appK_at (rsame_app (hI16.Old o17') fO hW fO) ?_
 have dS : decide (bytesS (encI wantI) = bytesS (encI wantI)) = true := decide_eq_true rfl
 rw [dS]
 have o17T : Old σ12 σ17 := o12b.trans o17'
 have e31 : decide ((25185 : Int) = 25185) = true := rfl
 have e32 : decide ((99 : Int) = 99) = true := rfl
 have r8' : ∀ M, rdN (ap σ17 M) ⟨σ8.size, 0, none⟩ 4 = some [.int .i64 4, .int .i64 1, .slice a8 1 b8, .slice c8 0 d8] := fun M => r8 _ ((o9b.trans o17T).trans .ap)
 rw [← ap_nil (σ := σ17)]
 simp only [↓eD, eZ, ↓reduceIte, Nat.reduceEqDiff, Nat.reduceAdd, Nat.reduceMul, reduceCtorEq, Nat.reduceLeDiff, Int.reduceLT, Int.reduceLE, Int.reduceToNat, Int.reduceEq, Nat.reduceLT, e31, e32, r8', undef_eq]
 obtain ⟨σ18, hσ18⟩ : ∃ σ18, σ18 = ap σ17 [.cells 0 [.int .i64 0, .string ⟨#[97, 98, 0, 0, 99]⟩] (0, 0), .cells 1 [.int .i64 4, .int .i64 1, .slice (some ⟨σ17.size, 0, none⟩) 1 1, .slice none 0 0] (0, 0)] := ⟨_, rfl⟩
 rw [← hσ18]
 have o18' : Old σ17 σ18 := by rw [hσ18]; exact .ap
 have hH : ImgR σ18 [.int .i64 4, .int .i64 1, .slice (some ⟨σ17.size, 0, none⟩) 1 1, .slice none 0 0] wholeI (some ⟨σ17.size, 0, none⟩) 1 none 0 :=
  ImgR.lit (σ0 := σ17) (S := wholeI.S) (ver := 0) i4 i1 (fun s hs => by
   simp only [wholeI, List.mem_cons, List.not_mem_nil, or_false] at hs
   rcases hs with rfl
   exact ⟨by unfold I64; dsimp only; omega, by decide⟩) (by decide) (by omega) (by rw [hσ18, ap_new0]; rfl)
 clear hσ18
 have o8x : Old σ8 σ18 := ((o9.trans o9b).trans o17T).trans o18'
 refine appK_at (rsame_app (hI8.Old o8x) fW hH fW) ?_
 have dH : decide (bytesS (encI wholeI) = bytesS (encI wholeI)) = true := decide_eq_true rfl
 rw [dH]
 have o12x : Old σ12 σ18 := o17T.trans o18'
 have o1x : Old σ1 σ18 := o1b.trans o12x
 have r11' := r11 σ18 o12x
 have r0' := r0 σ18 o1x
 simp only [↓eD, eZ, ↓reduceIte, Nat.reduceEqDiff, Nat.reduceAdd, Nat.reduceMul, reduceCtorEq, Nat.reduceLeDiff, Int.reduceLT, Int.reduceLE, Int.reduceToNat, Int.reduceEq, Nat.reduceLT, r11', r0', undef_eq]
 refine appK_at (rsame_app (hI11.Old (o12.trans o12x)) fX (hX1 σ18 o1x) fX) ?_
 have dX : decide (bytesS (encI (exI 4 4)) = bytesS (encI (exI 4 4))) = true := decide_eq_true rfl
 rw [dX]
 simp only [↓eD, eZ, ↓reduceIte, Nat.reduceEqDiff, Nat.reduceAdd, Nat.reduceMul, reduceCtorEq, Nat.reduceLeDiff, Int.reduceLT, Int.reduceLE, Int.reduceToNat, Int.reduceEq, Nat.reduceLT, r0', undef_eq]
 have hGx : HGlob σ18 := hG.Old ((o0.trans o1).trans o1x)
 refine appK_at (ldig_app (hX1 σ18 o1x) fX hGx) ?_
 rw [x_d1]
 simp only [↓eD, eZ, ↓reduceIte, Nat.reduceEqDiff, Nat.reduceAdd, Nat.reduceMul, reduceCtorEq, Nat.reduceLeDiff, Int.reduceLT, Int.reduceLE, Int.reduceToNat, Int.reduceEq, Nat.reduceLT, undef_eq]
 refine appK_of (second_app i2) ?_
 rintro _ σ19 ⟨o19', a19, b19, rfl, hS19⟩
 simp only [↓eD, eZ, ↓reduceIte, Nat.reduceEqDiff, Nat.reduceAdd, Nat.reduceMul, reduceCtorEq, Nat.reduceLeDiff, Int.reduceLT, Int.reduceLE, Int.reduceToNat, Int.reduceEq, Nat.reduceLT, undef_eq]
 have fS : (exI 4 2).fit := x_fit (by decide) rfl (by decide)
 refine appK_at (ldig_app hS19 fS (hGx.Old o19')) ?_
 rw [x_d2]
 have ae : aggEq (List.replicate 16 (.int .u8)) (digC xD1) (digC xD2) = some false := rfl
 have t16 : (digC xD1).take 16 = digC xD1 := rfl
 have t16' : (digC xD2).take 16 = digC xD2 := rfl
 have l16 : (digC xD1).length = 16 := rfl
 have l16' : (digC xD2).length = 16 := rfl
 simp only [↓eD, eZ, ↓reduceIte, Nat.reduceEqDiff, Nat.reduceAdd, Nat.reduceMul, reduceCtorEq, Nat.reduceLeDiff, Int.reduceLT, Int.reduceLE, Int.reduceToNat, Int.reduceEq, Nat.reduceLT, ae, t16, t16', l16, l16', undef_eq]
 exact ⟨(((o0.trans o1).trans o1x).trans o19'), by simp [flat]⟩
set_option maxRecDepth 10000
set_option maxHeartbeats 1000000
theorem cellsPage : Tryd.prog.cellsOf 86 = 128 := by kernel_rfl
theorem cellsPgs : Tryd.prog.cellsOf 23 = 1 := by kernel_rfl
theorem cellsMem : Tryd.prog.cellsOf 29 = 1 := by kernel_rfl
theorem bytesPage : Tryd.prog.bytesOf 86 = 128 := by kernel_rfl
variable {σ : H}
theorem page_of : ∀ {cs : List Value}, (∀ i, i < cs.length → ∃ n, cs[i]? = some (.int .u8 n) ∧ 0 ≤ n ∧ n ≤ 255) → ∃ d, cs = digC d ∧ d.length = cs.length ∧ Byt d
 |[], _ => ⟨[], rfl, rfl, fun x hx => by simp at hx⟩
 |c :: cs, h => by
  obtain ⟨n, hn, n0, n1⟩ := h 0 (by simp)
  obtain ⟨d, rfl, hd, hb⟩ := page_of (cs := cs) fun i hi => by
   obtain ⟨m, hm, m0⟩ := h (i + 1) (by simpa using hi)
   exact ⟨m, by simpa using hm, m0⟩
  simp at hn
  exact ⟨n :: d, by simp [digC, hn], by simp [hd], fun x hx => (List.mem_cons.1 hx).elim (fun h => by omega) (hb x)⟩
theorem rd_page {f : Nat} {cs : List Value} (h : RdS Tryd.prog σ f 86 cs) : ∃ d : List Int, (d.length = 128 ∧ Byt d) ∧ cs = digC d := by
 cases f with
 |zero => exact h.elim
 |succ f =>
  simp only [RdS, Tryd.underlying86, cellsPage, cellsB] at h
  obtain ⟨h1, h2⟩ := h
  obtain ⟨d, hd, hl, hb⟩ := page_of (cs := cs) fun i hi => by
   obtain ⟨n, hn, h0, h1'⟩ := rd_int Tryd.underlying5 (rds_rd (h2 i (by omega)))
   refine ⟨n, ?_, h0, h1'⟩
   have : ((cs.drop (i * 1)).take 1)[0]? = some (.int .u8 n) := by rw [hn]; rfl
   simpa [List.getElem?_take, List.getElem?_drop] using this
  exact ⟨d, ⟨hl.trans h1, hb⟩, hd⟩
theorem rdN_join {b off n m : Nat} {l1 l2 : List Value} (g1 : l1.length = n) (g2 : l2.length = m) (h1 : rdN σ ⟨b, off, none⟩ n = some l1) (h2 : rdN σ ⟨b, off + n, none⟩ m = some l2) : rdN σ ⟨b, off, none⟩ (n + m) = some (l1 ++ l2) := by
 by_cases h0 : n + m = 0
 ·have e1 : l1 = [] := List.length_eq_zero_iff.1 (by omega)
  have e2 : l2 = [] := List.length_eq_zero_iff.1 (by omega)
  rw [h0, e1, e2, rdN_eq, if_pos rfl]
  rfl
 refine rdN_ones (by omega) (by rw [List.length_append, g1, g2]) fun i x hx => ?_
 by_cases hi : i < n
 ·rw [List.getElem?_append_left (by omega)] at hx
  rw [rdN_sub h1 (a := i) (m := 1) (by omega)]
  have hlt := (List.getElem?_eq_some_iff.1 hx).1
  rw [List.drop_eq_getElem_cons hlt, List.take_succ_cons, List.take_zero, (List.getElem?_eq_some_iff.1 hx).2]
 ·rw [List.getElem?_append_right (by omega), g1] at hx
  have hlt := (List.getElem?_eq_some_iff.1 hx).1
  have := rdN_sub h2 (a := i - n) (m := 1) (by omega)
  rw [show off + n + (i - n) = off + i by omega] at this
  rw [this, List.drop_eq_getElem_cons hlt, List.take_succ_cons, List.take_zero, (List.getElem?_eq_some_iff.1 hx).2]
theorem rows_whl {s n : Nat} {a : Option Addr} {c : Nat} {rows : List (List Value)} (h : Row σ s (.slice a n c) rows) (hn : rows.length = n) (hr : ∀ r ∈ rows, r.length = s) (hs : 0 < s) (hc : CapOk s (.slice a n c)) : Whl σ s (.slice a n c) n rows.flatten := by
 have hfl := flatten_length hr
 obtain ⟨hc1, hc2⟩ := hc.slice
 refine ⟨by rw [hfl, hn], ?_⟩
 by_cases h0 : n = 0
 ·exact .inl ⟨h0, a, c, by rw [h0], hc2⟩
 ·obtain ⟨b, off, rfl, _⟩ := h.at (i := 0) (x := rows[0]'(by omega)) (by simp)
  refine .inr ⟨b, off, c, rfl, ⟨hc1, hc2⟩, ?_⟩
  have key : ∀ k, k ≤ n → rdN σ ⟨b, off, none⟩ (k * s) = some (rows.take k).flatten := by
   intro k
   induction k with
   |zero => intro _; simp [rdN_eq]
   |succ k ih =>
    intro hk
    obtain ⟨b', off', e, hr'⟩ := h.at (i := k) (x := rows[k]'(by omega)) (by simp)
    injection e with e
    injection e with e1 e2
    subst e1 e2
    have hk1 : (rows.take k).flatten.length = k * s := by
     rw [flatten_length fun r hr9 => hr r (List.mem_of_mem_take hr9), List.length_take, Nat.min_eq_left (by omega)]
    have := rdN_join hk1 (hr _ (List.getElem_mem _)) (ih (by omega)) hr'
    rw [List.take_succ_eq_append_getElem (by omega), List.flatten_append, Nat.succ_mul]
    simpa using this
  have := key n (Nat.le_refl _)
  rw [← hn, List.take_length] at this
  rw [← hn]
  exact this
theorem dat_pages {v : Value} (h : DatS Tryd.prog σ 23 v) : ∃ D, PagesR σ v D ∧ D.length < 2000000000000 := by
 simp only [DatS, Tryd.underlying23] at h
 obtain ⟨f, h⟩ := h
 cases f with
 |zero => exact h.elim
 |succ f =>
  simp only [RdS, Tryd.underlying23] at h
  obtain ⟨a, c, D, g, okD, rD, cD, wD⟩ := rds_slice (V := digC) (ok := fun d => d.length = 128 ∧ Byt d) cellsPage (fun l hl => rd_page hl) h
  injection g with g
  rw [bytesPage] at wD
  have hr : reachBytes = 140737488351232 := rfl
  subst g
  exact ⟨D, ⟨rows_whl rD (by simp) (pages_rows okD) (by omega) cD, okD⟩, by omega⟩
theorem dat_mem {v : Value} (h : DatS Tryd.prog σ 29 v) : ∃ w n B, v = .agg #[w] ∧ MemV σ w n B ∧ n < 2000000000000 := by
 simp only [DatS, Tryd.underlying29] at h
 obtain ⟨cs, f, rfl, h⟩ := h
 cases f with
 |zero => exact h.elim
 |succ f =>
  simp only [RdS, Tryd.underlying29, cellsMem, List.forall_mem_cons, cellsPgs] at h
  obtain ⟨hl, h1, _⟩ := h
  obtain ⟨w, hw⟩ : ∃ w, cs.toList = [w] := by
   match cs.toList, hl with
   |[w], _ => exact ⟨w, rfl⟩
  have h1 : DatS Tryd.prog σ 23 w := by
   simp only [DatS, Tryd.underlying23]
   rw [hw] at h1
   exact ⟨f, h1⟩
  obtain ⟨D, hD, hn⟩ := dat_pages h1
  have hfl : (D.map digC).flatten = digC D.flatten := by
   unfold digC
   rw [List.map_flatten]
  have hlen : D.flatten.length = 128 * D.length := by
   have h9 := flatten_length (pages_rows hD.d)
   rw [hfl, digC_length, List.length_map] at h9
   omega
  refine ⟨w, D.length, D.flatten, ?_, ⟨?_, hlen, fun x hx => ?_⟩, hn⟩
  ·have : cs = #[w] := by rw [← Array.toList_inj, hw]
   rw [this]
  ·have := hD.w
   rwa [hfl] at this
  ·obtain ⟨d, hd, hx⟩ := List.mem_flatten.1 hx
   exact (hD.d d hd).2 x hx
end Go.Proofs.YtajchhghjjlahaaDoor
