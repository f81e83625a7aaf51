/- Walks and plain laws. Conditions: none. -/
import Derived.Test.YtajchhghjjlahaaDoorBodiesL3
set_option linter.all false
set_option maxRecDepth 10000
set_option maxHeartbeats 8000000
namespace Go.Proofs.YtajchhghjjlahaaDoor
open Go Go.Cn Go.RowKit
attribute [local irreducible] evL sem onG onI onV
theorem aggEq_byt : ∀ {a : List Int} {n : Nat}, a.length = n → aggEq (List.replicate n (.int .u8)) (digC a) (digC a) = some true
 |[], n, h1 => by subst h1; rfl
 |x :: a, n, h1 => by
  obtain ⟨n, rfl⟩ : ∃ m, n = m + 1 := ⟨a.length, by simpa using h1.symm⟩
  have ih := aggEq_byt (a := a) (n := n) (by simpa using h1)
  show aggEq (.int .u8 :: List.replicate n (.int .u8)) (.int .u8 x :: digC a) (.int .u8 x :: digC a) = _
  simp only [aggEq, Leaf.fits, leafEq, decide_true, and_self, ↓reduceIte, ih]
  simp
theorem rdiff_app {σ : H} {v w : Value} {n : Nat} {B : List Int} (h : MemV σ v n B) (h' : MemV σ w n B) (hn : n ≤ 1000000) :
  App Tryd.prog (.func 37) #[] #[.agg #[v], .agg #[w]] σ fun x σ' => σ' = σ ∧ x = .slice none 0 0 := by
 refine App.forget (App.of_sem mixed Tryd.func37 t37 k37 r37 (Nat.le_of_ble_eq_true rfl) ?_)
 obtain ⟨a, c, rfl⟩ := h.w.slice
 obtain ⟨a', c', rfl⟩ := h'.w.slice
 rw [← ap_nil (σ := σ)]
 unfold s37
 simp only [↓eD, eZ, ↓reduceIte, Nat.reduceEqDiff, Nat.reduceAdd, Nat.reduceMul, reduceCtorEq, Nat.reduceLeDiff, Int.reduceLT, Int.reduceLE, Int.reduceToNat, Int.reduceEq, Nat.reduceLT, ite_self, undef_eq]
 have fin : ∀ M : List Blk, Old σ (ap σ M) := fun M => .ap
 obtain ⟨T, hT⟩ : ∃ T, T = ap σ [.cells 0 [.slice a n c] (0, 0), .cells 0 [.slice a' n c'] (0, 0)] := ⟨_, rfl⟩
 rw [← hT]
 have oT : Old σ T := by rw [hT]; exact .ap
 have u0 : ∀ M, rd1 (ap T M) ⟨σ.size, 0, none⟩ = some (.slice a n c) := fun M => rd1_of (θ := T) (by rw [hT, ap_new0]; rfl) .ap rfl
 have u1 : ∀ M, rd1 (ap T M) ⟨σ.size + 1, 0, none⟩ = some (.slice a' n c') := fun M => rd1_of (θ := T) (by rw [hT, ap_new]; rfl) .ap rfl
 clear hT
 refine loop_for (J := fun i e τ => i ≤ n ∧ e = [(2, .pointer (some ⟨σ.size, 0, none⟩)), (3, .pointer (some ⟨σ.size + 1, 0, none⟩)), (5, .slice none 0 0), (6, .int .i64 (i : Int))] ∧ τ = T) n ⟨by omega, rfl, rfl⟩ ?_
 rintro i e τ hi ⟨_, rfl, rfl⟩
 rw [← ap_nil (σ := τ)]
 by_cases hlt : i < n
 ·have dl : decide ((i : Int) < (n : Int)) = true := by rw [decide_eq_true]; omega
  have dg : decide ((n : Int) ≤ (i : Int)) = false := by rw [decide_eq_false]; omega
  have hbd : (0:Int) ≤ (i:Int) ∧ (i:Int) < (n : Int) := by omega
  have hw1 : IntKind.wrap .i64 ((i:Int) + 1) = ((i + 1 : Nat) : Int) := by rw [wrap64' (by omega) (by omega)]; omega
  obtain ⟨k1, f1, rfl, _⟩ := h.w.at (by omega)
  obtain ⟨k2, f2, rfl, _⟩ := h'.w.at (by omega)
  have x1 : ∀ M, rdN (ap τ M) ⟨k1, f1 + i * 128, none⟩ 128 = some (digC (pageB B i)) := fun M => rdN_Old (oT.trans .ap) (h.page hlt)
  have x2 : ∀ M, rdN (ap τ M) ⟨k2, f2 + i * 128, none⟩ 128 = some (digC (pageB B i)) := fun M => rdN_Old (oT.trans .ap) (h'.page hlt)
  have ae := aggEq_byt (pageB_len h.l hlt)
  simp only [↓eD, eZ, ↓reduceIte, Nat.reduceEqDiff, Nat.reduceAdd, Nat.reduceMul, reduceCtorEq, Nat.reduceLeDiff, Int.reduceLT, Int.reduceLE, Int.reduceToNat, Int.reduceEq, Nat.reduceLT, ite_self, u0, u1, dl, dg, hbd, Int.toNat_natCast, x1, x2, ae, hw1, undef_eq]
  exact ⟨hlt, by omega⟩
 have : i = n := by omega
 subst this
 have dl : decide ((i : Int) < (i : Int)) = false := by rw [decide_eq_false]; omega
 simp only [↓eD, eZ, ↓reduceIte, Nat.reduceEqDiff, Nat.reduceAdd, Nat.reduceMul, reduceCtorEq, Nat.reduceLeDiff, Int.reduceLT, Int.reduceLE, Int.reduceToNat, Int.reduceEq, Nat.reduceLT, ite_self, u0, u1, dl, undef_eq]
 first | exact ⟨oT.trans .ap, rfl⟩ | exact oT.trans .ap | skip
theorem rmsame_app {σ : H} {v w : Value} {n : Nat} {B : List Int} (h : MemV σ v n B) (h' : MemV σ w n B) (hn : n ≤ 1000000) :
  App Tryd.prog (.func 17) #[] #[.agg #[v], .agg #[w]] σ fun x σ' => σ' = σ ∧ x = .bool true := by
 refine App.forget (App.of_sem mixed Tryd.func17 t17 k17 r17 (Nat.le_of_ble_eq_true rfl) ?_)
 obtain ⟨a, c, rfl⟩ := h.w.slice
 obtain ⟨a', c', rfl⟩ := h'.w.slice
 rw [← ap_nil (σ := σ)]
 unfold s17
 simp only [↓eD, eZ, ↓reduceIte, Nat.reduceEqDiff, Nat.reduceAdd, Nat.reduceMul, reduceCtorEq, Nat.reduceLeDiff, Int.reduceLT, Int.reduceLE, Int.reduceToNat, Int.reduceEq, Nat.reduceLT, undef_eq]
 refine appK_at (rdiff_app (h.Old .ap) (h'.Old .ap) hn) ?_
 have d00 : decide (((0 : Nat) : Int) = 0) = true := rfl
 simp only [↓eD, eZ, ↓reduceIte, Nat.reduceEqDiff, Nat.reduceAdd, Nat.reduceMul, reduceCtorEq, Nat.reduceLeDiff, Int.reduceLT, Int.reduceLE, Int.reduceToNat, Int.reduceEq, Nat.reduceLT, d00, undef_eq]
 first | exact ⟨.ap, rfl⟩ | exact .ap
theorem samecpus_app {σ : H} {a a' : Option Addr} {c c' n : Nat} {e : Int} (h : Row σ 30 (.slice a n c) (cpusF e n)) (h' : Row σ 30 (.slice a' n c') (cpusF e n)) (hn : n ≤ 1000000) :
  App Tryd.prog (.func 18) #[] #[.slice a n c, .slice a' n c'] σ fun x σ' => σ' = σ ∧ x = .bool true := by
 refine App.forget (App.of_sem mixed Tryd.func18 t18 k18 r18 (Nat.le_of_ble_eq_true rfl) ?_)
 rw [← ap_nil (σ := σ)]
 unfold s18
 have dnn : decide ((n : Int) = (n : Int)) = true := decide_eq_true rfl
 simp only [↓eD, eZ, ↓reduceIte, Nat.reduceEqDiff, Nat.reduceAdd, Nat.reduceMul, reduceCtorEq, Nat.reduceLeDiff, Int.reduceLT, Int.reduceLE, Int.reduceToNat, Int.reduceEq, Nat.reduceLT, dnn, undef_eq]
 rw [ap_nil]
 refine loop_for (J := fun i e' τ => i ≤ n ∧ e' = [(0, .slice a n c), (1, .slice a' n c'), (5, .int .i64 (i : Int))] ∧ τ = σ) n ⟨by omega, rfl, rfl⟩ ?_
 rintro i e' τ hi ⟨_, rfl, rfl⟩
 rw [← ap_nil (σ := τ)]
 by_cases hlt : i < n
 ·have dl : decide ((i : Int) < (n : Int)) = true := by rw [decide_eq_true]; omega
  have hbd : (0:Int) ≤ (i:Int) ∧ (i:Int) < (n : Int) := by omega
  have hw1 : IntKind.wrap .i64 ((i:Int) + 1) = ((i + 1 : Nat) : Int) := by rw [wrap64' (by omega) (by omega)]; omega
  have hx : (cpusF e n)[i]? = some (cpuV (IntKind.wrap .u32 e) (i : Int) (decide (0 < i))) := by simp [cpusF, hlt]
  obtain ⟨b1, f1, rfl, h1⟩ := h.at hx
  obtain ⟨b2, f2, rfl, h2⟩ := h'.at hx
  have x1 : ∀ M, rdN (ap τ M) ⟨b1, f1 + i * 30, none⟩ 30 = some (cpuV (IntKind.wrap .u32 e) (i : Int) (decide (0 < i))) := fun M => rdN_old h1
  have x2 : ∀ M, rdN (ap τ M) ⟨b2, f2 + i * 30, none⟩ 30 = some (cpuV (IntKind.wrap .u32 e) (i : Int) (decide (0 < i))) := fun M => rdN_old h2
  obtain ⟨R, hR⟩ : ∃ R, R = cpuV (IntKind.wrap .u32 e) (i : Int) (decide (0 < i)) := ⟨_, rfl⟩
  rw [← hR] at x1 x2
  have ae : aggEq [.int .u32, .int .u32, .int .u32, .int .u32, .int .u32, .int .u32, .int .u32, .int .u32, .int .u32, .int .u32, .int .u32, .int .u32, .int .u32, .int .u32, .int .u32, .int .u32, .int .u32, .int .u32, .int .u32, .int .u32, .int .u32, .int .u32, .int .u32, .int .u32, .int .u32, .int .u32, .bool, .bool, .bool, .int .i64] R R = some true := by
   rw [hR]
   simp [cpuV, aggEq, Leaf.fits, leafEq]
  simp only [↓eD, eZ, ↓reduceIte, Nat.reduceEqDiff, Nat.reduceAdd, Nat.reduceMul, reduceCtorEq, Nat.reduceLeDiff, Int.reduceLT, Int.reduceLE, Int.reduceToNat, Int.reduceEq, Nat.reduceLT, dl, hbd, Int.toNat_natCast, x1, x2, ae, hw1, undef_eq]
  exact ⟨hlt, by omega⟩
 have : i = n := by omega
 subst this
 have dl : decide ((i : Int) < (i : Int)) = false := by rw [decide_eq_false]; omega
 simp only [↓eD, eZ, ↓reduceIte, Nat.reduceEqDiff, Nat.reduceAdd, Nat.reduceMul, reduceCtorEq, Nat.reduceLeDiff, Int.reduceLT, Int.reduceLE, Int.reduceToNat, Int.reduceEq, Nat.reduceLT, dl, undef_eq]
 first | exact ⟨.ap, rfl⟩ | exact .ap | skip
theorem rsize_app {σ : H} {n c : Nat} {a : Option Addr} (hn : n ≤ 1000000) : App Tryd.prog (.func 58) #[] #[.agg #[.slice a n c]] σ fun w σ' => σ' = σ ∧ w = .int .i64 ((n * 128 : Nat) : Int) := by
 refine App.forget (App.of_sem mixed Tryd.func58 t58 k58 r58 (Nat.le_of_ble_eq_true rfl) ?_)
 rw [← ap_nil (σ := σ)]
 unfold s58
 have w1 : IntKind.wrap .i64 ((n : Int) * 128) = ((n * 128 : Nat) : Int) := by rw [wrap64' (by omega) (by omega)]; omega
 simp only [↓eD, eZ, ↓reduceIte, Nat.reduceEqDiff, Nat.reduceAdd, Nat.reduceMul, reduceCtorEq, Nat.reduceLeDiff, Int.reduceLT, Int.reduceLE, Int.reduceToNat, Int.reduceEq, Nat.reduceLT, w1, undef_eq]
 first | exact ⟨.ap, rfl⟩ | exact .ap
theorem rcopy_app {σ : H} {v : Value} {n : Nat} {B : List Int} (h : MemV σ v n B) (hn : n ≤ 1000000) (h0 : 0 < n) :
  App Tryd.prog (.func 59) #[] #[.agg #[v]] σ fun w σ' => Old σ σ' ∧ ∃ b c ver, w = .agg #[.slice (some ⟨b, 0, none⟩) n c] ∧ σ.size ≤ b ∧ σ'[b]? = some (.cells ver (digC B) (0, 0)) ∧ CapOk 128 (.slice (some ⟨b, 0, none⟩) n c) := by
 refine App.of_sem mixed Tryd.func59 t59 k59 r59 (Nat.le_of_ble_eq_true rfl) ?_
 obtain ⟨a, c, rfl⟩ := h.w.slice
 rw [← ap_nil (σ := σ)]
 unfold s59
 simp only [↓eD, eZ, ↓reduceIte, Nat.reduceEqDiff, Nat.reduceAdd, Nat.reduceMul, reduceCtorEq, Nat.reduceLeDiff, Int.reduceLT, Int.reduceLE, Int.reduceToNat, Int.reduceEq, Nat.reduceLT, undef_eq]
 obtain ⟨S, hS⟩ : ∃ S, S = ap σ [.cells 0 [.slice a n c] (0, 0), .cells 0 [.slice none 0 0] (0, 0)] := ⟨_, rfl⟩
 obtain ⟨T, hT⟩ : ∃ T, T = ap σ [.cells 0 [.slice a n c] (0, 0), .cells 0 [.slice none 0 0] (0, 0), .cells 0 [] (0, 0)] := ⟨_, rfl⟩
 rw [← hT]
 have sS : S.size = σ.size + 2 := by rw [hS]; simp [ap_size]
 have oST : Old S T := by
  refine ⟨by rw [hS, hT, ap_size, ap_size]; simp, fun q hq => ?_⟩
  rw [sS] at hq
  rcases Nat.lt_or_ge q σ.size with h1 | h1
  ·rw [hS, hT, ap_old h1, ap_old h1]
  ·rcases (by omega : q = σ.size ∨ q = σ.size + 1) with rfl | rfl
   ·rw [hS, hT, ap_new0, ap_new0]; rfl
   ·rw [hS, hT, ap_new, ap_new]; rfl
 have oS : Old σ S := by rw [hS]; exact .ap
 have g0 : Grown S T 128 (.slice (some ⟨σ.size + 2, 0, none⟩) 0 0) [] 0 := Grown.lit (ver := 0) rfl (by decide) (by omega) (by rw [hT, ap_new]; rfl)
 have p1 : S[σ.size + 1]? = some (.cells 0 [.slice none 0 0] (0, 0)) := by rw [hS, ap_new]; rfl
 have sT : T.size = σ.size + 3 := by rw [hT]; simp [ap_size]
 clear hS hT
 obtain ⟨w, σ', ha, A⟩ := append_grown (bytes := 128) g0 (by omega) (by omega) (h.w.Old (oS.trans oST)).x (by rw [digC_length, h.l]; omega) digC_one (by omega) (by omega)
 refine onV_of ha ?_
 have ho := A.Old g0 oST
 have hg := A.grown
 rw [List.nil_append, Nat.zero_add] at hg
 obtain ⟨_, _, ⟨h1, _⟩ | ⟨b, ver, cap, g1, g2, rfl, g4⟩⟩ := id hg
 ·omega
 have p1' := (ho.2 _ (by omega)).trans p1
 have k1 : wrN σ' ⟨σ.size + 1, 0, none⟩ [.slice (some ⟨b, 0, none⟩) n cap] = some (σ'.setIfInBounds (σ.size + 1) (.cells 1 [.slice (some ⟨b, 0, none⟩) n cap] (0, 0))) := by
  rw [wrN_eq, if_neg (by simp), p1', wrc_cells, if_pos ⟨by simp, rfl⟩]
  rfl
 have r1 := rdN_all (n := 1) (get_set (k := .cells 1 [.slice (some ⟨b, 0, none⟩) n cap] (0, 0)) p1') rfl
 simp only [↓eD, eZ, ↓reduceIte, Nat.reduceEqDiff, Nat.reduceAdd, Nat.reduceMul, reduceCtorEq, Nat.reduceLeDiff, Int.reduceLT, Int.reduceLE, Int.reduceToNat, Int.reduceEq, Nat.reduceLT, k1, r1, undef_eq]
 exact ⟨(oS.trans ho).set (by omega), b, cap, ver, rfl, by omega, (get_set_ne (by omega)).trans g4, hg.cap⟩
theorem rwrite_app {σ : H} {v : Value} {n : Nat} {B : List Int} {at_ : Int} {s : ByteArray} (h : MemV σ v n B) (hn : n ≤ 64) (h0 : 0 < n) (hat : -1000000000 ≤ at_) (hat2 : at_ ≤ 1000000000) :
  App Tryd.prog (.func 34) #[] #[.agg #[v], .int .i64 at_, .string s] σ fun w σ' => Old σ σ' ∧ ∃ v', w = .agg #[v', .bool (wrOk n at_ s)] ∧ MemV σ' v' n (wrB n B at_ s) ∧ ∀ q, baseOf v' = some q → σ.size ≤ q ∨ baseOf v = some q := by
 refine App.of_sem mixed Tryd.func34 t34 k34 r34 (Nat.le_of_ble_eq_true rfl) ?_
 obtain ⟨a, c, rfl⟩ := h.w.slice
 rw [← ap_nil (σ := σ)]
 unfold s34
 have fin : ∀ M : List Blk, Old σ (ap σ M) := fun M => .ap
 by_cases g1 : at_ < 0
 ·have d1 : decide (at_ < 0) = true := decide_eq_true g1
  have f : wrOk n at_ s = false := decide_eq_false fun hh => by omega
  have fB : wrB n B at_ s = B := by unfold wrB; rw [f]; rfl
  simp only [↓eD, eZ, ↓reduceIte, Nat.reduceEqDiff, Nat.reduceAdd, Nat.reduceMul, reduceCtorEq, Nat.reduceLeDiff, Int.reduceLT, Int.reduceLE, Int.reduceToNat, Int.reduceEq, Nat.reduceLT, d1, f, undef_eq]
  rw [fB]
  exact ⟨fin _, _, rfl, h.Old (fin _), fun q hq => .inr hq⟩
 have d1 : decide (at_ < 0) = false := decide_eq_false g1
 simp only [↓eD, eZ, ↓reduceIte, Nat.reduceEqDiff, Nat.reduceAdd, Nat.reduceMul, reduceCtorEq, Nat.reduceLeDiff, Int.reduceLT, Int.reduceLE, Int.reduceToNat, Int.reduceEq, Nat.reduceLT, d1, undef_eq]
 refine appK_at (rsize_app (by omega)) ?_
 by_cases g2 : ((n * 128 : Nat) : Int) < at_
 ·have d2 : decide (((n * 128 : Nat) : Int) < at_) = true := decide_eq_true g2
  have f : wrOk n at_ s = false := decide_eq_false fun hh => by omega
  have fB : wrB n B at_ s = B := by unfold wrB; rw [f]; rfl
  simp only [↓eD, eZ, ↓reduceIte, Nat.reduceEqDiff, Nat.reduceAdd, Nat.reduceMul, reduceCtorEq, Nat.reduceLeDiff, Int.reduceLT, Int.reduceLE, Int.reduceToNat, Int.reduceEq, Nat.reduceLT, d2, f, undef_eq]
  rw [fB]
  exact ⟨fin _, _, rfl, h.Old (fin _), fun q hq => .inr hq⟩
 have d2 : decide (((n * 128 : Nat) : Int) < at_) = false := decide_eq_false g2
 simp only [↓eD, eZ, ↓reduceIte, Nat.reduceEqDiff, Nat.reduceAdd, Nat.reduceMul, reduceCtorEq, Nat.reduceLeDiff, Int.reduceLT, Int.reduceLE, Int.reduceToNat, Int.reduceEq, Nat.reduceLT, d2, undef_eq]
 refine appK_at (rsize_app (by omega)) ?_
 have ws : IntKind.wrap .i64 (((n * 128 : Nat) : Int) - at_) = ((n * 128 : Nat) : Int) - at_ := wrap64' (by omega) (by omega)
 by_cases g3 : ((n * 128 : Nat) : Int) - at_ < (s.size : Int)
 ·have d3 : decide (((n * 128 : Nat) : Int) - at_ < (s.size : Int)) = true := decide_eq_true g3
  have f : wrOk n at_ s = false := decide_eq_false fun hh => by omega
  have fB : wrB n B at_ s = B := by unfold wrB; rw [f]; rfl
  simp only [↓eD, eZ, ↓reduceIte, Nat.reduceEqDiff, Nat.reduceAdd, Nat.reduceMul, reduceCtorEq, Nat.reduceLeDiff, Int.reduceLT, Int.reduceLE, Int.reduceToNat, Int.reduceEq, Nat.reduceLT, ws, d3, f, undef_eq]
  rw [fB]
  exact ⟨fin _, _, rfl, h.Old (fin _), fun q hq => .inr hq⟩
 have d3 : decide (((n * 128 : Nat) : Int) - at_ < (s.size : Int)) = false := decide_eq_false g3
 have f : wrOk n at_ s = true := decide_eq_true (by omega)
 have fB : wrB n B at_ s = putF B at_.toNat (strI s) := by unfold wrB; rw [f]; rfl
 simp only [↓eD, eZ, ↓reduceIte, Nat.reduceEqDiff, Nat.reduceAdd, Nat.reduceMul, reduceCtorEq, Nat.reduceLeDiff, Int.reduceLT, Int.reduceLE, Int.reduceToNat, Int.reduceEq, Nat.reduceLT, ws, d3, undef_eq]
 refine appK_of (rcopy_app (h.Old .ap) (by omega) h0) ?_
 rintro _ σ2 ⟨o2, b, cc, ver, rfl, hb1, hb2, hcap⟩
 have b6 : σ2[σ.size + 1]? = some (.cells 0 [.slice none 0 0, .bool false] (0, 0)) := (o2.2 _ (by rw [ap_size]; simp)).trans (by rw [ap_new]; rfl)
 have oS : Old σ σ2 := Old.ap.trans o2
 have hbs : b < σ2.size := (Array.getElem?_eq_some_iff.1 hb2).1
 have h2s : σ.size + 2 ≤ b := by rw [ap_size] at hb1; simpa using hb1
 have hs2 : σ.size + 2 ≤ σ2.size := by omega
 rw [← ap_nil (σ := σ2)]
 simp only [↓eD, eZ, ↓reduceIte, Nat.reduceEqDiff, Nat.reduceAdd, Nat.reduceMul, reduceCtorEq, Nat.reduceLeDiff, Int.reduceLT, Int.reduceLE, Int.reduceToNat, Int.reduceEq, Nat.reduceLT, undef_eq]
 obtain ⟨σ3, hσ3⟩ : ∃ σ3, σ3 = ap σ2 [.cells 1 [.slice (some ⟨b, 0, none⟩) n cc] (0, 0)] := ⟨_, rfl⟩
 rw [← hσ3]
 have o3 : Old σ2 σ3 := by rw [hσ3]; exact .ap
 have b3 : σ3[b]? = some (.cells ver (digC B) (0, 0)) := (o3.2 _ hbs).trans hb2
 have p3 : σ3[σ2.size]? = some (.cells 1 [.slice (some ⟨b, 0, none⟩) n cc] (0, 0)) := by rw [hσ3, ap_new0]; rfl
 have s3 : σ3.size = σ2.size + 1 := by rw [hσ3]; simp [ap_size]
 clear hσ3
 obtain ⟨N, rfl⟩ : ∃ N : Nat, at_ = (N : Int) := ⟨at_.toNat, by omega⟩
 rw [Int.toNat_natCast] at fB
 have hB := h.l
 have hNs : N + s.size ≤ 128 * n := by omega
 refine loop_for (J := fun i e τ => i ≤ s.size ∧ e = [(1, .int .i64 (N : Int)), (2, .string s), (6, .pointer (some ⟨σ.size + 1, 0, none⟩)), (7, .pointer (some ⟨σ2.size, 0, none⟩)), (8, .int .i64 (i : Int))] ∧ σ3.size ≤ τ.size ∧ (∀ q, q < σ3.size → q ≠ b → τ[q]? = σ3[q]?) ∧ ∃ ver', τ[b]? = some (.cells ver' (digC (putF B N ((strI s).take i))) (0, 0))) s.size
  ⟨by omega, rfl, Nat.le_refl _, fun q _ _ => rfl, ver, by rw [b3]; simp [putF]⟩ ?_
 rintro i e τ hi ⟨_, rfl, hsz, hq, ver', hb⟩
 have p7 : τ[σ2.size]? = some (.cells 1 [.slice (some ⟨b, 0, none⟩) n cc] (0, 0)) := (hq _ (by omega) (by omega)).trans p3
 have g7 : rd1 τ ⟨σ2.size, 0, none⟩ = some (.slice (some ⟨b, 0, none⟩) n cc) := rd1_of p7 Old.refl (k := 0) rfl
 by_cases hlt : i < s.size
 ·have dl : decide ((i : Int) < (s.size : Int)) = true := by rw [decide_eq_true]; omega
  have hw1 : IntKind.wrap .i64 ((i:Int) + 1) = ((i + 1 : Nat) : Int) := by rw [wrap64' (by omega) (by omega)]; omega
  have wa : IntKind.wrap .i64 ((N : Int) + (i : Int)) = ((N + i : Nat) : Int) := by rw [wrap64' (by omega) (by omega)]; omega
  obtain ⟨P, hP⟩ : ∃ P, P = (N + i) / 128 := ⟨_, rfl⟩
  obtain ⟨O, hO⟩ : ∃ O, O = (N + i) % 128 := ⟨_, rfl⟩
  have hPO : 128 * P + O = N + i := by rw [hP, hO]; exact Nat.div_add_mod _ _
  have hO1 : O < 128 := by rw [hO]; exact Nat.mod_lt _ (by omega)
  have tq : (((N + i : Nat) : Int)).tdiv 128 = (P : Int) := by rw [hP]; exact (Int.ofNat_tdiv _ _).symm
  have tr : (((N + i : Nat) : Int)).tmod 128 = (O : Int) := by rw [hO]; exact (Int.ofNat_tmod _ _).symm
  have wq : IntKind.wrap .i64 (P : Int) = (P : Int) := wrap64' (by omega) (by omega)
  have hz : ((128 : Int) = 0) = False := by simp
  have hbd : (0:Int) ≤ (P:Int) ∧ (P:Int) < (n : Int) := by omega
  have hbo : (0:Int) ≤ (O:Int) ∧ (O:Int) < ((128 : Nat) : Int) := by omega
  have hbi : (0:Int) ≤ (i:Int) ∧ (i:Int) < (s.size : Int) := by omega
  have hst := str_at (s := s) (i := i) (by omega)
  have hil : i < (strI s).length := by rw [strI_len]; omega
  have hlp : (putF B N ((strI s).take i)).length = B.length := putF_len (by rw [List.length_take, strI_len]; omega)
  have kk : wrN τ ⟨b, P * 128 + O, none⟩ [.int .u8 ((strI s).getD i 0)] = some (τ.setIfInBounds b (.cells (ver' + 1) (digC (putF B N ((strI s).take (i + 1)))) (0, 0))) := by
   rw [wrN_eq, if_neg (by simp), hb, wrc_cells, if_pos ⟨by rw [digC_length, hlp]; show P * 128 + O + 1 ≤ _; omega, rfl⟩]
   have hm := putF_more (B := B) (d := strI s) (at_ := N) (k := i) (j := 1) (by rw [strI_len]; omega) (by omega)
   rw [← hm]
   have e1 : digC (((strI s).drop i).take 1) = [.int .u8 ((strI s).getD i 0)] := by
    rw [List.drop_eq_getElem_cons hil, List.take_succ_cons, List.take_zero, ← List.getElem_eq_getD (l := strI s) (i := i) 0 (h := hil)]
    rfl
   rw [e1, show N + i = P * 128 + O by omega]
   rfl
  simp only [↓eD, eZ, ↓reduceIte, Nat.reduceEqDiff, Nat.reduceAdd, Nat.reduceMul, reduceCtorEq, Nat.reduceLeDiff, Int.reduceLT, Int.reduceLE, Int.reduceToNat, Int.reduceEq, Nat.reduceLT, dl, g7, wa, tq, tr, wq, hz, hbd, hbo, hbi, Int.toNat_natCast, hst, kk, hw1, undef_eq]
  exact ⟨hlt, by omega, by rw [Array.size_setIfInBounds]; exact hsz, fun q h1 h2 => (get_set_ne (Ne.symm h2)).trans (hq q h1 h2), ver' + 1, get_set hb⟩
 have : i = s.size := by omega
 subst this
 have dl : decide ((s.size : Int) < (s.size : Int)) = false := by rw [decide_eq_false]; omega
 have htk : (strI s).take s.size = strI s := by rw [← strI_len, List.take_length]
 rw [htk] at hb
 have p6 : τ[σ.size + 1]? = some (.cells 0 [.slice none 0 0, .bool false] (0, 0)) := (hq _ (by omega) (by omega)).trans ((o3.2 _ (by omega)).trans b6)
 have k6 : wrN τ ⟨σ.size + 1, 0, none⟩ [.slice (some ⟨b, 0, none⟩) n cc, .bool true] = some (τ.setIfInBounds (σ.size + 1) (.cells 1 [.slice (some ⟨b, 0, none⟩) n cc, .bool true] (0, 0))) := by
  rw [wrN_eq, if_neg (by simp), p6, wrc_cells, if_pos ⟨by simp, rfl⟩]
  rfl
 have r6 := rdN_all (n := 2) (get_set (k := .cells 1 [.slice (some ⟨b, 0, none⟩) n cc, .bool true] (0, 0)) p6) rfl
 have x7 := rdN_all (n := 1) p7 rfl
 simp only [↓eD, eZ, ↓reduceIte, Nat.reduceEqDiff, Nat.reduceAdd, Nat.reduceMul, reduceCtorEq, Nat.reduceLeDiff, Int.reduceLT, Int.reduceLE, Int.reduceToNat, Int.reduceEq, Nat.reduceLT, dl, x7, k6, r6, f, undef_eq]
 rw [fB, ap_nil]
 have hne : b ≠ σ.size + 1 := by omega
 have hb' := (get_set_ne (k := .cells 1 [.slice (some ⟨b, 0, none⟩) n cc, .bool true] (0, 0)) (Ne.symm hne)).trans hb
 have hpl : (putF B N (strI s)).length = 128 * n := by rw [putF_len (by rw [strI_len]; omega), hB]
 refine ⟨⟨?_, fun q hq9 => ?_⟩, _, rfl, ⟨⟨by rw [digC_length, hpl]; omega, .inr ⟨b, 0, cc, rfl, hcap.slice, rdN_all hb' (by rw [digC_length, hpl]; omega)⟩⟩, hpl, putF_byt h.b strI_byt⟩, fun q hq9 => .inl ?_⟩
 ·rw [Array.size_setIfInBounds]; omega
 ·rw [get_set_ne (by omega), hq q (by omega) (by omega), o3.2 q (by omega), oS.2 q hq9]
 ·have h9 : some b = some q := hq9
  injection h9 with h9
  omega
theorem rload_app {σ : H} {l : List Value} {I : Img} {a1 a2 : Option Addr} {b1 b2 : Nat} (h : ImgR σ l I a1 b1 a2 b2) :
  App Tryd.prog (.func 13) #[] #[.agg l.toArray] σ fun w σ' => Old σ σ' ∧ ∃ v, w = .agg #[v, .int .i64 (checkI I)] ∧ MemV σ' v (loadN I) (loadB I) := by
 refine App.of_sem mixed Tryd.func13 t13 k13 r13 (Nat.le_of_ble_eq_true rfl) ?_
 have hl := h.c0
 subst hl
 rw [← ap_nil (σ := σ)]
 unfold s13
 simp only [↓eD, eZ, ↓reduceIte, Nat.reduceEqDiff, Nat.reduceAdd, Nat.reduceMul, reduceCtorEq, Nat.reduceLeDiff, Int.reduceLT, Int.reduceLE, Int.reduceToNat, Int.reduceEq, Nat.reduceLT, undef_eq]
 refine appK_at (rcheck_app (h.Old .ap)) ?_
 by_cases hc : checkI I = 0
 case neg =>
  have d1 : decide (checkI I = 0) = false := decide_eq_false hc
  have fB : loadB I = [] := if_neg hc
  have fN : loadN I = 0 := if_neg hc
  simp only [↓eD, eZ, ↓reduceIte, Nat.reduceEqDiff, Nat.reduceAdd, Nat.reduceMul, reduceCtorEq, Nat.reduceLeDiff, Int.reduceLT, Int.reduceLE, Int.reduceToNat, Int.reduceEq, Nat.reduceLT, d1, undef_eq]
  rw [fB, fN, ap_nil]
  exact ⟨.ap, _, rfl, ⟨⟨by simp [digC], .inl ⟨rfl, none, 0, rfl, by decide⟩⟩, by simp, fun x hx => by simp at hx⟩⟩
 have d1 : decide (checkI I = 0) = true := decide_eq_true hc
 have O := okay_iff.1 hc
 have hp1 := O.p1
 have hp2 := O.p2
 have fN : loadN I = I.p.toNat := if_pos hc
 obtain ⟨n, hn⟩ : ∃ n, n = I.p.toNat := ⟨_, rfl⟩
 have fB : loadB I = I.S.foldl (stepB n) (List.replicate (128 * n) 0) := by rw [hn]; exact if_pos hc
 rw [fB, fN, ← hn, hc]
 have hpn : I.p = (n : Int) := by omega
 have hms : (0 ≤ (n : Int) ∧ (n : Int) ≤ (n : Int) ∧ ((128 : Nat) : Int) * (n : Int) ≤ 140737488355328 ∧ (n : Int) < 9223372036854775808) = True := eq_true (by omega)
 have e : (List.replicate n (List.replicate 128 (Value.int .u8 0))).flatten = digC (List.replicate (128 * n) 0) := by
  rw [List.flatten_replicate_replicate, Nat.mul_comm]
  simp [digC]
 simp only [↓eD, eZ, ↓reduceIte, Nat.reduceEqDiff, Nat.reduceAdd, Nat.reduceMul, reduceCtorEq, Nat.reduceLeDiff, Int.reduceLT, Int.reduceLE, Int.reduceToNat, Int.reduceEq, Nat.reduceLT, d1, hpn, hms, Int.toNat_natCast, e, undef_eq]
 obtain ⟨T, hT⟩ : ∃ T, T = ap σ [.cells 0 [.int .i64 I.e, .int .i64 (n : Int), .slice a1 I.S.length b1, .slice a2 I.D.length b2] (0, 0), .cells 0 [.slice none 0 0, .int .i64 0] (0, 0), .cells 0 (digC (List.replicate (128 * n) 0)) (0, 0), .cells 1 [.slice (some ⟨σ.size + 2, 0, none⟩) n n] (0, 0)] := ⟨_, rfl⟩
 rw [← hT]
 have oT : Old σ T := by rw [hT]; exact .ap
 have sT : T.size = σ.size + 4 := by rw [hT]; simp [ap_size]
 have z0 : T[σ.size]? = some (.cells 0 [.int .i64 I.e, .int .i64 (n : Int), .slice a1 I.S.length b1, .slice a2 I.D.length b2] (0, 0)) := by rw [hT, ap_new0]; rfl
 have z1 : T[σ.size + 1]? = some (.cells 0 [.slice none 0 0, .int .i64 0] (0, 0)) := by rw [hT, ap_new]; rfl
 have z2 : T[σ.size + 2]? = some (.cells 0 (digC (List.replicate (128 * n) 0)) (0, 0)) := by rw [hT, ap_new]; rfl
 have z3 : T[σ.size + 3]? = some (.cells 1 [.slice (some ⟨σ.size + 2, 0, none⟩) n n] (0, 0)) := by rw [hT, ap_new]; rfl
 clear hT
 have hM0 : MemV T (.slice (some ⟨σ.size + 2, 0, none⟩) n n) n (List.replicate (128 * n) 0) :=
  ⟨(Grown.lit (σ0 := σ) (by rw [digC_length, List.length_replicate]; omega) (Nat.lt_of_le_of_lt (m := 64) (by omega) (by decide)) (by omega) z2).whl, by simp, fun x hx => by rw [(List.mem_replicate.1 hx).2]; omega⟩
 have segs : ∀ s ∈ I.S, 0 ≤ s.at_ ∧ s.at_ + s.data.size ≤ I.p * 128 := fun s hs => by
  obtain ⟨h1, _, h3⟩ := segs_ok O.s (Int.le_refl 0) s hs
  exact ⟨h1, h3⟩
 have n1 := O.n1
 refine loop_for (J := fun i e τ => i ≤ I.S.length ∧ e = [(1, .pointer (some ⟨σ.size, 0, none⟩)), (2, .pointer (some ⟨σ.size + 1, 0, none⟩)), (4, .pointer (some ⟨σ.size + 3, 0, none⟩)), (5, .int .i64 (i : Int))] ∧ OldB (σ.size + 3) T τ ∧ ∃ (u : Value) (ver : Nat), τ[σ.size + 3]? = some (.cells ver [u] (0, 0)) ∧ MemV τ u n ((I.S.take i).foldl (stepB n) (List.replicate (128 * n) 0)) ∧ ∀ q, baseOf u = some q → σ.size + 2 ≤ q ∧ q ≠ σ.size + 3) I.S.length
  ⟨by omega, rfl, ⟨Nat.le_refl _, fun q _ _ => rfl⟩, _, 1, z3, hM0, fun q hq => by have h9 : some (σ.size + 2) = some q := hq; injection h9 with h9; omega⟩ ?_
 rintro i e τ hi ⟨_, rfl, oτ, u, ver, bτ, hMτ, hu⟩
 have hτ : σ.size + 4 ≤ τ.size := by have := oτ.1; omega
 have y0 : τ[σ.size]? = some (.cells 0 [.int .i64 I.e, .int .i64 (n : Int), .slice a1 I.S.length b1, .slice a2 I.D.length b2] (0, 0)) := (oτ.2 _ (by omega) (by omega)).trans z0
 have oS : Old σ τ := ⟨by omega, fun q hq => (oτ.2 q (by omega) (by omega)).trans (oT.2 q hq)⟩
 have g2 : ∀ M, rd1 (ap τ M) ⟨σ.size, 2, none⟩ = some (.slice a1 I.S.length b1) := fun M => rd1_of y0 .ap rfl
 rw [← ap_nil (σ := τ)]
 by_cases hlt : i < I.S.length
 ·have dl : decide ((i : Int) < (I.S.length : Int)) = true := by rw [decide_eq_true]; omega
  have hbd : (0:Int) ≤ (i:Int) ∧ (i:Int) < (I.S.length : Int) := by omega
  have hw1 : IntKind.wrap .i64 ((i:Int) + 1) = ((i + 1 : Nat) : Int) := by rw [wrap64' (by omega) (by omega)]; omega
  have hx : (I.S.map segV)[i]? = some (segV I.S[i]) := by simp [hlt]
  obtain ⟨b', off, rfl, h1⟩ := (h.S.Old oS).at hx
  have hsg := segs I.S[i] (by simp)
  have ht := List.take_succ_eq_append_getElem hlt
  generalize hEi : I.S[i] = s at h1 hsg ht
  have ra : ∀ M, rd1 (ap τ M) ⟨b', off + i * 2, none⟩ = some (.int .i64 s.at_) := fun M => rd1_row (j := 0) (rdN_old h1) rfl
  have rs : ∀ M, rd1 (ap τ M) ⟨b', off + i * 2 + 1, none⟩ = some (.string s.data) := fun M => rd1_row (j := 1) (rdN_old h1) rfl
  have g5 : ∀ M, rdN (ap τ M) ⟨σ.size + 3, 0, none⟩ 1 = some [u] := fun M => rdb_of bτ .ap rfl
  obtain ⟨ua, uc, rfl⟩ := hMτ.w.slice
  simp only [↓eD, eZ, ↓reduceIte, Nat.reduceEqDiff, Nat.reduceAdd, Nat.reduceMul, reduceCtorEq, Nat.reduceLeDiff, Int.reduceLT, Int.reduceLE, Int.reduceToNat, Int.reduceEq, Nat.reduceLT, dl, g2, hbd, Int.toNat_natCast, ra, rs, g5, undef_eq]
  refine appK_of (rwrite_app (hMτ.Old .ap) (by omega) (by omega) (by omega) (by omega)) ?_
  rintro _ τ2 ⟨o2, v', rfl, hM2, hb2⟩
  have hsz : (ap τ [.cells 0 [.slice none 0 0, .bool false] (0, 0)]).size = τ.size + 1 := by simp [ap_size]
  have c0 : τ2[τ.size]? = some (.cells 0 [.slice none 0 0, .bool false] (0, 0)) := (o2.2 _ (by omega)).trans (by rw [ap_new0]; rfl)
  have b2' : τ2[σ.size + 3]? = some (.cells ver [.slice ua n uc] (0, 0)) := (o2.2 _ (by omega)).trans ((ap_old (by omega)).trans bτ)
  obtain ⟨ua2, uc2, rfl⟩ := hM2.w.slice
  have hne : ∀ q, baseOf (.slice ua2 n uc2) = some q → σ.size + 2 ≤ q ∧ q ≠ σ.size + 3 ∧ q ≠ τ.size := fun q hq => by
   rcases hb2 q hq with h9 | h9
   ·omega
   ·have h8 := hu q h9
    obtain ⟨k9, o9, h10, hr9⟩ := hMτ.w.at (by omega)
    have h11 := rdN_lt hr9 (by omega)
    rw [h10] at h9
    have h12 : some k9 = some q := h9
    injection h12 with h12
    omega
  have k6 : wrN τ2 ⟨τ.size, 0, none⟩ [.slice ua2 n uc2, .bool (wrOk n s.at_ s.data)] = some (τ2.setIfInBounds τ.size (.cells 1 [.slice ua2 n uc2, .bool (wrOk n s.at_ s.data)] (0, 0))) := by
   rw [wrN_eq, if_neg (by simp), c0, wrc_cells, if_pos ⟨by simp, rfl⟩]
   rfl
  obtain ⟨τ3, hτ3⟩ : ∃ τ3, τ3 = τ2.setIfInBounds τ.size (.cells 1 [.slice ua2 n uc2, .bool (wrOk n s.at_ s.data)] (0, 0)) := ⟨_, rfl⟩
  rw [← hτ3] at k6
  have O3 : OldB τ.size τ2 τ3 := by rw [hτ3]; exact ⟨by simp, fun q h1 h2 => get_set_ne (Ne.symm h2)⟩
  have c3 : τ3[τ.size]? = some (.cells 1 [.slice ua2 n uc2, .bool (wrOk n s.at_ s.data)] (0, 0)) := by rw [hτ3]; exact get_set c0
  clear hτ3
  have s2 := o2.1
  have s3 := O3.1
  rw [hsz] at s2
  have b3 : τ3[σ.size + 3]? = some (.cells ver [.slice ua n uc] (0, 0)) := (O3.2 _ (by omega) (by omega)).trans b2'
  have r6 : rdN τ3 ⟨τ.size, 0, none⟩ 1 = some [.slice ua2 n uc2] := rdp_of (θ := τ3) (cs := [.slice ua2 n uc2]) (ds := [.bool (wrOk n s.at_ s.data)]) c3 Old.refl rfl (by omega)
  have k4 : wrN τ3 ⟨σ.size + 3, 0, none⟩ [.slice ua2 n uc2] = some (τ3.setIfInBounds (σ.size + 3) (.cells (ver + 1) [.slice ua2 n uc2] (0, 0))) := by
   rw [wrN_eq, if_neg (by simp), b3, wrc_cells, if_pos ⟨by simp, rfl⟩]
   rfl
  simp only [↓eD, eZ, ↓reduceIte, Nat.reduceEqDiff, Nat.reduceAdd, Nat.reduceMul, reduceCtorEq, Nat.reduceLeDiff, Int.reduceLT, Int.reduceLE, Int.reduceToNat, Int.reduceEq, Nat.reduceLT, k6, r6, k4, hw1, undef_eq]
  have O4 : OldB (σ.size + 3) τ3 (τ3.setIfInBounds (σ.size + 3) (.cells (ver + 1) [.slice ua2 n uc2] (0, 0))) := ⟨by simp, fun q h1 h2 => get_set_ne (Ne.symm h2)⟩
  have hM3 : MemV τ3 (.slice ua2 n uc2) n (wrB n ((I.S.take i).foldl (stepB n) (List.replicate (128 * n) 0)) s.at_ s.data) :=
   ⟨Whl.oldB hM2.w (fun q hq => (hne q hq).2.2) O3 (by omega), hM2.l, hM2.b⟩
  refine ⟨hlt, by omega, ⟨?_, fun q h1 h2 => ?_⟩, _, ver + 1, get_set b3, ⟨?_, ?_, ?_⟩, fun q hq => ⟨(hne q hq).1, (hne q hq).2.1⟩⟩
  ·have := O4.1; omega
  ·rw [O4.2 q (by omega) h2, O3.2 q (by omega) (by omega), o2.2 q (by omega), ap_old (by omega), oτ.2 q h1 h2]
  ·rw [ht, List.foldl_append]
   exact Whl.oldB hM3.w (fun q hq => (hne q hq).2.1) O4 (by omega)
  ·rw [ht, List.foldl_append]
   exact hM3.l
  ·rw [ht, List.foldl_append]
   exact hM3.b
 have : i = I.S.length := by omega
 subst this
 have dl : decide ((I.S.length : Int) < (I.S.length : Int)) = false := by rw [decide_eq_false]; omega
 rw [List.take_length] at hMτ
 obtain ⟨ua, uc, rfl⟩ := hMτ.w.slice
 have g5 : rdN τ ⟨σ.size + 3, 0, none⟩ 1 = some [.slice ua n uc] := rdN_all bτ rfl
 have y1 : τ[σ.size + 1]? = some (.cells 0 [.slice none 0 0, .int .i64 0] (0, 0)) := (oτ.2 _ (by omega) (by omega)).trans z1
 have k1 : wrN τ ⟨σ.size + 1, 0, none⟩ [.slice ua n uc, .int .i64 0] = some (τ.setIfInBounds (σ.size + 1) (.cells 1 [.slice ua n uc, .int .i64 0] (0, 0))) := by
  rw [wrN_eq, if_neg (by simp), y1, wrc_cells, if_pos ⟨by simp, rfl⟩]
  rfl
 have rf := rdN_all (n := 2) (get_set (k := .cells 1 [.slice ua n uc, .int .i64 0] (0, 0)) y1) rfl
 rw [ap_nil]
 have g2' := g2 []
 rw [ap_nil] at g2'
 simp only [↓eD, eZ, ↓reduceIte, Nat.reduceEqDiff, Nat.reduceAdd, Nat.reduceMul, reduceCtorEq, Nat.reduceLeDiff, Int.reduceLT, Int.reduceLE, Int.reduceToNat, Int.reduceEq, Nat.reduceLT, dl, g2', g5, k1, rf, undef_eq]
 rw [ap_nil]
 have OB : OldB (σ.size + 1) τ (τ.setIfInBounds (σ.size + 1) (.cells 1 [.slice ua n uc, .int .i64 0] (0, 0))) := ⟨by simp, fun q h1 h2 => get_set_ne (Ne.symm h2)⟩
 exact ⟨oS.set (by omega), _, rfl, ⟨Whl.oldB hMτ.w (fun q hq => by have := (hu q hq).1; omega) OB (by omega), hMτ.l, hMτ.b⟩⟩
end Go.Proofs.YtajchhghjjlahaaDoor
