/- Walks of the functions that the claim reaches. Conditions: none. -/
import Derived.Test.YtjgbbhfihcmphaaDoorNf
set_option linter.all false
set_option maxRecDepth 10000
set_option maxHeartbeats 4000000
namespace Go.Proofs.YtjgbbhfihcmphaaDoor
open Go Go.Cn Go.RowKit
attribute [local irreducible] evL sem onG onI onV
def ccF (old : List Int) (m n : Nat) (mark : Bool) (L : List (List Int)) (sh : Bool) : (List Int × List Int) × List (List Int) × Bool :=
 if h : m = n ∨ n ≤ 1 then (if mark = true then ((old, old), L, sh) else ((lastD L, lastD L), L.dropLast, sh || L.isEmpty))
 else if m ≤ splitN n then (((ccF old m (splitN n) mark L.dropLast (sh || L.isEmpty)).1.1, nodeF (ccF old m (splitN n) mark L.dropLast (sh || L.isEmpty)).1.2 (lastD L)), (ccF old m (splitN n) mark L.dropLast (sh || L.isEmpty)).2)
 else ((nodeF (lastD L) (ccF old (m - splitN n) (n - splitN n) false L.dropLast (sh || L.isEmpty)).1.1, nodeF (lastD L) (ccF old (m - splitN n) (n - splitN n) false L.dropLast (sh || L.isEmpty)).1.2), (ccF old (m - splitN n) (n - splitN n) false L.dropLast (sh || L.isEmpty)).2)
termination_by n
decreasing_by all_goals (have := splitN_spec (n := n) (by omega); omega)
theorem ccF_len {old : List Int} (hl : old.length = 16) : ∀ {N m n : Nat} {mark : Bool} {L : List (List Int)} {sh : Bool}, n ≤ N → (∀ d ∈ L, d.length = 16) → (ccF old m n mark L sh).1.1.length = 16 ∧ (ccF old m n mark L sh).1.2.length = 16
 |0, m, n, mark, L, sh, h, hd => by
  rw [ccF, dif_pos (.inr (by omega))]
  split
  ·exact ⟨hl, hl⟩
  ·exact ⟨lastD_len hd, lastD_len hd⟩
 |N + 1, m, n, mark, L, sh, h, hd => by
  rw [ccF]
  split
  ·split
   ·exact ⟨hl, hl⟩
   ·exact ⟨lastD_len hd, lastD_len hd⟩
  ·rename_i h1
   have hs := splitN_spec (n := n) (by omega)
   have hd' : ∀ d ∈ L.dropLast, d.length = 16 := fun d h => hd d (List.dropLast_subset _ h)
   split
   ·exact ⟨(ccF_len hl (N := N) (by omega) hd').1, nodeF_len⟩
   ·exact ⟨nodeF_len, nodeF_len⟩
theorem Pth.two {σ0 Z θ2 : H} {q x y : Nat} {L : List (List Int)} {sh : Bool} (h : Pth σ0 Z q L sh) (hx : σ0.size ≤ x) (hy : σ0.size ≤ y) (hxq : q ≠ x) (hyq : q ≠ y) (k6 : ∀ c, c ≠ x → c ≠ y → θ2[c]? = Z[c]?) (k7 : θ2.size = Z.size) : Pth σ0 θ2 q L sh := by
 obtain ⟨ver, u, h1, h2⟩ := h.b
 exact ⟨⟨by rw [k7]; exact h.old.1, fun c hc => (k6 c (by omega) (by omega)).trans (h.old.2 c hc)⟩, h.hq, ver, u, (k6 _ hxq hyq).trans h1, h2⟩
theorem OldB.two {σ Z θ2 : H} {q x y : Nat} (h : OldB q σ Z) (hx : σ.size ≤ x) (hy : σ.size ≤ y) (k6 : ∀ c, c ≠ x → c ≠ y → θ2[c]? = Z[c]?) (k7 : θ2.size = Z.size) : OldB q σ θ2 :=
 ⟨by rw [k7]; exact h.1, fun c h1 h2 => (k6 c (by omega) (by omega)).trans (h.2 c h1 h2)⟩
theorem clc1_app {σ0 : H} {lb pb cb q : Nat} {leaf : List Int} (hl : leaf.length = 16) (hG : HGlob σ0) : ∀ (N : Nat) (σ : H) (m n : Nat) (mark : Bool) (L : List (List Int)) (sh : Bool), n ≤ N → 0 < m → n ≤ 1099511627776 → m ≤ n → L.length ≤ 1000 →
  Pth σ0 σ q L sh → Bx σ lb pb cb q leaf (.func (.func 53) #[] #[.pointer (some ⟨lb, 0, none⟩), .pointer (some ⟨pb, 0, none⟩), .pointer (some ⟨cb, 0, none⟩)]) →
  App Tryd.prog (.func 53) #[.pointer (some ⟨lb, 0, none⟩), .pointer (some ⟨pb, 0, none⟩), .pointer (some ⟨cb, 0, none⟩)] #[.int .i64 (m : Int), .int .i64 (n : Int), .bool mark] σ fun w σ' =>
   w = .tuple #[.agg (digC (ccF leaf m n mark L sh).1.1).toArray, .agg (digC (ccF leaf m n mark L sh).1.2).toArray] ∧ Pth σ0 σ' q (ccF leaf m n mark L sh).2.1 (ccF leaf m n mark L sh).2.2 ∧ OldB q σ σ' := by
 intro N
 induction N with
 |zero => intro σ m n mark L sh h1 h2 h3 h4; omega
 |succ N ih =>
  intro σ m n mark L sh hN hpos hmx hi hLn hP hB
  refine App.of_sem mixed Tryd.func53 t53 k53 r53 (Nat.le_of_ble_eq_true rfl) ?_
  rw [← ap_nil (σ := σ)]
  unfold s53
  obtain ⟨vl, bl⟩ := hB.l
  obtain ⟨vp, bp⟩ := hB.p
  obtain ⟨vc, bc⟩ := hB.c
  have llb := (Array.getElem?_eq_some_iff.1 bl).1
  have lpb := (Array.getElem?_eq_some_iff.1 bp).1
  have lcb := (Array.getElem?_eq_some_iff.1 bc).1
  have lq := hP.lt
  have hσ := hP.old.1
  have hLd : ∀ d ∈ L, d.length = 16 := by obtain ⟨_, _, _, h9⟩ := hP.b; exact h9.d
  obtain ⟨q1, q2, q3, q4⟩ := dig_len hl
  have D16 := lastD_len hLd
  have g2 : ∀ M, rdN (ap σ M) ⟨lb, 0, none⟩ 16 = some (digC leaf) := fun M => rdb_of bl .ap q1
  have g3 : ∀ M, rd1 (ap σ M) ⟨pb, 0, none⟩ = some (.pointer (some ⟨q, 0, none⟩)) := fun M => rd1_of bp .ap rfl
  have two : ∀ (θ : H) (A B : List Int), A.length = 16 → B.length = 16 → θ[σ.size]? = some (.cells 0 (List.replicate 16 (.int .u8 0)) (0, 0)) → θ[σ.size + 1]? = some (.cells 0 (List.replicate 16 (.int .u8 0)) (0, 0)) →
    ∃ θ1 θ2, wrN θ ⟨σ.size, 0, none⟩ (digC A) = some θ1 ∧ wrN θ1 ⟨σ.size + 1, 0, none⟩ (digC B) = some θ2 ∧ rdN θ2 ⟨σ.size, 0, none⟩ 16 = some (digC A) ∧ rdN θ2 ⟨σ.size + 1, 0, none⟩ 16 = some (digC B) ∧ (∀ c, c ≠ σ.size → θ1[c]? = θ[c]?) ∧ (∀ c, c ≠ σ.size → c ≠ σ.size + 1 → θ2[c]? = θ[c]?) ∧ θ2.size = θ.size := by
   intro θ A B hA hB' h0 h1
   obtain ⟨w1, r1⟩ := dig_put hA h0
   have h1' := (get_set_ne (k := .cells (0 + 1) (digC A) (0, 0)) (show σ.size ≠ σ.size + 1 by omega)).trans h1
   obtain ⟨w2, r2⟩ := dig_put hB' h1'
   refine ⟨_, _, w1, w2, ?_, r2, fun c hc => get_set_ne (Ne.symm hc), fun c hc hd => (get_set_ne (Ne.symm hd)).trans (get_set_ne (Ne.symm hc)), by simp⟩
   exact rdN_all ((get_set_ne (show σ.size + 1 ≠ σ.size by omega)).trans (get_set h0)) (by rw [digC_length, hA])
  by_cases h1 : m = n
  ·have e1 : decide ((m : Int) = (n : Int)) = true := by rw [decide_eq_true]; omega
   cases mark with
   |true =>
    have hR : ccF leaf m n true L sh = ((leaf, leaf), L, sh) := by rw [ccF, dif_pos (.inl h1)]; rfl
    rw [hR]
    simp only [↓eD, eZ, ↓reduceIte, Nat.reduceEqDiff, Nat.reduceAdd, Nat.reduceMul, reduceCtorEq, Nat.reduceLeDiff, Int.reduceLT, Int.reduceLE, Int.reduceToNat, Int.reduceEq, Nat.reduceLT, rep16, e1, g2, q1, q2, q3, q4, digC_one, Bool.not_true, undef_eq]
    rw [ap_nil]
    exact ⟨hP.Old .ap, oldB_of .ap⟩
   |false =>
    have hR : ccF leaf m n false L sh = ((lastD L, lastD L), L.dropLast, sh || L.isEmpty) := by rw [ccF, dif_pos (.inl h1)]; rfl
    rw [hR]
    simp only [↓eD, eZ, ↓reduceIte, Nat.reduceEqDiff, Nat.reduceAdd, Nat.reduceMul, reduceCtorEq, Nat.reduceLeDiff, Int.reduceLT, Int.reduceLE, Int.reduceToNat, Int.reduceEq, Nat.reduceLT, rep16, e1, g2, g3, q1, q2, q3, q4, digC_one, Bool.not_false, undef_eq]
    obtain ⟨T, hT⟩ : ∃ T, T = ap σ [.cells 0 (List.replicate 16 (.int .u8 0)) (0, 0), .cells 0 (List.replicate 16 (.int .u8 0)) (0, 0), .cells 1 (digC leaf) (0, 0)] := ⟨_, rfl⟩
    rw [← hT]
    have oT : Old σ T := by rw [hT]; exact .ap
    have sT : T.size = σ.size + 3 := by rw [hT]; simp [ap_size]
    have z0 : T[σ.size]? = some (.cells 0 (List.replicate 16 (.int .u8 0)) (0, 0)) := by rw [hT, ap_new0]; rfl
    have z1 : T[σ.size + 1]? = some (.cells 0 (List.replicate 16 (.int .u8 0)) (0, 0)) := by rw [hT, ap_new]; rfl
    have z2 : T[σ.size + 2]? = some (.cells 1 (digC leaf) (0, 0)) := by rw [hT, ap_new]; rfl
    clear hT
    refine appK_of (last_app (hP.Old oT) hLn) ?_
    rintro _ τ ⟨rfl, hP2, hO2⟩
    generalize lastD L = D at D16 ⊢
    obtain ⟨l1, l2, l3, l4⟩ := dig_len D16
    have lT := hP2.lt
    have sτ := hO2.1
    have t0 := (hO2.2 _ (by omega) (by omega)).trans z0
    have t1 := (hO2.2 _ (by omega) (by omega)).trans z1
    have t2 := (hO2.2 _ (by omega) (by omega)).trans z2
    have w11 := dig_put' D16 hl t2
    obtain ⟨Z, hZ⟩ : ∃ Z, Z = τ.setIfInBounds (σ.size + 2) (.cells (1 + 1) (digC D) (0, 0)) := ⟨_, rfl⟩
    rw [← hZ] at w11
    have oZ : OldB q σ Z := by rw [hZ]; exact ((oldB_of oT).trans hO2).setNew (by omega)
    have hP3 : Pth σ0 Z q L.dropLast (sh || L.isEmpty) := by rw [hZ]; exact hP2.set (by omega) (by omega)
    have u0 : Z[σ.size]? = some (.cells 0 (List.replicate 16 (.int .u8 0)) (0, 0)) := by rw [hZ]; exact (get_set_ne (by omega)).trans t0
    have u1 : Z[σ.size + 1]? = some (.cells 0 (List.replicate 16 (.int .u8 0)) (0, 0)) := by rw [hZ]; exact (get_set_ne (by omega)).trans t1
    have u2 : Z[σ.size + 2]? = some (.cells 2 (digC D) (0, 0)) := by rw [hZ]; exact get_set t2
    clear hZ
    have r2 := rdN_all (n := 16) u2 l1
    obtain ⟨θ1, θ2, k1, k2, k3, k4, k5, k6, k7⟩ := two Z D D D16 D16 u0 u1
    have r2' := rdN_all (n := 16) ((k5 _ (by omega)).trans u2) l1
    simp only [↓eD, eZ, ↓reduceIte, Nat.reduceEqDiff, Nat.reduceAdd, Nat.reduceMul, reduceCtorEq, Nat.reduceLeDiff, Int.reduceLT, Int.reduceLE, Int.reduceToNat, Int.reduceEq, Nat.reduceLT, w11, l1, r2, r2', k1, k2, k3, k4, undef_eq]
    rw [ap_nil]
    exact ⟨hP3.two (by omega) (by omega) (by omega) (by omega) k6 k7, oZ.two (Nat.le_refl _) (by omega) k6 k7⟩
  have e1 : decide ((m : Int) = (n : Int)) = false := by rw [decide_eq_false]; omega
  have hs := splitN_spec (n := n) (by omega)
  obtain ⟨T, hT⟩ : ∃ T, T = ap σ [.cells 0 (List.replicate 16 (.int .u8 0)) (0, 0), .cells 0 (List.replicate 16 (.int .u8 0)) (0, 0), .cells 0 (List.replicate 16 (.int .u8 0)) (0, 0)] := ⟨_, rfl⟩
  have oT : Old σ T := by rw [hT]; exact .ap
  have sT : T.size = σ.size + 3 := by rw [hT]; simp [ap_size]
  have z0 : T[σ.size]? = some (.cells 0 (List.replicate 16 (.int .u8 0)) (0, 0)) := by rw [hT, ap_new0]; rfl
  have z1 : T[σ.size + 1]? = some (.cells 0 (List.replicate 16 (.int .u8 0)) (0, 0)) := by rw [hT, ap_new]; rfl
  have z2 : T[σ.size + 2]? = some (.cells 0 (List.replicate 16 (.int .u8 0)) (0, 0)) := by rw [hT, ap_new]; rfl
  simp only [↓eD, eZ, ↓reduceIte, Nat.reduceEqDiff, Nat.reduceAdd, Nat.reduceMul, reduceCtorEq, Nat.reduceLeDiff, Int.reduceLT, Int.reduceLE, Int.reduceToNat, Int.reduceEq, Nat.reduceLT, rep16, e1, g3, undef_eq]
  rw [← hT]
  have g3T : rd1 T ⟨pb, 0, none⟩ = some (.pointer (some ⟨q, 0, none⟩)) := rd1_of bp oT rfl
  clear hT
  refine appK_at (lsplit_app (by omega) (by omega)) ?_
  obtain ⟨k, hk⟩ : ∃ k, k = splitN n := ⟨_, rfl⟩
  rw [← hk] at hs ⊢
  have hR : ccF leaf m n mark L sh = if m ≤ k then (((ccF leaf m k mark L.dropLast (sh || L.isEmpty)).1.1, nodeF (ccF leaf m k mark L.dropLast (sh || L.isEmpty)).1.2 (lastD L)), (ccF leaf m k mark L.dropLast (sh || L.isEmpty)).2)
    else ((nodeF (lastD L) (ccF leaf (m - k) (n - k) false L.dropLast (sh || L.isEmpty)).1.1, nodeF (lastD L) (ccF leaf (m - k) (n - k) false L.dropLast (sh || L.isEmpty)).1.2), (ccF leaf (m - k) (n - k) false L.dropLast (sh || L.isEmpty)).2) := by
   rw [ccF, dif_neg (by omega), hk]
  simp only [↓eD, eZ, ↓reduceIte, Nat.reduceEqDiff, Nat.reduceAdd, Nat.reduceMul, reduceCtorEq, Nat.reduceLeDiff, Int.reduceLT, Int.reduceLE, Int.reduceToNat, Int.reduceEq, Nat.reduceLT, g3T, undef_eq]
  refine appK_of (last_app (hP.Old oT) hLn) ?_
  rintro _ τ ⟨rfl, hP2, hO2⟩
  generalize lastD L = D at D16 hR ⊢
  obtain ⟨l1, l2, l3, l4⟩ := dig_len D16
  have lT := hP2.lt
  have t0 : τ[σ.size]? = some (.cells 0 (List.replicate 16 (.int .u8 0)) (0, 0)) := (hO2.2 _ (by omega) (by omega)).trans z0
  have t1 : τ[σ.size + 1]? = some (.cells 0 (List.replicate 16 (.int .u8 0)) (0, 0)) := (hO2.2 _ (by omega) (by omega)).trans z1
  have t2 : τ[σ.size + 2]? = some (.cells 0 (List.replicate 16 (.int .u8 0)) (0, 0)) := (hO2.2 _ (by omega) (by omega)).trans z2
  obtain ⟨w1, r1⟩ := dig_put D16 t2
  simp only [↓eD, eZ, ↓reduceIte, Nat.reduceEqDiff, Nat.reduceAdd, Nat.reduceMul, reduceCtorEq, Nat.reduceLeDiff, Int.reduceLT, Int.reduceLE, Int.reduceToNat, Int.reduceEq, Nat.reduceLT, l1, w1, undef_eq]
  obtain ⟨Z, hZ⟩ : ∃ Z, Z = τ.setIfInBounds (σ.size + 2) (.cells (0 + 1) (digC D) (0, 0)) := ⟨_, rfl⟩
  rw [← hZ] at r1 ⊢
  have oZ : OldB q σ Z := by rw [hZ]; exact ((oldB_of oT).trans hO2).setNew (by omega)
  have hP3 : Pth σ0 Z q L.dropLast (sh || L.isEmpty) := by rw [hZ]; exact hP2.set (by omega) (by omega)
  have sZ : T.size ≤ Z.size := by rw [hZ]; simpa using hO2.1
  have u0 : Z[σ.size]? = some (.cells 0 (List.replicate 16 (.int .u8 0)) (0, 0)) := by rw [hZ]; exact (get_set_ne (by omega)).trans t0
  have u1 : Z[σ.size + 1]? = some (.cells 0 (List.replicate 16 (.int .u8 0)) (0, 0)) := by rw [hZ]; exact (get_set_ne (by omega)).trans t1
  have u2 : Z[σ.size + 2]? = some (.cells 1 (digC D) (0, 0)) := by rw [hZ]; exact get_set t2
  clear hZ
  have hBZ := hB.keep oZ
  obtain ⟨vc2, bc2⟩ := hBZ.c
  have g4 : rd1 Z ⟨cb, 0, none⟩ = _ := rd1_of bc2 .refl (k := 0) rfl
  have hL2 : L.dropLast.length ≤ 1000 := by rw [List.length_dropLast]; omega
  have hLd' : ∀ d ∈ L.dropLast, d.length = 16 := fun d h => hLd d (List.dropLast_subset _ h)
  by_cases hik : m ≤ k
  case' pos =>
   have ei : decide ((m : Int) ≤ (k : Int)) = true := by rw [decide_eq_true]; omega
   rw [hR, if_pos hik]
   simp only [↓eD, eZ, ↓reduceIte, Nat.reduceEqDiff, Nat.reduceAdd, Nat.reduceMul, reduceCtorEq, Nat.reduceLeDiff, Int.reduceLT, Int.reduceLE, Int.reduceToNat, Int.reduceEq, Nat.reduceLT, ei, g4, undef_eq]
   refine appK_of (ih Z m k mark L.dropLast (sh || L.isEmpty) (by omega) (by omega) (by omega) hik hL2 hP3 hBZ) ?_
  case' neg =>
   have ei : decide ((m : Int) ≤ (k : Int)) = false := by rw [decide_eq_false]; omega
   have wi : IntKind.wrap .i64 ((m : Int) - (k : Int)) = ((m - k : Nat) : Int) := by rw [wrap64' (by omega) (by omega)]; omega
   have wn : IntKind.wrap .i64 ((n : Int) - (k : Int)) = ((n - k : Nat) : Int) := by rw [wrap64' (by omega) (by omega)]; omega
   rw [hR, if_neg hik]
   simp only [↓eD, eZ, ↓reduceIte, Nat.reduceEqDiff, Nat.reduceAdd, Nat.reduceMul, reduceCtorEq, Nat.reduceLeDiff, Int.reduceLT, Int.reduceLE, Int.reduceToNat, Int.reduceEq, Nat.reduceLT, ei, wi, wn, g4, undef_eq]
   refine appK_of (ih Z (m - k) (n - k) false L.dropLast (sh || L.isEmpty) (by omega) (by omega) (by omega) (by omega) hL2 hP3 hBZ) ?_
  all_goals
   rintro _ υ ⟨rfl, hP4, hO4⟩
   have lυ := hP4.lt
   have sυ := hO4.1
  case' pos =>
   obtain ⟨C16, C16'⟩ := ccF_len hl (m := m) (mark := mark) (L := L.dropLast) (sh := sh || L.isEmpty) (Nat.le_refl k) hLd'
   generalize ccF leaf m k mark L.dropLast (sh || L.isEmpty) = r at C16 C16' hP4 ⊢
  case' neg =>
   obtain ⟨C16, C16'⟩ := ccF_len hl (m := m - k) (mark := false) (L := L.dropLast) (sh := sh || L.isEmpty) (Nat.le_refl (n - k)) hLd'
   generalize ccF leaf (m - k) (n - k) false L.dropLast (sh || L.isEmpty) = r at C16 C16' hP4 ⊢
  all_goals
   obtain ⟨a1, a2, a3, a4⟩ := dig_len C16
   obtain ⟨b1, b2, b3, b4⟩ := dig_len C16'
   have v0 := (hO4.2 _ (by omega) (by omega)).trans u0
   have v1 := (hO4.2 _ (by omega) (by omega)).trans u1
   have v2 := (hO4.2 _ (by omega) (by omega)).trans u2
   have oF := oZ.trans hO4
   have f13 : ∀ M, rdN (ap υ M) ⟨σ.size + 2, 0, none⟩ 16 = some (digC D) := fun M => rdb_of v2 .ap l1
   have oX : ∀ M, Old υ (ap υ M) := fun M => .ap
   have y0 := fun M => (oX M).2 _ (by omega) |>.trans v0
   have y1 := fun M => (oX M).2 _ (by omega) |>.trans v1
   rw [← ap_nil (σ := υ)]
   simp only [↓eD, eZ, ↓reduceIte, Nat.reduceEqDiff, Nat.reduceAdd, Nat.reduceMul, reduceCtorEq, Nat.reduceLeDiff, Int.reduceLT, Int.reduceLE, Int.reduceToNat, Int.reduceEq, Nat.reduceLT, rep16, a1, a2, a3, a4, b1, b2, b3, b4, f13, digC_one, undef_eq]
  case' pos =>
   refine appK_at (lnode_app C16' D16 (hG.Old (hP4.old.trans .ap))) ?_
   have N16 : (nodeF r.1.2 D).length = 16 := nodeF_len
   generalize nodeF r.1.2 D = E at N16 ⊢
   obtain ⟨m1, m2, m3, m4⟩ := dig_len N16
   obtain ⟨θ1, θ2, k1, k2, k3, k4, k5, k6, k7⟩ := two (ap υ [.cells 1 (digC r.1.1) (0, 0), .cells 1 (digC r.1.2) (0, 0)]) r.1.1 E C16 N16 (y0 _) (y1 _)
   simp only [↓eD, eZ, ↓reduceIte, Nat.reduceEqDiff, Nat.reduceAdd, Nat.reduceMul, reduceCtorEq, Nat.reduceLeDiff, Int.reduceLT, Int.reduceLE, Int.reduceToNat, Int.reduceEq, Nat.reduceLT, a1, a2, m1, k1, k2, k3, k4, undef_eq]
   rw [ap_nil]
   exact ⟨(hP4.Old .ap).two (by omega) (by omega) (by omega) (by omega) k6 k7, (oF.trans (oldB_of .ap)).two (Nat.le_refl _) (by omega) k6 k7⟩
  case' neg =>
   refine appK_at (lnode_app D16 C16 (hG.Old (hP4.old.trans .ap))) ?_
   simp only [↓eD, eZ, ↓reduceIte, Nat.reduceEqDiff, Nat.reduceAdd, Nat.reduceMul, reduceCtorEq, Nat.reduceLeDiff, Int.reduceLT, Int.reduceLE, Int.reduceToNat, Int.reduceEq, Nat.reduceLT, a1, a2, b1, b2, f13, undef_eq]
   refine appK_at (lnode_app D16 C16' (hG.Old (hP4.old.trans .ap))) ?_
   have N16 : (nodeF D r.1.1).length = 16 := nodeF_len
   have M16 : (nodeF D r.1.2).length = 16 := nodeF_len
   generalize nodeF D r.1.1 = E at N16 ⊢
   generalize nodeF D r.1.2 = F at M16 ⊢
   obtain ⟨m1, m2, m3, m4⟩ := dig_len N16
   obtain ⟨n1, n2, n3, n4⟩ := dig_len M16
   obtain ⟨θ1, θ2, k1, k2, k3, k4, k5, k6, k7⟩ := two (ap υ [.cells 1 (digC r.1.1) (0, 0), .cells 1 (digC r.1.2) (0, 0)]) E F N16 M16 (y0 _) (y1 _)
   simp only [↓eD, eZ, ↓reduceIte, Nat.reduceEqDiff, Nat.reduceAdd, Nat.reduceMul, reduceCtorEq, Nat.reduceLeDiff, Int.reduceLT, Int.reduceLE, Int.reduceToNat, Int.reduceEq, Nat.reduceLT, m1, n1, k1, k2, k3, k4, undef_eq]
   rw [ap_nil]
   exact ⟨(hP4.Old .ap).two (by omega) (by omega) (by omega) (by omega) k6 k7, (oF.trans (oldB_of .ap)).two (Nat.le_refl _) (by omega) k6 k7⟩
def chkC (m n : Int) (old root : List Int) (L : List (List Int)) : Bool :=
 if m < 0 ∨ n < m ∨ 1099511627776 < n then false
 else if m = 0 then decide (old = emptyF) && L.isEmpty
 else (decide ((ccF old m.toNat n.toNat true L false).1.1 = old) && decide ((ccF old m.toNat n.toNat true L false).1.2 = root)) && !(ccF old m.toNat n.toNat true L false).2.2 && (ccF old m.toNat n.toNat true L false).2.1.isEmpty
theorem chkc_app {σ : H} {v : Value} {old root : List Int} {L : List (List Int)} {i n : Int} (hl : old.length = 16) (hr : root.length = 16) (hL : Ls σ v L) (hn : L.length ≤ 1000) (hG : HGlob σ) :
  App Tryd.prog (.func 26) #[] #[.int .i64 i, .int .i64 n, .agg (digC old).toArray, .agg (digC root).toArray, v] σ fun w σ' => σ' = σ ∧ w = .bool (chkC i n old root L) := by
 refine App.forget (App.of_semD mixed Tryd.func26 t26 k26 r26 (Nat.le_of_ble_eq_true rfl) ?_)
 obtain ⟨a, c, rfl⟩ := hL.slice
 obtain ⟨q1, q2, q3, q4⟩ := dig_len hl
 obtain ⟨p1, p2, p3, p4⟩ := dig_len hr
 rw [← ap_nil (σ := σ)]
 unfold s26 chkC
 by_cases g1 : i < 0
 ·have d1 : decide (i < 0) = true := decide_eq_true g1
  rw [if_pos (.inl g1)]
  simp only [semD, ↓eD, eZ, ↓reduceIte, Nat.reduceEqDiff, Nat.reduceAdd, Nat.reduceMul, reduceCtorEq, Nat.reduceLeDiff, Int.reduceLT, Int.reduceLE, Int.reduceToNat, Int.reduceEq, Nat.reduceLT, q1, q2, p1, p2, d1, undef_eq]
  first | exact ⟨.ap, rfl, rfl⟩ | exact ⟨.ap, rfl⟩
 have d1 : decide (i < 0) = false := decide_eq_false g1
 by_cases g2 : n < i
 ·have d2 : decide (n < i) = true := decide_eq_true g2
  rw [if_pos (.inr (.inl g2))]
  simp only [semD, ↓eD, eZ, ↓reduceIte, Nat.reduceEqDiff, Nat.reduceAdd, Nat.reduceMul, reduceCtorEq, Nat.reduceLeDiff, Int.reduceLT, Int.reduceLE, Int.reduceToNat, Int.reduceEq, Nat.reduceLT, q1, q2, p1, p2, d1, d2, undef_eq]
  first | exact ⟨.ap, rfl, rfl⟩ | exact ⟨.ap, rfl⟩
 have d2 : decide (n < i) = false := decide_eq_false g2
 by_cases g3 : 1099511627776 < n
 ·have d3 : decide (1099511627776 < n) = true := decide_eq_true g3
  rw [if_pos (.inr (.inr g3))]
  simp only [semD, ↓eD, eZ, ↓reduceIte, Nat.reduceEqDiff, Nat.reduceAdd, Nat.reduceMul, reduceCtorEq, Nat.reduceLeDiff, Int.reduceLT, Int.reduceLE, Int.reduceToNat, Int.reduceEq, Nat.reduceLT, q1, q2, p1, p2, d1, d2, d3, undef_eq]
  first | exact ⟨.ap, rfl, rfl⟩ | exact ⟨.ap, rfl⟩
 have d3 : decide (1099511627776 < n) = false := decide_eq_false g3
 rw [if_neg (by omega)]
 obtain ⟨x, rfl⟩ : ∃ x : Nat, i = (x : Int) := ⟨i.toNat, by omega⟩
 obtain ⟨m, rfl⟩ : ∃ m : Nat, n = (m : Int) := ⟨n.toNat, by omega⟩
 rw [Int.toNat_natCast, Int.toNat_natCast]
 by_cases g4 : (x : Int) = 0
 ·have d4 : decide ((x : Int) = 0) = true := decide_eq_true g4
  rw [if_pos g4]
  simp only [semD, ↓eD, eZ, ↓reduceIte, Nat.reduceEqDiff, Nat.reduceAdd, Nat.reduceMul, reduceCtorEq, Nat.reduceLeDiff, Int.reduceLT, Int.reduceLE, Int.reduceToNat, Int.reduceEq, Nat.reduceLT, q1, q2, p1, p2, d1, d2, d3, d4, undef_eq]
  refine ⟨_, rfl, ?_⟩
  obtain ⟨T, hT⟩ : ∃ T, T = ap σ [.cells 0 (digC old) (0, 0), .cells 0 (digC root) (0, 0), .cells 0 [.bool false] (0, 0), .cells 0 [.slice a L.length c, .bool false] (0, 0), .cells 1 [.pointer (some ⟨σ.size + 3, 0, none⟩)] (0, 0)] := ⟨_, rfl⟩
  rw [← hT]
  have oT : Old σ T := by rw [hT]; exact .ap
  have sT : T.size = σ.size + 5 := by rw [hT]; simp [ap_size]
  have t0 : T[σ.size]? = some (.cells 0 (digC old) (0, 0)) := by rw [hT, ap_new0]; rfl
  have t2 : T[σ.size + 2]? = some (.cells 0 [.bool false] (0, 0)) := by rw [hT, ap_new]; rfl
  have t3 : T[σ.size + 3]? = some (.cells 0 [.slice a L.length c, .bool false] (0, 0)) := by rw [hT, ap_new]; rfl
  clear hT
  have hP : Pth σ T (σ.size + 3) L false := ⟨oT, by omega, 0, _, t3, hL⟩
  refine appK_at (lempty_app (hG.Old oT)) ?_
  have ae := aggEq_dig (a := old) (b := emptyF) hl emptyF_len
  have g0' := rdN_all (n := 16) t0 q1
  have kw : ∀ x : Bool, wrN T ⟨σ.size + 2, 0, none⟩ [.bool x] = some (T.setIfInBounds (σ.size + 2) (.cells (0 + 1) [.bool x] (0, 0))) := fun x => by
   rw [wrN_eq, if_neg (by simp), t2, wrc_cells, if_pos ⟨by simp, rfl⟩]
   rfl
  simp only [↓eD, eZ, ↓reduceIte, Nat.reduceEqDiff, Nat.reduceAdd, Nat.reduceMul, reduceCtorEq, Nat.reduceLeDiff, Int.reduceLT, Int.reduceLE, Int.reduceToNat, Int.reduceEq, Nat.reduceLT, g0', ae, kw, undef_eq]
  have hP3 := hP.set (b := σ.size + 2) (k := .cells (0 + 1) [.bool (decide (old = emptyF))] (0, 0)) (by omega) (by omega)
  refine fin_app hP3 (get_set t2) (by omega) (by omega) fun σ' o' hr' => ?_
  rw [Bool.not_false, Bool.and_true] at hr'
  simp only [↓eD, eZ, ↓reduceIte, Nat.reduceEqDiff, Nat.reduceAdd, Nat.reduceMul, reduceCtorEq, Nat.reduceLeDiff, Int.reduceLT, Int.reduceLE, Int.reduceToNat, Int.reduceEq, Nat.reduceLT, hr', undef_eq]
  rw [ap_nil]
  first | exact ⟨o', rfl, rfl⟩ | exact ⟨o', rfl⟩
 have d4 : decide ((x : Int) = 0) = false := decide_eq_false g4
 rw [if_neg g4]
 simp only [semD, ↓eD, eZ, ↓reduceIte, Nat.reduceEqDiff, Nat.reduceAdd, Nat.reduceMul, reduceCtorEq, Nat.reduceLeDiff, Int.reduceLT, Int.reduceLE, Int.reduceToNat, Int.reduceEq, Nat.reduceLT, q1, q2, p1, p2, d1, d2, d3, d4, undef_eq]
 refine ⟨_, rfl, ?_⟩
 obtain ⟨T, hT⟩ : ∃ T, T = ap σ [.cells 0 (digC old) (0, 0), .cells 0 (digC root) (0, 0), .cells 0 [.bool false] (0, 0), .cells 0 [.slice a L.length c, .bool false] (0, 0), .cells 1 [.pointer (some ⟨σ.size + 3, 0, none⟩)] (0, 0), .cells 1 [.func (.func 53) #[] #[.pointer (some ⟨σ.size, 0, none⟩), .pointer (some ⟨σ.size + 4, 0, none⟩), .pointer (some ⟨σ.size + 5, 0, none⟩)]] (0, 0)] := ⟨_, rfl⟩
 rw [← hT]
 have oT : Old σ T := by rw [hT]; exact .ap
 have sT : T.size = σ.size + 6 := by rw [hT]; simp [ap_size]
 have t0 : T[σ.size]? = some (.cells 0 (digC old) (0, 0)) := by rw [hT, ap_new0]; rfl
 have t1 : T[σ.size + 1]? = some (.cells 0 (digC root) (0, 0)) := by rw [hT, ap_new]; rfl
 have t2 : T[σ.size + 2]? = some (.cells 0 [.bool false] (0, 0)) := by rw [hT, ap_new]; rfl
 have t3 : T[σ.size + 3]? = some (.cells 0 [.slice a L.length c, .bool false] (0, 0)) := by rw [hT, ap_new]; rfl
 have t4 : T[σ.size + 4]? = some (.cells 1 [.pointer (some ⟨σ.size + 3, 0, none⟩)] (0, 0)) := by rw [hT, ap_new]; rfl
 have t5 : T[σ.size + 5]? = some (.cells 1 [.func (.func 53) #[] #[.pointer (some ⟨σ.size, 0, none⟩), .pointer (some ⟨σ.size + 4, 0, none⟩), .pointer (some ⟨σ.size + 5, 0, none⟩)]] (0, 0)) := by rw [hT, ap_new]; rfl
 clear hT
 have hP : Pth σ T (σ.size + 3) L false := ⟨oT, by omega, 0, _, t3, hL⟩
 have hB : Bx T σ.size (σ.size + 4) (σ.size + 5) (σ.size + 3) old _ := ⟨⟨0, t0⟩, ⟨1, t4⟩, ⟨1, t5⟩, by omega, by omega, by omega⟩
 refine appK_of (clc1_app hl hG m T x m true L false (Nat.le_refl _) (by omega) (by omega) (by omega) hn hP hB) ?_
 rintro _ τ ⟨rfl, hP2, hO⟩
 obtain ⟨C16, C16'⟩ := ccF_len hl (m := x) (mark := true) (L := L) (sh := false) (Nat.le_refl m) hL.d
 generalize ccF old x m true L false = r at C16 C16' hP2 ⊢
 have u0 := (hO.2 σ.size (by omega) (by omega)).trans t0
 have u1 := (hO.2 (σ.size + 1) (by omega) (by omega)).trans t1
 have u2 := (hO.2 (σ.size + 2) (by omega) (by omega)).trans t2
 have sτ := hO.1
 obtain ⟨a1, a2, a3, a4⟩ := dig_len C16
 obtain ⟨b1, b2, b3, b4⟩ := dig_len C16'
 have f7 : ∀ M, rdN (ap τ M) ⟨σ.size, 0, none⟩ 16 = some (digC old) := fun M => rdb_of u0 .ap q1
 have f8 : ∀ M, rdN (ap τ M) ⟨σ.size + 1, 0, none⟩ 16 = some (digC root) := fun M => rdb_of u1 .ap p1
 have ae := aggEq_dig (a := r.1.1) (b := old) C16 hl
 have ae' := aggEq_dig (a := r.1.2) (b := root) C16' hr
 have kw : ∀ (M : List Blk) (x : Bool), wrN (ap τ M) ⟨σ.size + 2, 0, none⟩ [.bool x] = some ((ap τ M).setIfInBounds (σ.size + 2) (.cells (0 + 1) [.bool x] (0, 0))) := fun M x => by
  rw [wrN_eq, if_neg (by simp), (ap_old (by omega)).trans u2, wrc_cells, if_pos ⟨by simp, rfl⟩]
  rfl
 rw [← ap_nil (σ := τ)]
 by_cases g5 : r.1.1 = old
 case' pos =>
  have d5 : decide (r.1.1 = old) = true := decide_eq_true g5
  simp only [↓eD, eZ, ↓reduceIte, Nat.reduceEqDiff, Nat.reduceAdd, Nat.reduceMul, reduceCtorEq, Nat.reduceLeDiff, Int.reduceLT, Int.reduceLE, Int.reduceToNat, Int.reduceEq, Nat.reduceLT, rep16, a1, a2, a3, a4, b1, b2, b3, b4, f7, f8, ae, ae', d5, kw, digC_one, undef_eq]
 case' neg =>
  have d5 : decide (r.1.1 = old) = false := decide_eq_false g5
  simp only [↓eD, eZ, ↓reduceIte, Nat.reduceEqDiff, Nat.reduceAdd, Nat.reduceMul, reduceCtorEq, Nat.reduceLeDiff, Int.reduceLT, Int.reduceLE, Int.reduceToNat, Int.reduceEq, Nat.reduceLT, rep16, a1, a2, a3, a4, b1, b2, b3, b4, f7, f8, ae, ae', d5, kw, digC_one, undef_eq]
 case' pos =>
  have hP3 := (hP2.Old (.ap (l := [.cells 1 (digC r.1.1) (0, 0), .cells 1 (digC r.1.2) (0, 0)]))).set (b := σ.size + 2) (k := .cells (0 + 1) [.bool (decide (r.1.2 = root))] (0, 0)) (by omega) (by omega)
 case' neg =>
  have hP3 := (hP2.Old (.ap (l := [.cells 1 (digC r.1.1) (0, 0), .cells 1 (digC r.1.2) (0, 0)]))).set (b := σ.size + 2) (k := .cells (0 + 1) [.bool false] (0, 0)) (by omega) (by omega)
 all_goals
  refine fin_app hP3 (get_set ((ap_old (by omega)).trans u2)) (by omega) (by omega) fun σ' o' hr' => ?_
  simp only [↓eD, eZ, ↓reduceIte, Nat.reduceEqDiff, Nat.reduceAdd, Nat.reduceMul, reduceCtorEq, Nat.reduceLeDiff, Int.reduceLT, Int.reduceLE, Int.reduceToNat, Int.reduceEq, Nat.reduceLT, hr', undef_eq]
  rw [ap_nil]
  first | exact ⟨o', rfl, rfl⟩ | exact ⟨o', rfl⟩ | (refine ⟨o', rfl, ?_⟩; simp)
end Go.Proofs.YtjgbbhfihcmphaaDoor
