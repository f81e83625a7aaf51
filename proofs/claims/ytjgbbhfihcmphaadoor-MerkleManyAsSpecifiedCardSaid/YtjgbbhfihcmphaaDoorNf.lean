/- Walks of the functions that the claim reaches. Conditions: none. -/
import Derived.Test.YtjgbbhfihcmphaaDoorNe
set_option linter.all false
set_option maxRecDepth 10000
set_option maxHeartbeats 4000000
namespace Go.Proofs.YtjgbbhfihcmphaaDoor
open Go Go.Cn Go.RowKit
attribute [local irreducible] evL sem onG onI onV
def clF (leaf : List Int) (i n : Nat) (L : List (List Int)) (sh : Bool) : List Int × List (List Int) × Bool :=
 if h : n ≤ 1 then (leaf, L, sh)
 else if i < splitN n then (nodeF (clF leaf i (splitN n) L.dropLast (sh || L.isEmpty)).1 (lastD L), (clF leaf i (splitN n) L.dropLast (sh || L.isEmpty)).2)
 else (nodeF (lastD L) (clF leaf (i - splitN n) (n - splitN n) L.dropLast (sh || L.isEmpty)).1, (clF leaf (i - splitN n) (n - splitN n) L.dropLast (sh || L.isEmpty)).2)
termination_by n
decreasing_by all_goals (have := splitN_spec (n := n) (by omega); omega)
theorem clF_len {leaf : List Int} (hl : leaf.length = 16) : ∀ {N i n : Nat} {L : List (List Int)} {sh : Bool}, n ≤ N → (clF leaf i n L sh).1.length = 16
 |0, i, n, L, sh, h => by rw [clF, dif_pos (by omega)]; exact hl
 |N + 1, i, n, L, sh, h => by
  rw [clF]
  split
  ·exact hl
  ·split <;> exact nodeF_len
structure Bx (σ : H) (lb pb cb q : Nat) (leaf : List Int) (fv : Value) : Prop where
 l : ∃ ver, σ[lb]? = some (.cells ver (digC leaf) (0, 0))
 p : ∃ ver, σ[pb]? = some (.cells ver [.pointer (some ⟨q, 0, none⟩)] (0, 0))
 c : ∃ ver, σ[cb]? = some (.cells ver [fv] (0, 0))
 lq : lb ≠ q
 pq : pb ≠ q
 cq : cb ≠ q
theorem Bx.keep {σ τ : H} {lb pb cb q : Nat} {leaf : List Int} {fv : Value} (h : Bx σ lb pb cb q leaf fv) (ho : OldB q σ τ) : Bx τ lb pb cb q leaf fv := by
 obtain ⟨v1, h1⟩ := h.l
 obtain ⟨v2, h2⟩ := h.p
 obtain ⟨v3, h3⟩ := h.c
 exact ⟨⟨v1, (ho.2 _ (Array.getElem?_eq_some_iff.1 h1).1 h.lq).trans h1⟩, ⟨v2, (ho.2 _ (Array.getElem?_eq_some_iff.1 h2).1 h.pq).trans h2⟩, ⟨v3, (ho.2 _ (Array.getElem?_eq_some_iff.1 h3).1 h.cq).trans h3⟩, h.lq, h.pq, h.cq⟩
theorem oldB_of {b : Nat} {σ τ : H} (h : Old σ τ) : OldB b σ τ := ⟨h.1, fun c h1 _ => h.2 c h1⟩
theorem OldB.trans {b : Nat} {σ τ υ : H} (h : OldB b σ τ) (h' : OldB b τ υ) : OldB b σ υ := ⟨Nat.le_trans h.1 h'.1, fun c h1 h2 => (h'.2 c (Nat.lt_of_lt_of_le h1 h.1) h2).trans (h.2 c h1 h2)⟩
theorem OldB.setNew {b c : Nat} {σ τ : H} {k : Blk} (h : OldB b σ τ) (hc : σ.size ≤ c) : OldB b σ (τ.setIfInBounds c k) := ⟨by simpa using h.1, fun d h1 h2 => (get_set_ne (by omega)).trans (h.2 d h1 h2)⟩
theorem cli1_app {σ0 : H} {lb pb cb q : Nat} {leaf : List Int} (hl : leaf.length = 16) (hG : HGlob σ0) : ∀ (N : Nat) (σ : H) (i n : Nat) (L : List (List Int)) (sh : Bool), n ≤ N → 0 < n → n ≤ 1099511627776 → i < n → L.length ≤ 1000 →
  Pth σ0 σ q L sh → Bx σ lb pb cb q leaf (.func (.func 51) #[] #[.pointer (some ⟨lb, 0, none⟩), .pointer (some ⟨pb, 0, none⟩), .pointer (some ⟨cb, 0, none⟩)]) →
  App Tryd.prog (.func 51) #[.pointer (some ⟨lb, 0, none⟩), .pointer (some ⟨pb, 0, none⟩), .pointer (some ⟨cb, 0, none⟩)] #[.int .i64 (i : Int), .int .i64 (n : Int)] σ fun w σ' =>
   w = .agg (digC (clF leaf i n L sh).1).toArray ∧ Pth σ0 σ' q (clF leaf i n L sh).2.1 (clF leaf i n L sh).2.2 ∧ OldB q σ σ' := by
 intro N
 induction N with
 |zero => intro σ i n L sh h1 h2; omega
 |succ N ih =>
  intro σ i n L sh hN hpos hmx hi hLn hP hB
  refine App.of_sem mixed Tryd.func51 t51 k51 r51 (Nat.le_of_ble_eq_true rfl) ?_
  rw [← ap_nil (σ := σ)]
  unfold s51
  obtain ⟨vl, bl⟩ := hB.l
  obtain ⟨vp, bp⟩ := hB.p
  obtain ⟨vc, bc⟩ := hB.c
  have llb := (Array.getElem?_eq_some_iff.1 bl).1
  have lpb := (Array.getElem?_eq_some_iff.1 bp).1
  have lcb := (Array.getElem?_eq_some_iff.1 bc).1
  have lq := hP.lt
  have hσ := hP.old.1
  obtain ⟨q1, q2, q3, q4⟩ := dig_len hl
  by_cases h1 : n = 1
  ·have e1 : decide ((n : Int) = 1) = true := by rw [decide_eq_true]; omega
   have hR : clF leaf i n L sh = (leaf, L, sh) := by rw [clF, dif_pos (by omega)]
   rw [hR]
   obtain ⟨T, hT⟩ : ∃ T, T = ap σ [.cells 0 (List.replicate 16 (.int .u8 0)) (0, 0)] := ⟨_, rfl⟩
   have oT : Old σ T := by rw [hT]; exact .ap
   have z0 : T[σ.size]? = some (.cells 0 (List.replicate 16 (.int .u8 0)) (0, 0)) := by rw [hT, ap_new0]; rfl
   have g2 := rdN_all (n := 16) ((oT.2 _ llb).trans bl) q1
   obtain ⟨w1, r1⟩ := dig_put hl z0
   rw [hT] at g2 w1 r1
   simp only [↓eD, eZ, ↓reduceIte, Nat.reduceEqDiff, Nat.reduceAdd, Nat.reduceMul, reduceCtorEq, Nat.reduceLeDiff, Int.reduceLT, Int.reduceLE, Int.reduceToNat, Int.reduceEq, Nat.reduceLT, rep16, e1, g2, q1, w1, r1, undef_eq]
   rw [← hT, ap_nil]
   have hx := (hP.Old oT).set (b := σ.size) (k := .cells (0 + 1) (digC leaf) (0, 0)) hσ (by omega)
   have hy := (oldB_of (b := q) oT).setNew (c := σ.size) (k := .cells (0 + 1) (digC leaf) (0, 0)) (Nat.le_refl _)
   exact ⟨hx, hy⟩
  have e1 : decide ((n : Int) = 1) = false := by rw [decide_eq_false]; omega
  have hs := splitN_spec (n := n) (by omega)
  obtain ⟨T, hT⟩ : ∃ T, T = ap σ [.cells 0 (List.replicate 16 (.int .u8 0)) (0, 0), .cells 0 (List.replicate 16 (.int .u8 0)) (0, 0)] := ⟨_, rfl⟩
  have oT : Old σ T := by rw [hT]; exact .ap
  have sT : T.size = σ.size + 2 := by rw [hT]; simp [ap_size]
  have z0 : T[σ.size]? = some (.cells 0 (List.replicate 16 (.int .u8 0)) (0, 0)) := by rw [hT, ap_new0]; rfl
  have z1 : T[σ.size + 1]? = some (.cells 0 (List.replicate 16 (.int .u8 0)) (0, 0)) := by rw [hT, ap_new]; rfl
  have g3 : ∀ M, rd1 (ap σ M) ⟨pb, 0, none⟩ = some (.pointer (some ⟨q, 0, none⟩)) := fun M => rd1_of bp .ap rfl
  simp only [↓eD, eZ, ↓reduceIte, Nat.reduceEqDiff, Nat.reduceAdd, Nat.reduceMul, reduceCtorEq, Nat.reduceLeDiff, Int.reduceLT, Int.reduceLE, Int.reduceToNat, Int.reduceEq, Nat.reduceLT, rep16, e1, g3, undef_eq]
  rw [← hT]
  have g3T : rd1 T ⟨pb, 0, none⟩ = some (.pointer (some ⟨q, 0, none⟩)) := rd1_of bp oT rfl
  clear hT
  refine appK_at (lsplit_app (by omega) (by omega)) ?_
  obtain ⟨k, hk⟩ : ∃ k, k = splitN n := ⟨_, rfl⟩
  rw [← hk] at hs ⊢
  have hR : clF leaf i n L sh = if i < k then (nodeF (clF leaf i k L.dropLast (sh || L.isEmpty)).1 (lastD L), (clF leaf i k L.dropLast (sh || L.isEmpty)).2) else (nodeF (lastD L) (clF leaf (i - k) (n - k) L.dropLast (sh || L.isEmpty)).1, (clF leaf (i - k) (n - k) L.dropLast (sh || L.isEmpty)).2) := by
   rw [clF, dif_neg (by omega), hk]
  have hLd : ∀ d ∈ L, d.length = 16 := by obtain ⟨_, _, _, h9⟩ := hP.b; exact h9.d
  have D16 := lastD_len hLd
  simp only [↓eD, eZ, ↓reduceIte, Nat.reduceEqDiff, Nat.reduceAdd, Nat.reduceMul, reduceCtorEq, Nat.reduceLeDiff, Int.reduceLT, Int.reduceLE, Int.reduceToNat, Int.reduceEq, Nat.reduceLT, g3T, undef_eq]
  refine appK_of (last_app (hP.Old oT) hLn) ?_
  rintro _ τ ⟨rfl, hP2, hO2⟩
  generalize lastD L = D at D16 hR ⊢
  obtain ⟨l1, l2, l3, l4⟩ := dig_len D16
  have lT := hP2.lt
  have t0 : τ[σ.size]? = some (.cells 0 (List.replicate 16 (.int .u8 0)) (0, 0)) := (hO2.2 _ (by omega) (by omega)).trans z0
  have t1 : τ[σ.size + 1]? = some (.cells 0 (List.replicate 16 (.int .u8 0)) (0, 0)) := (hO2.2 _ (by omega) (by omega)).trans z1
  obtain ⟨w1, r1⟩ := dig_put D16 t1
  simp only [↓eD, eZ, ↓reduceIte, Nat.reduceEqDiff, Nat.reduceAdd, Nat.reduceMul, reduceCtorEq, Nat.reduceLeDiff, Int.reduceLT, Int.reduceLE, Int.reduceToNat, Int.reduceEq, Nat.reduceLT, l1, w1, undef_eq]
  obtain ⟨Z, hZ⟩ : ∃ Z, Z = τ.setIfInBounds (σ.size + 1) (.cells (0 + 1) (digC D) (0, 0)) := ⟨_, rfl⟩
  rw [← hZ] at r1 ⊢
  have oZ : OldB q σ Z := by rw [hZ]; exact ((oldB_of oT).trans hO2).setNew (by omega)
  have hP3 : Pth σ0 Z q L.dropLast (sh || L.isEmpty) := by rw [hZ]; exact hP2.set (by omega) (by omega)
  have sZ : T.size ≤ Z.size := by rw [hZ]; simpa using hO2.1
  have u0 : Z[σ.size]? = some (.cells 0 (List.replicate 16 (.int .u8 0)) (0, 0)) := by rw [hZ]; exact (get_set_ne (by omega)).trans t0
  have u1 : Z[σ.size + 1]? = some (.cells 1 (digC D) (0, 0)) := by rw [hZ]; exact get_set t1
  clear hZ
  have hBZ := hB.keep oZ
  obtain ⟨vc2, bc2⟩ := hBZ.c
  have g4 : rd1 Z ⟨cb, 0, none⟩ = _ := rd1_of bc2 .refl (k := 0) rfl
  have hL2 : L.dropLast.length ≤ 1000 := by rw [List.length_dropLast]; omega
  by_cases hik : i < k
  case' pos =>
   have ei : decide ((i : Int) < (k : Int)) = true := by rw [decide_eq_true]; omega
   rw [hR, if_pos hik]
   simp only [↓eD, eZ, ↓reduceIte, Nat.reduceEqDiff, Nat.reduceAdd, Nat.reduceMul, reduceCtorEq, Nat.reduceLeDiff, Int.reduceLT, Int.reduceLE, Int.reduceToNat, Int.reduceEq, Nat.reduceLT, ei, g4, r1, undef_eq]
   refine appK_of (ih Z i k L.dropLast (sh || L.isEmpty) (by omega) (by omega) (by omega) hik hL2 hP3 hBZ) ?_
  case' neg =>
   have ei : decide ((i : Int) < (k : Int)) = false := by rw [decide_eq_false]; omega
   have wi : IntKind.wrap .i64 ((i : Int) - (k : Int)) = ((i - k : Nat) : Int) := by rw [wrap64' (by omega) (by omega)]; omega
   have wn : IntKind.wrap .i64 ((n : Int) - (k : Int)) = ((n - k : Nat) : Int) := by rw [wrap64' (by omega) (by omega)]; omega
   rw [hR, if_neg hik]
   simp only [↓eD, eZ, ↓reduceIte, Nat.reduceEqDiff, Nat.reduceAdd, Nat.reduceMul, reduceCtorEq, Nat.reduceLeDiff, Int.reduceLT, Int.reduceLE, Int.reduceToNat, Int.reduceEq, Nat.reduceLT, ei, wi, wn, g4, r1, undef_eq]
   refine appK_of (ih Z (i - k) (n - k) L.dropLast (sh || L.isEmpty) (by omega) (by omega) (by omega) (by omega) hL2 hP3 hBZ) ?_
  all_goals
   rintro _ υ ⟨rfl, hP4, hO4⟩
   have lυ := hP4.lt
   have v0 : υ[σ.size]? = some (.cells 0 (List.replicate 16 (.int .u8 0)) (0, 0)) := (hO4.2 _ (by omega) (by omega)).trans u0
   have v1 : υ[σ.size + 1]? = some (.cells 1 (digC D) (0, 0)) := (hO4.2 _ (by omega) (by omega)).trans u1
   have r9 := rdN_all (n := 16) v1 l1
   have oF := oZ.trans hO4
  case' pos =>
   have C16 := clF_len hl (i := i) (L := L.dropLast) (sh := sh || L.isEmpty) (Nat.le_refl k)
   generalize clF leaf i k L.dropLast (sh || L.isEmpty) = r at C16 hP4 ⊢
  case' neg =>
   have C16 := clF_len hl (i := i - k) (L := L.dropLast) (sh := sh || L.isEmpty) (Nat.le_refl (n - k))
   generalize clF leaf (i - k) (n - k) L.dropLast (sh || L.isEmpty) = r at C16 hP4 ⊢
  all_goals
   simp only [↓eD, eZ, ↓reduceIte, Nat.reduceEqDiff, Nat.reduceAdd, Nat.reduceMul, reduceCtorEq, Nat.reduceLeDiff, Int.reduceLT, Int.reduceLE, Int.reduceToNat, Int.reduceEq, Nat.reduceLT, r9, undef_eq]
  case' pos =>
   refine appK_at (lnode_app C16 D16 (hG.Old hP4.old)) ?_
   obtain ⟨w7, r7⟩ := dig_put (D := nodeF r.1 D) nodeF_len v0
   have N16 : (nodeF r.1 D).length = 16 := nodeF_len
   generalize nodeF r.1 D = E at w7 r7 N16 ⊢
  case' neg =>
   refine appK_at (lnode_app D16 C16 (hG.Old hP4.old)) ?_
   obtain ⟨w7, r7⟩ := dig_put (D := nodeF D r.1) nodeF_len v0
   have N16 : (nodeF D r.1).length = 16 := nodeF_len
   generalize nodeF D r.1 = E at w7 r7 N16 ⊢
  all_goals
   obtain ⟨m1, m2, m3, m4⟩ := dig_len N16
   simp only [↓eD, eZ, ↓reduceIte, Nat.reduceEqDiff, Nat.reduceAdd, Nat.reduceMul, reduceCtorEq, Nat.reduceLeDiff, Int.reduceLT, Int.reduceLE, Int.reduceToNat, Int.reduceEq, Nat.reduceLT, m1, w7, r7, undef_eq]
   rw [ap_nil]
   exact ⟨hP4.set (by omega) (by omega), oF.setNew (Nat.le_refl _)⟩
theorem aggEq_dig : ∀ {n : Nat} {a b : List Int}, a.length = n → b.length = n → aggEq (List.replicate n (.int .u8)) (digC a) (digC b) = some (decide (a = b))
 |0, [], [], _, _ => rfl
 |n + 1, x :: a, y :: b, h1, h2 => by
  have ih := aggEq_dig (n := n) (a := a) (b := b) (by simpa using h1) (by simpa using h2)
  simp only [digC, List.map_cons] at ih ⊢
  simp only [List.replicate_succ, aggEq, Leaf.fits, leafEq, ih, decide_true, and_self, ↓reduceIte]
  by_cases hx : x = y <;> by_cases ha : a = b <;> simp [hx, ha]
theorem fin_app {σ σ0 : H} {q o ver : Nat} {L : List (List Int)} {sh b : Bool} {F : H → Prop} (h : Pth σ0 σ q L sh) (ho : σ[o]? = some (.cells ver [.bool b] (0, 0))) (hoq : o ≠ q) (hoo : σ0.size ≤ o)
  (hF : ∀ σ', Cn.Old σ0 σ' → rd1 σ' ⟨o, 0, none⟩ = some (.bool (b && !sh && L.isEmpty)) → F σ') :
  AppD Tryd.prog 47 #[.pointer (some ⟨q, 0, none⟩), .pointer (some ⟨o, 0, none⟩)] σ F := by
 intro φ w args' hs hv
 obtain ⟨args2, h1, h2⟩ := settle_app h ho hoq φ w args' hs hv
 refine ⟨args2, h1, fun u => Cn.calls_mono (h2 u) fun en u' w' hq => ?_⟩
 obtain ⟨rfl, v, rfl, σ', φ', k1, k2⟩ := hq
 exact ⟨rfl, v, rfl, σ', φ', hF σ' (k1.1.old h.old hoo) k1.2, k2⟩
def chkI (leaf : List Int) (i n : Int) (L : List (List Int)) (root : List Int) : Bool :=
 if n < 1 ∨ 1099511627776 < n ∨ i < 0 ∨ n ≤ i then false
 else decide ((clF leaf i.toNat n.toNat L false).1 = root) && !(clF leaf i.toNat n.toNat L false).2.2 && (clF leaf i.toNat n.toNat L false).2.1.isEmpty
theorem chki_app {σ : H} {v : Value} {leaf root : List Int} {L : List (List Int)} {i n : Int} (hl : leaf.length = 16) (hr : root.length = 16) (hL : Ls σ v L) (hn : L.length ≤ 1000) (hG : HGlob σ) :
  App Tryd.prog (.func 25) #[] #[.agg (digC leaf).toArray, .int .i64 i, .int .i64 n, v, .agg (digC root).toArray] σ fun w σ' => σ' = σ ∧ w = .bool (chkI leaf i n L root) := by
 refine App.forget (App.of_semD mixed Tryd.func25 t25 k25 r25 (Nat.le_of_ble_eq_true rfl) ?_)
 obtain ⟨a, c, rfl⟩ := hL.slice
 obtain ⟨q1, q2, q3, q4⟩ := dig_len hl
 obtain ⟨p1, p2, p3, p4⟩ := dig_len hr
 rw [← ap_nil (σ := σ)]
 unfold s25 chkI
 by_cases g1 : n < 1
 ·have d1 : decide (n < 1) = true := decide_eq_true g1
  rw [if_pos (.inl g1)]
  simp only [semD, ↓eD, eZ, ↓reduceIte, Nat.reduceEqDiff, Nat.reduceAdd, Nat.reduceMul, reduceCtorEq, Nat.reduceLeDiff, Int.reduceLT, Int.reduceLE, Int.reduceToNat, Int.reduceEq, Nat.reduceLT, q1, q2, p1, p2, d1, undef_eq]
  first | exact ⟨.ap, rfl, rfl⟩ | exact ⟨.ap, rfl⟩
 have d1 : decide (n < 1) = false := decide_eq_false g1
 by_cases g2 : 1099511627776 < n
 ·have d2 : decide (1099511627776 < n) = true := decide_eq_true g2
  rw [if_pos (.inr (.inl g2))]
  simp only [semD, ↓eD, eZ, ↓reduceIte, Nat.reduceEqDiff, Nat.reduceAdd, Nat.reduceMul, reduceCtorEq, Nat.reduceLeDiff, Int.reduceLT, Int.reduceLE, Int.reduceToNat, Int.reduceEq, Nat.reduceLT, q1, q2, p1, p2, d1, d2, undef_eq]
  first | exact ⟨.ap, rfl, rfl⟩ | exact ⟨.ap, rfl⟩
 have d2 : decide (1099511627776 < n) = false := decide_eq_false g2
 by_cases g3 : i < 0
 ·have d3 : decide (i < 0) = true := decide_eq_true g3
  rw [if_pos (.inr (.inr (.inl g3)))]
  simp only [semD, ↓eD, eZ, ↓reduceIte, Nat.reduceEqDiff, Nat.reduceAdd, Nat.reduceMul, reduceCtorEq, Nat.reduceLeDiff, Int.reduceLT, Int.reduceLE, Int.reduceToNat, Int.reduceEq, Nat.reduceLT, q1, q2, p1, p2, d1, d2, d3, undef_eq]
  first | exact ⟨.ap, rfl, rfl⟩ | exact ⟨.ap, rfl⟩
 have d3 : decide (i < 0) = false := decide_eq_false g3
 by_cases g4 : n ≤ i
 ·have d4 : decide (n ≤ i) = true := decide_eq_true g4
  rw [if_pos (.inr (.inr (.inr g4)))]
  simp only [semD, ↓eD, eZ, ↓reduceIte, Nat.reduceEqDiff, Nat.reduceAdd, Nat.reduceMul, reduceCtorEq, Nat.reduceLeDiff, Int.reduceLT, Int.reduceLE, Int.reduceToNat, Int.reduceEq, Nat.reduceLT, q1, q2, p1, p2, d1, d2, d3, d4, undef_eq]
  first | exact ⟨.ap, rfl, rfl⟩ | exact ⟨.ap, rfl⟩
 have d4 : decide (n ≤ i) = false := decide_eq_false g4
 rw [if_neg (by omega)]
 obtain ⟨x, rfl⟩ : ∃ x : Nat, i = (x : Int) := ⟨i.toNat, by omega⟩
 obtain ⟨m, rfl⟩ : ∃ m : Nat, n = (m : Int) := ⟨n.toNat, by omega⟩
 rw [Int.toNat_natCast, Int.toNat_natCast]
 simp only [semD, ↓eD, eZ, ↓reduceIte, Nat.reduceEqDiff, Nat.reduceAdd, Nat.reduceMul, reduceCtorEq, Nat.reduceLeDiff, Int.reduceLT, Int.reduceLE, Int.reduceToNat, Int.reduceEq, Nat.reduceLT, q1, q2, p1, p2, d1, d2, d3, d4, undef_eq]
 refine ⟨_, rfl, ?_⟩
 obtain ⟨T, hT⟩ : ∃ T, T = ap σ [.cells 0 (digC leaf) (0, 0), .cells 0 (digC root) (0, 0), .cells 0 [.bool false] (0, 0), .cells 0 [.slice a L.length c, .bool false] (0, 0), .cells 1 [.pointer (some ⟨σ.size + 3, 0, none⟩)] (0, 0), .cells 1 [.func (.func 51) #[] #[.pointer (some ⟨σ.size, 0, none⟩), .pointer (some ⟨σ.size + 4, 0, none⟩), .pointer (some ⟨σ.size + 5, 0, none⟩)]] (0, 0)] := ⟨_, rfl⟩
 rw [← hT]
 have oT : Old σ T := by rw [hT]; exact .ap
 have sT : T.size = σ.size + 6 := by rw [hT]; simp [ap_size]
 have t0 : T[σ.size]? = some (.cells 0 (digC leaf) (0, 0)) := by rw [hT, ap_new0]; rfl
 have t1 : T[σ.size + 1]? = some (.cells 0 (digC root) (0, 0)) := by rw [hT, ap_new]; rfl
 have t2 : T[σ.size + 2]? = some (.cells 0 [.bool false] (0, 0)) := by rw [hT, ap_new]; rfl
 have t3 : T[σ.size + 3]? = some (.cells 0 [.slice a L.length c, .bool false] (0, 0)) := by rw [hT, ap_new]; rfl
 have t4 : T[σ.size + 4]? = some (.cells 1 [.pointer (some ⟨σ.size + 3, 0, none⟩)] (0, 0)) := by rw [hT, ap_new]; rfl
 have t5 : T[σ.size + 5]? = some (.cells 1 [.func (.func 51) #[] #[.pointer (some ⟨σ.size, 0, none⟩), .pointer (some ⟨σ.size + 4, 0, none⟩), .pointer (some ⟨σ.size + 5, 0, none⟩)]] (0, 0)) := by rw [hT, ap_new]; rfl
 clear hT
 have hP : Pth σ T (σ.size + 3) L false := ⟨oT, by omega, 0, _, t3, hL⟩
 have hB : Bx T σ.size (σ.size + 4) (σ.size + 5) (σ.size + 3) leaf _ := ⟨⟨0, t0⟩, ⟨1, t4⟩, ⟨1, t5⟩, by omega, by omega, by omega⟩
 refine appK_of (cli1_app hl hG m T x m L false (Nat.le_refl _) (by omega) (by omega) (by omega) hn hP hB) ?_
 rintro _ τ ⟨rfl, hP2, hO⟩
 have C16 := clF_len hl (i := x) (L := L) (sh := false) (Nat.le_refl m)
 generalize clF leaf x m L false = r at C16 hP2 ⊢
 have u1 := (hO.2 (σ.size + 1) (by omega) (by omega)).trans t1
 have u2 := (hO.2 (σ.size + 2) (by omega) (by omega)).trans t2
 have g1' := rdN_all (n := 16) u1 p1
 have ae := aggEq_dig (a := r.1) (b := root) C16 hr
 have kw : ∀ x : Bool, wrN τ ⟨σ.size + 2, 0, none⟩ [.bool x] = some (τ.setIfInBounds (σ.size + 2) (.cells (0 + 1) [.bool x] (0, 0))) := fun x => by
  rw [wrN_eq, if_neg (by simp), u2, wrc_cells, if_pos ⟨by simp, rfl⟩]
  rfl
 have hout := hO.1
 simp only [↓eD, eZ, ↓reduceIte, Nat.reduceEqDiff, Nat.reduceAdd, Nat.reduceMul, reduceCtorEq, Nat.reduceLeDiff, Int.reduceLT, Int.reduceLE, Int.reduceToNat, Int.reduceEq, Nat.reduceLT, g1', ae, kw, undef_eq]
 have hP3 := hP2.set (b := σ.size + 2) (k := .cells (0 + 1) [.bool (decide (r.1 = root))] (0, 0)) (by omega) (by omega)
 refine fin_app hP3 (get_set u2) (by omega) (by omega) fun σ' o' hr' => ?_
 simp only [↓eD, eZ, ↓reduceIte, Nat.reduceEqDiff, Nat.reduceAdd, Nat.reduceMul, reduceCtorEq, Nat.reduceLeDiff, Int.reduceLT, Int.reduceLE, Int.reduceToNat, Int.reduceEq, Nat.reduceLT, hr', undef_eq]
 rw [ap_nil]
 first | exact ⟨o', rfl, rfl⟩ | exact ⟨o', rfl⟩
end Go.Proofs.YtjgbbhfihcmphaaDoor
