/- Walks of the functions that the claim reaches. Conditions: none. -/
import Derived.Test.YtjgbbhfihcmphaaDoorNg
set_option linter.all false
set_option maxRecDepth 10000
set_option maxHeartbeats 4000000
namespace Go.Proofs.YtjgbbhfihcmphaaDoor
open Go Go.Cn Go.RowKit
attribute [local irreducible] evL sem onG onI onV
structure MS where
 L : List (List Int)
 s : Bool
 F : List (List Int)
 t : Bool
def cmF (fr : Int) (n : Nat) (Q : List Int) (st : MS) : List Int × MS :=
 if Q = [] then (headD st.L, ⟨st.L.tail, st.s || st.L.isEmpty, st.F, st.t⟩)
 else if h : n ≤ 1 then (headD st.F, ⟨st.L, st.s, st.F.tail, st.t || st.F.isEmpty⟩)
 else (nodeF (cmF fr (splitN n) (Q.take (cutK Q (fr + (splitN n : Int)))) st).1 (cmF (fr + (splitN n : Int)) (n - splitN n) (Q.drop (cutK Q (fr + (splitN n : Int)))) (cmF fr (splitN n) (Q.take (cutK Q (fr + (splitN n : Int)))) st).2).1,
  (cmF (fr + (splitN n : Int)) (n - splitN n) (Q.drop (cutK Q (fr + (splitN n : Int)))) (cmF fr (splitN n) (Q.take (cutK Q (fr + (splitN n : Int)))) st).2).2)
termination_by n
decreasing_by all_goals (have := splitN_spec (n := n) (by omega); omega)
def OldB2 (p q : Nat) (σ τ : H) : Prop := σ.size ≤ τ.size ∧ ∀ c, c < σ.size → c ≠ p → c ≠ q → τ[c]? = σ[c]?
theorem OldB2.trans {p q : Nat} {σ τ υ : H} (h : OldB2 p q σ τ) (h' : OldB2 p q τ υ) : OldB2 p q σ υ := ⟨Nat.le_trans h.1 h'.1, fun c h1 h2 h3 => (h'.2 c (Nat.lt_of_lt_of_le h1 h.1) h2 h3).trans (h.2 c h1 h2 h3)⟩
theorem oldB2_of {p q : Nat} {σ τ : H} (h : Old σ τ) : OldB2 p q σ τ := ⟨h.1, fun c h1 _ _ => h.2 c h1⟩
theorem oldB2_l {p q : Nat} {σ τ : H} (h : OldB p σ τ) : OldB2 p q σ τ := ⟨h.1, fun c h1 h2 _ => h.2 c h1 h2⟩
theorem oldB2_r {p q : Nat} {σ τ : H} (h : OldB q σ τ) : OldB2 p q σ τ := ⟨h.1, fun c h1 _ h2 => h.2 c h1 h2⟩
theorem OldB2.setNew {p q c : Nat} {σ τ : H} {k : Blk} (h : OldB2 p q σ τ) (hc : σ.size ≤ c) : OldB2 p q σ (τ.setIfInBounds c k) := ⟨by simpa using h.1, fun d h1 h2 h3 => (get_set_ne (by omega)).trans (h.2 d h1 h2 h3)⟩
structure By (σ : H) (pb qb cb p q : Nat) (fv : Value) : Prop where
 hp : ∃ ver, σ[pb]? = some (.cells ver [.pointer (some ⟨p, 0, none⟩)] (0, 0))
 hq : ∃ ver, σ[qb]? = some (.cells ver [.pointer (some ⟨q, 0, none⟩)] (0, 0))
 c : ∃ ver, σ[cb]? = some (.cells ver [fv] (0, 0))
 n1 : pb ≠ p ∧ pb ≠ q
 n2 : qb ≠ p ∧ qb ≠ q
 n3 : cb ≠ p ∧ cb ≠ q
theorem By.keep {σ τ : H} {pb qb cb p q : Nat} {fv : Value} (h : By σ pb qb cb p q fv) (ho : OldB2 p q σ τ) : By τ pb qb cb p q fv := by
 obtain ⟨v1, h1⟩ := h.hp
 obtain ⟨v2, h2⟩ := h.hq
 obtain ⟨v3, h3⟩ := h.c
 exact ⟨⟨v1, (ho.2 _ (Array.getElem?_eq_some_iff.1 h1).1 h.n1.1 h.n1.2).trans h1⟩, ⟨v2, (ho.2 _ (Array.getElem?_eq_some_iff.1 h2).1 h.n2.1 h.n2.2).trans h2⟩, ⟨v3, (ho.2 _ (Array.getElem?_eq_some_iff.1 h3).1 h.n3.1 h.n3.2).trans h3⟩, h.n1, h.n2, h.n3⟩
structure Mth (σ0 σ : H) (p q : Nat) (st : MS) : Prop where
 hp : Pth σ0 σ p st.L st.s
 hq : Pth σ0 σ q st.F st.t
 pq : p ≠ q
 nL : st.L.length ≤ 1000
 nF : st.F.length ≤ 1000
theorem Mth.Old {σ0 σ τ : H} {p q : Nat} {st : MS} (h : Mth σ0 σ p q st) (ho : Old σ τ) : Mth σ0 τ p q st := ⟨h.hp.Old ho, h.hq.Old ho, h.pq, h.nL, h.nF⟩
theorem Mth.set {σ0 σ : H} {p q b : Nat} {k : Blk} {st : MS} (h : Mth σ0 σ p q st) (hb : σ0.size ≤ b) (h1 : b ≠ p) (h2 : b ≠ q) : Mth σ0 (σ.setIfInBounds b k) p q st := ⟨h.hp.set hb h1, h.hq.set hb h2, h.pq, h.nL, h.nF⟩
theorem Mth.dL {σ0 σ : H} {p q : Nat} {st : MS} (h : Mth σ0 σ p q st) : ∀ d ∈ st.L, d.length = 16 := by obtain ⟨_, _, _, h9⟩ := h.hp.b; exact h9.d
theorem Mth.dF {σ0 σ : H} {p q : Nat} {st : MS} (h : Mth σ0 σ p q st) : ∀ d ∈ st.F, d.length = 16 := by obtain ⟨_, _, _, h9⟩ := h.hq.b; exact h9.d
theorem clm1_app {σ0 : H} {pb qb cb p q : Nat} (hG : HGlob σ0) : ∀ (N : Nat) (σ : H) (fr n : Nat) (u : Value) (Q : List Int) (st : MS), n ≤ N → 0 < n → fr + n ≤ 1099511627776 → Q.length < 100000 → Asc Q → Ps σ0 u Q →
  Mth σ0 σ p q st → By σ pb qb cb p q (.func (.func 48) #[] #[.pointer (some ⟨pb, 0, none⟩), .pointer (some ⟨qb, 0, none⟩), .pointer (some ⟨cb, 0, none⟩)]) →
  App Tryd.prog (.func 48) #[.pointer (some ⟨pb, 0, none⟩), .pointer (some ⟨qb, 0, none⟩), .pointer (some ⟨cb, 0, none⟩)] #[.int .i64 (fr : Int), .int .i64 (n : Int), u] σ fun w σ' =>
   w = .agg (digC (cmF fr n Q st).1).toArray ∧ Mth σ0 σ' p q (cmF fr n Q st).2 ∧ OldB2 p q σ σ' ∧ (cmF fr n Q st).1.length = 16 := by
 intro N
 induction N with
 |zero => intro σ fr n u Q st h1 h2; omega
 |succ N ih =>
  intro σ fr n u Q st hN hpos hmx hQ hA hU hM hB
  refine App.of_sem mixed Tryd.func48 t48 k48 r48 (Nat.le_of_ble_eq_true rfl) ?_
  obtain ⟨ua, uc, rfl⟩ := hU.slice
  rw [← ap_nil (σ := σ)]
  unfold s48
  obtain ⟨vp, bp⟩ := hB.hp
  obtain ⟨vq, bq⟩ := hB.hq
  obtain ⟨vc, bc⟩ := hB.c
  have lpb := (Array.getElem?_eq_some_iff.1 bp).1
  have lqb := (Array.getElem?_eq_some_iff.1 bq).1
  have lcb := (Array.getElem?_eq_some_iff.1 bc).1
  have lp := hM.hp.lt
  have lq := hM.hq.lt
  have hσ := hM.hp.old.1
  obtain ⟨T, hT⟩ : ∃ T, T = ap σ [.cells 0 (List.replicate 16 (.int .u8 0)) (0, 0)] := ⟨_, rfl⟩
  have oT : Old σ T := by rw [hT]; exact .ap
  have sT : T.size = σ.size + 1 := by rw [hT]; simp [ap_size]
  have z0 : T[σ.size]? = some (.cells 0 (List.replicate 16 (.int .u8 0)) (0, 0)) := by rw [hT, ap_new0]; rfl
  have g3 : rd1 T ⟨pb, 0, none⟩ = some (.pointer (some ⟨p, 0, none⟩)) := rd1_of bp oT rfl
  have g4 : rd1 T ⟨qb, 0, none⟩ = some (.pointer (some ⟨q, 0, none⟩)) := rd1_of bq oT rfl
  have g5 : rd1 T ⟨cb, 0, none⟩ = _ := rd1_of bc oT (k := 0) rfl
  have hMT := hM.Old oT
  rw [hT] at g3 g4 g5
  by_cases h0 : Q.length = 0
  ·have e0 : decide ((Q.length : Int) = 0) = true := by rw [decide_eq_true]; omega
   have hR : cmF fr n Q st = (headD st.L, ⟨st.L.tail, st.s || st.L.isEmpty, st.F, st.t⟩) := by rw [cmF, if_pos (List.eq_nil_of_length_eq_zero h0)]
   rw [hR]
   simp only [↓eD, eZ, ↓reduceIte, Nat.reduceEqDiff, Nat.reduceAdd, Nat.reduceMul, reduceCtorEq, Nat.reduceLeDiff, Int.reduceLT, Int.reduceLE, Int.reduceToNat, Int.reduceEq, Nat.reduceLT, rep16, e0, g3, undef_eq]
   rw [← hT]
   clear hT
   refine appK_of (first_app hMT.hp hM.nL) ?_
   rintro _ τ ⟨rfl, hP2, hO2⟩
   have D16 := headD_len hM.dL
   generalize headD st.L = D at D16 ⊢
   obtain ⟨l1, l2, l3, l4⟩ := dig_len D16
   have t0 := (hO2.2 _ (by omega) (by omega)).trans z0
   obtain ⟨w1, r1⟩ := dig_put D16 t0
   simp only [↓eD, eZ, ↓reduceIte, Nat.reduceEqDiff, Nat.reduceAdd, Nat.reduceMul, reduceCtorEq, Nat.reduceLeDiff, Int.reduceLT, Int.reduceLE, Int.reduceToNat, Int.reduceEq, Nat.reduceLT, l1, w1, r1, undef_eq]
   rw [ap_nil]
   have hM2 : Mth σ0 τ p q ⟨st.L.tail, st.s || st.L.isEmpty, st.F, st.t⟩ := ⟨hP2, hMT.hq.oldB hO2 hM.hp.hq hM.pq, hM.pq, by simp; have := hM.nL; omega, hM.nF⟩
   exact ⟨hM2.set (by omega) (by omega) (by omega), ((oldB2_of oT).trans (oldB2_l hO2)).setNew (Nat.le_refl _), D16⟩
  have e0 : decide ((Q.length : Int) = 0) = false := by rw [decide_eq_false]; omega
  have hQn : Q ≠ [] := fun h => h0 (by rw [h]; rfl)
  by_cases h1 : n = 1
  ·have e1 : decide ((n : Int) = 1) = true := by rw [decide_eq_true]; omega
   have hR : cmF fr n Q st = (headD st.F, ⟨st.L, st.s, st.F.tail, st.t || st.F.isEmpty⟩) := by rw [cmF, if_neg hQn, dif_pos (by omega)]
   rw [hR]
   simp only [↓eD, eZ, ↓reduceIte, Nat.reduceEqDiff, Nat.reduceAdd, Nat.reduceMul, reduceCtorEq, Nat.reduceLeDiff, Int.reduceLT, Int.reduceLE, Int.reduceToNat, Int.reduceEq, Nat.reduceLT, rep16, e0, e1, g4, undef_eq]
   rw [← hT]
   clear hT
   refine appK_of (first_app hMT.hq hM.nF) ?_
   rintro _ τ ⟨rfl, hP2, hO2⟩
   have D16 := headD_len hM.dF
   generalize headD st.F = D at D16 ⊢
   obtain ⟨l1, l2, l3, l4⟩ := dig_len D16
   have t0 := (hO2.2 _ (by omega) (by omega)).trans z0
   obtain ⟨w1, r1⟩ := dig_put D16 t0
   simp only [↓eD, eZ, ↓reduceIte, Nat.reduceEqDiff, Nat.reduceAdd, Nat.reduceMul, reduceCtorEq, Nat.reduceLeDiff, Int.reduceLT, Int.reduceLE, Int.reduceToNat, Int.reduceEq, Nat.reduceLT, l1, w1, r1, undef_eq]
   rw [ap_nil]
   have hM2 : Mth σ0 τ p q ⟨st.L, st.s, st.F.tail, st.t || st.F.isEmpty⟩ := ⟨hMT.hp.oldB hO2 hM.hq.hq (Ne.symm hM.pq), hP2, hM.pq, hM.nL, by simp; have := hM.nF; omega⟩
   exact ⟨hM2.set (by omega) (by omega) (by omega), ((oldB2_of oT).trans (oldB2_r hO2)).setNew (Nat.le_refl _), D16⟩
  have e1 : decide ((n : Int) = 1) = false := by rw [decide_eq_false]; omega
  have hs := splitN_spec (n := n) (by omega)
  simp only [↓eD, eZ, ↓reduceIte, Nat.reduceEqDiff, Nat.reduceAdd, Nat.reduceMul, reduceCtorEq, Nat.reduceLeDiff, Int.reduceLT, Int.reduceLE, Int.reduceToNat, Int.reduceEq, Nat.reduceLT, rep16, e0, e1, undef_eq]
  rw [← hT] at g5 ⊢
  clear hT
  refine appK_at (lsplit_app (by omega) (by omega)) ?_
  obtain ⟨k, hk⟩ : ∃ k, k = splitN n := ⟨_, rfl⟩
  rw [← hk] at hs ⊢
  have hR : cmF fr n Q st = (nodeF (cmF fr k (Q.take (cutK Q ((fr + k : Nat) : Int))) st).1 (cmF ((fr + k : Nat) : Int) (n - k) (Q.drop (cutK Q ((fr + k : Nat) : Int))) (cmF fr k (Q.take (cutK Q ((fr + k : Nat) : Int))) st).2).1,
    (cmF ((fr + k : Nat) : Int) (n - k) (Q.drop (cutK Q ((fr + k : Nat) : Int))) (cmF fr k (Q.take (cutK Q ((fr + k : Nat) : Int))) st).2).2) := by
   rw [cmF, if_neg hQn, dif_neg (by omega), ← hk, Int.natCast_add]
  rw [hR]
  have wf : IntKind.wrap .i64 ((fr : Int) + (k : Int)) = ((fr + k : Nat) : Int) := by rw [wrap64' (by omega) (by omega)]; omega
  have wn : IntKind.wrap .i64 ((n : Int) - (k : Int)) = ((n - k : Nat) : Int) := by rw [wrap64' (by omega) (by omega)]; omega
  simp only [↓eD, eZ, ↓reduceIte, Nat.reduceEqDiff, Nat.reduceAdd, Nat.reduceMul, reduceCtorEq, Nat.reduceLeDiff, Int.reduceLT, Int.reduceLE, Int.reduceToNat, Int.reduceEq, Nat.reduceLT, wf, undef_eq]
  refine appK_of (cut_app (hU.Old hMT.hp.old) (by omega) hA) ?_
  rintro _ _ ⟨rfl, u1, u2, rfl, hcut⟩
  obtain ⟨U1, U2⟩ := hcut _ hU
  generalize cutK Q ((fr + k : Nat) : Int) = x at U1 U2 ⊢
  have hq1 : (Q.take x).length < 100000 := by rw [List.length_take]; omega
  have hq2 : (Q.drop x).length < 100000 := by rw [List.length_drop]; omega
  have hBT := hB.keep (oldB2_of oT)
  simp only [↓eD, eZ, ↓reduceIte, Nat.reduceEqDiff, Nat.reduceAdd, Nat.reduceMul, reduceCtorEq, Nat.reduceLeDiff, Int.reduceLT, Int.reduceLE, Int.reduceToNat, Int.reduceEq, Nat.reduceLT, g5, undef_eq]
  refine appK_of (ih _ fr k u1 (Q.take x) st (by omega) (by omega) (by omega) hq1 hA.take U1 hMT hBT) ?_
  rintro _ τ ⟨rfl, hM2, hO2, A16⟩
  generalize cmF fr k (Q.take x) st = r at hM2 A16 ⊢
  have sτ := hO2.1
  have lp2 := hM2.hp.lt
  have lq2 := hM2.hq.lt
  obtain ⟨a1, a2, a3, a4⟩ := dig_len A16
  have hB2 := hBT.keep hO2
  obtain ⟨vc2, bc2⟩ := hB2.c
  have g6 : ∀ M, rd1 (ap τ M) ⟨cb, 0, none⟩ = some (.func (.func 48) #[] #[.pointer (some ⟨pb, 0, none⟩), .pointer (some ⟨qb, 0, none⟩), .pointer (some ⟨cb, 0, none⟩)]) := fun M => rd1_of bc2 .ap (k := 0) rfl
  rw [← ap_nil (σ := τ)]
  simp only [↓eD, eZ, ↓reduceIte, Nat.reduceEqDiff, Nat.reduceAdd, Nat.reduceMul, reduceCtorEq, Nat.reduceLeDiff, Int.reduceLT, Int.reduceLE, Int.reduceToNat, Int.reduceEq, Nat.reduceLT, rep16, a1, a2, a3, a4, g6, wf, wn, digC_one, undef_eq]
  obtain ⟨X, hX⟩ : ∃ X, X = ap τ [.cells 1 (digC r.1) (0, 0)] := ⟨_, rfl⟩
  rw [← hX]
  have oX : Old τ X := by rw [hX]; exact .ap
  have sX : X.size = τ.size + 1 := by rw [hX]; simp [ap_size]
  have x1 : X[τ.size]? = some (.cells 1 (digC r.1) (0, 0)) := by rw [hX]; exact ap_new0
  clear hX
  have hMX := hM2.Old oX
  have hBX := hB2.keep (oldB2_of oX)
  refine appK_of (ih X (fr + k) (n - k) u2 (Q.drop x) r.2 (by omega) (by omega) (by omega) hq2 hA.drop U2 hMX hBX) ?_
  rintro _ υ ⟨rfl, hM3, hO3, B16⟩
  generalize cmF ((fr + k : Nat) : Int) (n - k) (Q.drop x) r.2 = r' at hM3 B16 ⊢
  have sυ := hO3.1
  have v13 := rdN_all (n := 16) ((hO3.2 _ (by omega) (by omega) (by omega)).trans x1) a1
  have v0 := (hO3.2 σ.size (by omega) (by omega) (by omega)).trans ((oX.2 _ (by omega)).trans ((hO2.2 _ (by omega) (by omega) (by omega)).trans z0))
  simp only [↓eD, eZ, ↓reduceIte, Nat.reduceEqDiff, Nat.reduceAdd, Nat.reduceMul, reduceCtorEq, Nat.reduceLeDiff, Int.reduceLT, Int.reduceLE, Int.reduceToNat, Int.reduceEq, Nat.reduceLT, v13, undef_eq]
  refine appK_at (lnode_app A16 B16 (hG.Old hM3.hp.old)) ?_
  have N16 : (nodeF r.1 r'.1).length = 16 := nodeF_len
  generalize nodeF r.1 r'.1 = E at N16 ⊢
  obtain ⟨m1, m2, m3, m4⟩ := dig_len N16
  obtain ⟨w1, r1⟩ := dig_put N16 v0
  simp only [↓eD, eZ, ↓reduceIte, Nat.reduceEqDiff, Nat.reduceAdd, Nat.reduceMul, reduceCtorEq, Nat.reduceLeDiff, Int.reduceLT, Int.reduceLE, Int.reduceToNat, Int.reduceEq, Nat.reduceLT, m1, w1, r1, undef_eq]
  rw [ap_nil]
  exact ⟨hM3.set (by omega) (by omega) (by omega), ((((oldB2_of oT).trans hO2).trans (oldB2_of oX)).trans hO3).setNew (Nat.le_refl _), N16⟩
def chkM (n : Int) (Q : List Int) (F L : List (List Int)) (root : List Int) : Bool :=
 if n < 0 ∨ 1099511627776 < n ∨ ascF n (-1) Q = false ∨ F.length ≠ Q.length then false
 else if n = 0 then decide (root = emptyF) && L.isEmpty
 else decide ((cmF 0 n.toNat Q ⟨L, false, F, false⟩).1 = root) && !(cmF 0 n.toNat Q ⟨L, false, F, false⟩).2.s && (cmF 0 n.toNat Q ⟨L, false, F, false⟩).2.L.isEmpty
theorem chkm_app {σ : H} {v u f : Value} {root : List Int} {Q : List Int} {F L : List (List Int)} {n : Int} (hr : root.length = 16) (hU : Ps σ u Q) (hF : Ls σ f F) (hL : Ls σ v L) (hQ : Q.length < 100000) (hn : L.length ≤ 1000) (hn' : F.length ≤ 1000) (hG : HGlob σ) :
  App Tryd.prog (.func 23) #[] #[.int .i64 n, u, f, v, .agg (digC root).toArray] σ fun w σ' => σ' = σ ∧ w = .bool (chkM n Q F L root) := by
 refine App.forget (App.of_semD mixed Tryd.func23 t23 k23 r23 (Nat.le_of_ble_eq_true rfl) ?_)
 obtain ⟨a, c, rfl⟩ := hL.slice
 obtain ⟨ua, uc, rfl⟩ := hU.slice
 obtain ⟨fa, fc, rfl⟩ := hF.slice
 obtain ⟨p1, p2, p3, p4⟩ := dig_len hr
 rw [← ap_nil (σ := σ)]
 unfold s23 chkM
 by_cases g1 : n < 0
 ·have d1 : decide (n < 0) = true := decide_eq_true g1
  rw [if_pos (.inl g1)]
  simp only [semD, ↓eD, eZ, ↓reduceIte, Nat.reduceEqDiff, Nat.reduceAdd, Nat.reduceMul, reduceCtorEq, Nat.reduceLeDiff, Int.reduceLT, Int.reduceLE, Int.reduceToNat, Int.reduceEq, Nat.reduceLT, p1, p2, d1, undef_eq]
  first | exact ⟨.ap, rfl, rfl⟩ | exact ⟨.ap, rfl⟩
 have d1 : decide (n < 0) = false := decide_eq_false g1
 by_cases g2 : 1099511627776 < n
 ·have d2 : decide (1099511627776 < n) = true := decide_eq_true g2
  rw [if_pos (.inr (.inl g2))]
  simp only [semD, ↓eD, eZ, ↓reduceIte, Nat.reduceEqDiff, Nat.reduceAdd, Nat.reduceMul, reduceCtorEq, Nat.reduceLeDiff, Int.reduceLT, Int.reduceLE, Int.reduceToNat, Int.reduceEq, Nat.reduceLT, p1, p2, d1, d2, undef_eq]
  first | exact ⟨.ap, rfl, rfl⟩ | exact ⟨.ap, rfl⟩
 have d2 : decide (1099511627776 < n) = false := decide_eq_false g2
 simp only [semD, ↓eD, eZ, ↓reduceIte, Nat.reduceEqDiff, Nat.reduceAdd, Nat.reduceMul, reduceCtorEq, Nat.reduceLeDiff, Int.reduceLT, Int.reduceLE, Int.reduceToNat, Int.reduceEq, Nat.reduceLT, p1, p2, d1, d2, undef_eq]
 refine appK_at (asc_app (hU.Old .ap) (by omega)) ?_
 cases g3 : ascF n (-1) Q with
 |false =>
  rw [if_pos (.inr (.inr (.inl rfl)))]
  simp only [semD, ↓eD, eZ, ↓reduceIte, Nat.reduceEqDiff, Nat.reduceAdd, Nat.reduceMul, reduceCtorEq, Nat.reduceLeDiff, Int.reduceLT, Int.reduceLE, Int.reduceToNat, Int.reduceEq, Nat.reduceLT, Bool.not_false, undef_eq]
  first | exact ⟨.ap, rfl, rfl⟩ | exact ⟨.ap, rfl⟩
 |true =>
 by_cases g4 : F.length = Q.length
 case neg =>
  have d4 : decide ((F.length : Int) = (Q.length : Int)) = false := by rw [decide_eq_false]; omega
  rw [if_pos (.inr (.inr (.inr g4)))]
  simp only [semD, ↓eD, eZ, ↓reduceIte, Nat.reduceEqDiff, Nat.reduceAdd, Nat.reduceMul, reduceCtorEq, Nat.reduceLeDiff, Int.reduceLT, Int.reduceLE, Int.reduceToNat, Int.reduceEq, Nat.reduceLT, d4, Bool.not_true, Bool.not_false, undef_eq]
  first | exact ⟨.ap, rfl, rfl⟩ | exact ⟨.ap, rfl⟩
 have d4 : decide ((F.length : Int) = (Q.length : Int)) = true := by rw [decide_eq_true]; omega
 rw [if_neg (fun h => h.elim g1 fun h => h.elim g2 fun h => h.elim (fun h => by cases h) fun h => h g4)]
 obtain ⟨m, rfl⟩ : ∃ m : Nat, n = (m : Int) := ⟨n.toNat, by omega⟩
 rw [Int.toNat_natCast]
 by_cases g5 : (m : Int) = 0
 ·have d5 : decide ((m : Int) = 0) = true := decide_eq_true g5
  rw [if_pos g5]
  simp only [semD, ↓eD, eZ, ↓reduceIte, Nat.reduceEqDiff, Nat.reduceAdd, Nat.reduceMul, reduceCtorEq, Nat.reduceLeDiff, Int.reduceLT, Int.reduceLE, Int.reduceToNat, Int.reduceEq, Nat.reduceLT, p1, p2, d4, d5, Bool.not_true, undef_eq]
  refine ⟨_, rfl, ?_⟩
  obtain ⟨T, hT⟩ : ∃ T, T = ap σ [.cells 0 (digC root) (0, 0), .cells 0 [.bool false] (0, 0), .cells 0 [.slice a L.length c, .bool false] (0, 0), .cells 0 [.slice fa F.length fc, .bool false] (0, 0), .cells 1 [.pointer (some ⟨σ.size + 2, 0, none⟩)] (0, 0), .cells 1 [.pointer (some ⟨σ.size + 3, 0, none⟩)] (0, 0)] := ⟨_, rfl⟩
  rw [← hT]
  have oT : Old σ T := by rw [hT]; exact .ap
  have sT : T.size = σ.size + 6 := by rw [hT]; simp [ap_size]
  have t0 : T[σ.size]? = some (.cells 0 (digC root) (0, 0)) := by rw [hT, ap_new0]; rfl
  have t1 : T[σ.size + 1]? = some (.cells 0 [.bool false] (0, 0)) := by rw [hT, ap_new]; rfl
  have t2 : T[σ.size + 2]? = some (.cells 0 [.slice a L.length c, .bool false] (0, 0)) := by rw [hT, ap_new]; rfl
  clear hT
  have hP : Pth σ T (σ.size + 2) L false := ⟨oT, by omega, 0, _, t2, hL⟩
  refine appK_at (lempty_app (hG.Old oT)) ?_
  have ae := aggEq_dig (a := root) (b := emptyF) hr emptyF_len
  have g0' := rdN_all (n := 16) t0 p1
  have kw : ∀ x : Bool, wrN T ⟨σ.size + 1, 0, none⟩ [.bool x] = some (T.setIfInBounds (σ.size + 1) (.cells (0 + 1) [.bool x] (0, 0))) := fun x => by
   rw [wrN_eq, if_neg (by simp), t1, wrc_cells, if_pos ⟨by simp, rfl⟩]
   rfl
  simp only [↓eD, eZ, ↓reduceIte, Nat.reduceEqDiff, Nat.reduceAdd, Nat.reduceMul, reduceCtorEq, Nat.reduceLeDiff, Int.reduceLT, Int.reduceLE, Int.reduceToNat, Int.reduceEq, Nat.reduceLT, g0', ae, kw, undef_eq]
  have hP3 := hP.set (b := σ.size + 1) (k := .cells (0 + 1) [.bool (decide (root = emptyF))] (0, 0)) (by omega) (by omega)
  refine fin_app hP3 (get_set t1) (by omega) (by omega) fun σ' o' hr' => ?_
  rw [Bool.not_false, Bool.and_true] at hr'
  simp only [↓eD, eZ, ↓reduceIte, Nat.reduceEqDiff, Nat.reduceAdd, Nat.reduceMul, reduceCtorEq, Nat.reduceLeDiff, Int.reduceLT, Int.reduceLE, Int.reduceToNat, Int.reduceEq, Nat.reduceLT, hr', undef_eq]
  rw [ap_nil]
  first | exact ⟨o', rfl, rfl⟩ | exact ⟨o', rfl⟩
 have d5 : decide ((m : Int) = 0) = false := decide_eq_false g5
 rw [if_neg g5]
 simp only [semD, ↓eD, eZ, ↓reduceIte, Nat.reduceEqDiff, Nat.reduceAdd, Nat.reduceMul, reduceCtorEq, Nat.reduceLeDiff, Int.reduceLT, Int.reduceLE, Int.reduceToNat, Int.reduceEq, Nat.reduceLT, p1, p2, d4, d5, Bool.not_true, undef_eq]
 refine ⟨_, rfl, ?_⟩
 obtain ⟨T, hT⟩ : ∃ T, T = ap σ [.cells 0 (digC root) (0, 0), .cells 0 [.bool false] (0, 0), .cells 0 [.slice a L.length c, .bool false] (0, 0), .cells 0 [.slice fa F.length fc, .bool false] (0, 0), .cells 1 [.pointer (some ⟨σ.size + 2, 0, none⟩)] (0, 0), .cells 1 [.pointer (some ⟨σ.size + 3, 0, none⟩)] (0, 0), .cells 1 [.func (.func 48) #[] #[.pointer (some ⟨σ.size + 4, 0, none⟩), .pointer (some ⟨σ.size + 5, 0, none⟩), .pointer (some ⟨σ.size + 6, 0, none⟩)]] (0, 0)] := ⟨_, rfl⟩
 rw [← hT]
 have oT : Old σ T := by rw [hT]; exact .ap
 have sT : T.size = σ.size + 7 := by rw [hT]; simp [ap_size]
 have t0 : T[σ.size]? = some (.cells 0 (digC root) (0, 0)) := by rw [hT, ap_new0]; rfl
 have t1 : T[σ.size + 1]? = some (.cells 0 [.bool false] (0, 0)) := by rw [hT, ap_new]; rfl
 have t2 : T[σ.size + 2]? = some (.cells 0 [.slice a L.length c, .bool false] (0, 0)) := by rw [hT, ap_new]; rfl
 have t3 : T[σ.size + 3]? = some (.cells 0 [.slice fa F.length fc, .bool false] (0, 0)) := by rw [hT, ap_new]; rfl
 have t4 : T[σ.size + 4]? = some (.cells 1 [.pointer (some ⟨σ.size + 2, 0, none⟩)] (0, 0)) := by rw [hT, ap_new]; rfl
 have t5 : T[σ.size + 5]? = some (.cells 1 [.pointer (some ⟨σ.size + 3, 0, none⟩)] (0, 0)) := by rw [hT, ap_new]; rfl
 have t6 : T[σ.size + 6]? = some (.cells 1 [.func (.func 48) #[] #[.pointer (some ⟨σ.size + 4, 0, none⟩), .pointer (some ⟨σ.size + 5, 0, none⟩), .pointer (some ⟨σ.size + 6, 0, none⟩)]] (0, 0)) := by rw [hT, ap_new]; rfl
 clear hT
 have hP : Pth σ T (σ.size + 2) L false := ⟨oT, by omega, 0, _, t2, hL⟩
 have hP' : Pth σ T (σ.size + 3) F false := ⟨oT, by omega, 0, _, t3, hF⟩
 have hM : Mth σ T (σ.size + 2) (σ.size + 3) ⟨L, false, F, false⟩ := ⟨hP, hP', by omega, hn, hn'⟩
 have hB : By T (σ.size + 4) (σ.size + 5) (σ.size + 6) (σ.size + 2) (σ.size + 3) _ := ⟨⟨1, t4⟩, ⟨1, t5⟩, ⟨1, t6⟩, by omega, by omega, by omega⟩
 refine appK_of (clm1_app hG m T 0 m _ Q ⟨L, false, F, false⟩ (Nat.le_refl _) (by omega) (by omega) hQ (asc_of g3).1 hU hM hB) ?_
 rintro _ τ ⟨rfl, hM2, hO, C16⟩
 rw [show ((0 : Nat) : Int) = 0 from rfl] at C16 hM2 ⊢
 generalize cmF 0 m Q ⟨L, false, F, false⟩ = r at C16 hM2 ⊢
 have u0 := (hO.2 σ.size (by omega) (by omega) (by omega)).trans t0
 have u1 := (hO.2 (σ.size + 1) (by omega) (by omega) (by omega)).trans t1
 have sτ := hO.1
 have g1' := rdN_all (n := 16) u0 p1
 have ae := aggEq_dig (a := r.1) (b := root) C16 hr
 have kw : ∀ x : Bool, wrN τ ⟨σ.size + 1, 0, none⟩ [.bool x] = some (τ.setIfInBounds (σ.size + 1) (.cells (0 + 1) [.bool x] (0, 0))) := fun x => by
  rw [wrN_eq, if_neg (by simp), u1, wrc_cells, if_pos ⟨by simp, rfl⟩]
  rfl
 simp only [↓eD, eZ, ↓reduceIte, Nat.reduceEqDiff, Nat.reduceAdd, Nat.reduceMul, reduceCtorEq, Nat.reduceLeDiff, Int.reduceLT, Int.reduceLE, Int.reduceToNat, Int.reduceEq, Nat.reduceLT, g1', ae, kw, undef_eq]
 have hP3 := hM2.hp.set (b := σ.size + 1) (k := .cells (0 + 1) [.bool (decide (r.1 = root))] (0, 0)) (by omega) (by omega)
 refine fin_app hP3 (get_set u1) (by omega) (by omega) fun σ' o' hr' => ?_
 simp only [↓eD, eZ, ↓reduceIte, Nat.reduceEqDiff, Nat.reduceAdd, Nat.reduceMul, reduceCtorEq, Nat.reduceLeDiff, Int.reduceLT, Int.reduceLE, Int.reduceToNat, Int.reduceEq, Nat.reduceLT, hr', undef_eq]
 rw [ap_nil]
 first | exact ⟨o', rfl, rfl⟩ | exact ⟨o', rfl⟩
theorem same_app {σ : H} {v u : Value} {A B : List (List Int)} (hA : Ls σ v A) (hB : Ls σ u B) (hn : A.length < 1000000) :
  App Tryd.prog (.func 17) #[] #[v, u] σ fun w σ' => σ' = σ ∧ w = .bool (decide (A = B)) := by
 refine App.of_sem mixed Tryd.func17 t17 k17 r17 (Nat.le_of_ble_eq_true rfl) ?_
 obtain ⟨a, c, rfl⟩ := hA.slice
 obtain ⟨a', c', rfl⟩ := hB.slice
 unfold s17
 by_cases h0 : A.length = B.length
 case neg =>
  have d0 : decide ((A.length : Int) = (B.length : Int)) = false := by rw [decide_eq_false]; omega
  rw [decide_eq_false (fun h => h0 (by rw [h]))]
  simp only [↓eD, eZ, ↓reduceIte, Nat.reduceEqDiff, Nat.reduceAdd, Nat.reduceMul, reduceCtorEq, Nat.reduceLeDiff, Int.reduceLT, Int.reduceLE, Int.reduceToNat, Int.reduceEq, Nat.reduceLT, d0, Bool.not_false, undef_eq]
 have d0 : decide ((A.length : Int) = (B.length : Int)) = true := by rw [decide_eq_true]; omega
 simp only [↓eD, eZ, ↓reduceIte, Nat.reduceEqDiff, Nat.reduceAdd, Nat.reduceMul, reduceCtorEq, Nat.reduceLeDiff, Int.reduceLT, Int.reduceLE, Int.reduceToNat, Int.reduceEq, Nat.reduceLT, d0, Bool.not_true, undef_eq]
 refine loop_for (J := fun i e τ => τ = σ ∧ i ≤ A.length ∧ e = [(0, .slice a A.length c), (1, .slice a' B.length c'), (5, .int .i64 (i : Int))] ∧ A.take i = B.take i) A.length ⟨rfl, by omega, rfl, by simp⟩ ?_
 rintro i e _ hi ⟨rfl, _, rfl, hEq⟩
 by_cases hlt : i < A.length
 ·have hlt' : i < B.length := by omega
  have dl : decide ((i : Int) < (A.length : Int)) = true := by rw [decide_eq_true]; omega
  have hbd : (0:Int) ≤ (i:Int) ∧ (i:Int) < (A.length : Int) := by omega
  have hbd' : (0:Int) ≤ (i:Int) ∧ (i:Int) < (B.length : Int) := by omega
  have hw : IntKind.wrap .i64 ((i:Int) + 1) = ((i + 1 : Nat) : Int) := by rw [wrap64' (by omega) (by omega)]; omega
  obtain ⟨b, o, rfl, hr⟩ := hA.at hlt
  obtain ⟨b', o', rfl, hr'⟩ := hB.at hlt'
  have ae := aggEq_dig (a := A[i]) (b := B[i]) (hA.d _ (List.getElem_mem _)) (hB.d _ (List.getElem_mem _))
  by_cases he : A[i] = B[i]
  ·have de : decide (A[i] = B[i]) = true := decide_eq_true he
   simp only [↓eD, eZ, ↓reduceIte, Nat.reduceEqDiff, Nat.reduceAdd, Nat.reduceMul, reduceCtorEq, Nat.reduceLeDiff, Int.reduceLT, Int.reduceLE, Int.reduceToNat, Int.reduceEq, Nat.reduceLT, dl, hbd, hbd', Int.toNat_natCast, hr, hr', ae, de, hw, Bool.not_true, undef_eq]
   refine ⟨hlt, by omega, ?_⟩
   rw [List.take_succ_eq_append_getElem hlt, List.take_succ_eq_append_getElem hlt', hEq, he]
  ·have de : decide (A[i] = B[i]) = false := decide_eq_false he
   rw [decide_eq_false (fun h => he (by subst h; rfl))]
   simp only [↓eD, eZ, ↓reduceIte, Nat.reduceEqDiff, Nat.reduceAdd, Nat.reduceMul, reduceCtorEq, Nat.reduceLeDiff, Int.reduceLT, Int.reduceLE, Int.reduceToNat, Int.reduceEq, Nat.reduceLT, dl, hbd, hbd', Int.toNat_natCast, hr, hr', ae, de, Bool.not_false, undef_eq]
 ·have dl : decide ((i : Int) < (A.length : Int)) = false := by rw [decide_eq_false]; omega
  have : i = A.length := by omega
  subst this
  rw [List.take_length, h0, List.take_length] at hEq
  rw [decide_eq_true hEq]
  simp only [↓eD, eZ, ↓reduceIte, Nat.reduceEqDiff, Nat.reduceAdd, Nat.reduceMul, reduceCtorEq, Nat.reduceLeDiff, Int.reduceLT, Int.reduceLE, Int.reduceToNat, Int.reduceEq, Nat.reduceLT, dl, undef_eq]
end Go.Proofs.YtjgbbhfihcmphaaDoor
