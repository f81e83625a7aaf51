/- Walks of the functions that the claim reaches. Conditions: none. -/
import Derived.Test.YtjgbbhfihcmphaaDoorNa
set_option linter.all false
set_option maxRecDepth 10000
set_option maxHeartbeats 4000000
namespace Go.Proofs.YtjgbbhfihcmphaaDoor
open Go Go.Cn Go.RowKit
attribute [local irreducible] evL sem onG onI onV
structure Ls (σ : H) (v : Value) (L : List (List Int)) : Prop where
 r : Row σ 16 v (L.map digC)
 c : CapOk 16 v
 d : ∀ d ∈ L, d.length = 16
theorem Ls.Old {σ τ : H} {v : Value} {L : List (List Int)} (h : Ls σ v L) (ho : Old σ τ) : Ls τ v L := ⟨h.r.Old ho, h.c, h.d⟩
theorem Ls.slice {σ : H} {v : Value} {L : List (List Int)} (h : Ls σ v L) : ∃ a c, v = .slice a L.length c := by
 obtain ⟨b, cap, h1, _⟩ := h.r
 exact ⟨b, cap, by rw [h1, List.length_map]⟩
theorem Ls.at {σ : H} {a : Option Addr} {n c : Nat} {L : List (List Int)} (h : Ls σ (.slice a n c) L) {i : Nat} (hi : i < L.length) : ∃ b o, a = some ⟨b, o, none⟩ ∧ rdN σ ⟨b, o + i * 16, none⟩ 16 = some (digC L[i]) :=
 h.r.at (by simp [hi])
theorem bnd_nat {k d y : Nat} (h : k ≤ y) : bnd (some (.int .i64 (k : Int))) d y = some k := by simp only [bnd, asI]; rw [if_pos (by omega)]; simp
theorem Ls.sub {σ : H} {v : Value} {L : List (List Int)} {lo hi : Nat} {xl xh xm : Option Value} (h : Ls σ v L) (h1 : lo ≤ hi) (h2 : hi ≤ L.length) (hb : hi < big)
  (hl : xl = some (.int .i64 (lo : Int)) ∨ (xl = none ∧ lo = 0)) (hh : xh = some (.int .i64 (hi : Int)) ∨ (xh = none ∧ hi = L.length ∧ xm = none)) (hm : xm = none ∨ xm = some (.int .i64 (hi : Int))) :
  ∃ v', sliceV 16 v xl xh xm = some v' ∧ Ls σ v' ((L.take hi).drop lo) ∧ ∀ q, baseOf v' = some q → baseOf v = some q := by
 obtain ⟨a, c, rfl⟩ := h.slice
 obtain ⟨hc1, hc2⟩ := h.c.slice
 obtain ⟨m, hm1, hm2, hm3⟩ : ∃ m, bnd xm c (capLow c) = some m ∧ hi ≤ capLow m ∧ (csz m = 0 ∨ csz m = 16) := by
  rcases hm with rfl | rfl
  ·exact ⟨c, rfl, by omega, hc2⟩
  ·exact ⟨hi, bnd_nat (by omega), by rw [capLow_small hb]; exact Nat.le_refl _, .inl (csz_small hb)⟩
 have e2 : bnd xh L.length (capLow m) = some hi := by
  rcases hh with rfl | ⟨rfl, rfl, rfl⟩
  ·exact bnd_nat hm2
  ·rfl
 have e3 : bnd xl 0 hi = some lo := by
  rcases hl with rfl | ⟨rfl, rfl⟩
  ·exact bnd_nat h1
  ·rfl
 have eb : bnds L.length c xl xh xm = some (lo, hi, m) := by
  unfold bnds
  have : ¬(∃ y, xm = some y ∧ xh = none) := by
   rintro ⟨y, hy, hz⟩
   rcases hh with rfl | ⟨_, _, h9⟩
   ·cases hz
   ·rw [h9] at hy; cases hy
  split
  ·exact absurd ⟨_, rfl, rfl⟩ this
  ·simp only [hm1, e2, e3]
 obtain ⟨g1, g2⟩ := cap_sub (c := m) (l := lo) (by omega)
 have hll : ((L.take hi).drop lo).length = hi - lo := by rw [List.length_drop, List.length_take]; omega
 refine ⟨.slice (a.map fun a => ⟨a.block, a.off + lo * 16, none⟩) (hi - lo) (m - lo), ?_, ⟨?_, ⟨_, _, _, rfl, by omega, by rw [g2]; exact hm3⟩, fun d hd => h.d d (List.mem_of_mem_take (List.mem_of_mem_drop hd))⟩, fun q hq => ?_⟩
 ·unfold sliceV
  simp only
  rw [if_pos hc2, eb]
 ·refine ⟨a.map fun a => ⟨a.block, a.off + lo * 16, none⟩, m - lo, by rw [List.length_map, hll], fun i x hx => ?_⟩
  have hi' : i < hi - lo := by have := (List.getElem?_eq_some_iff.1 hx).1; rw [List.length_map, hll] at this; exact this
  have hx' : (L.map digC)[lo + i]? = some x := by
   rw [List.map_drop, List.map_take, List.getElem?_drop, List.getElem?_take, if_pos (by omega)] at hx
   exact hx
  obtain ⟨b, o, rfl, hr⟩ := h.r.at hx'
  refine ⟨b, o + lo * 16, rfl, ?_⟩
  rw [show o + lo * 16 + i * 16 = o + (lo + i) * 16 by omega]
  exact hr
 ·cases a with
  |none => cases hq
  |some p => exact hq
def rootF (L : List (List Int)) : List Int :=
 if h0 : L.length = 0 then emptyF
 else if h1 : L.length = 1 then L.getD 0 []
 else nodeF (rootF (L.take (splitN L.length))) (rootF (L.drop (splitN L.length)))
termination_by L.length
decreasing_by
 ·rw [List.length_take]; have := splitN_spec (n := L.length) (by omega); omega
 ·rw [List.length_drop]; have := splitN_spec (n := L.length) (by omega); omega
theorem rootF_len {L : List (List Int)} (hd : ∀ d ∈ L, d.length = 16) : (rootF L).length = 16 := by
 rw [rootF]
 split
 ·exact emptyF_len
 ·split
  ·rename_i h1
   match L, h1 with
   |[d], _ => exact hd d (by simp)
  ·exact nodeF_len
theorem lroot_app {σ : H} {v : Value} {L : List (List Int)} (h : Ls σ v L) (hn : L.length ≤ 1000000) (hG : HGlob σ) :
  App Tryd.prog (.func 15) #[] #[v] σ fun w σ' => σ' = σ ∧ w = .agg (digC (rootF L)).toArray := by
 suffices key : ∀ (N : Nat) (σ : H) (v : Value) (L : List (List Int)), L.length ≤ N → Ls σ v L → L.length ≤ 1000000 → HGlob σ → App Tryd.prog (.func 15) #[] #[v] σ fun w σ' => σ' = σ ∧ w = .agg (digC (rootF L)).toArray from key _ σ v L (Nat.le_refl _) h hn hG
 clear h hn hG
 intro N
 induction N with
 |zero => ?_
 |succ N ih => ?_
 all_goals
  intro σ v L hN h hn hG
  refine App.forget (App.of_sem mixed Tryd.func15 t15 k15 r15 (Nat.le_of_ble_eq_true rfl) ?_)
  obtain ⟨a, c, rfl⟩ := h.slice
  rw [← ap_nil (σ := σ)]
  unfold s15
  have fin : ∀ M : List Blk, Old σ (ap σ M) := fun M => .ap
  obtain ⟨T, hT⟩ : ∃ T, T = ap σ [.cells 0 (List.replicate 16 (.int .u8 0)) (0, 0)] := ⟨_, rfl⟩
  have oT : Old σ T := by rw [hT]; exact .ap
  have z0 : T[σ.size]? = some (.cells 0 (List.replicate 16 (.int .u8 0)) (0, 0)) := by rw [hT, ap_new0]; rfl
  by_cases h0 : L.length = 0
  ·have e0 : decide ((L.length : Int) = 0) = true := by rw [decide_eq_true]; omega
   simp only [↓eD, eZ, ↓reduceIte, Nat.reduceEqDiff, Nat.reduceAdd, Nat.reduceMul, reduceCtorEq, Nat.reduceLeDiff, Int.reduceLT, Int.reduceLE, Int.reduceToNat, Int.reduceEq, Nat.reduceLT, rep16, e0, undef_eq]
   rw [← hT]
   refine appK_at (lempty_app (hG.Old oT)) ?_
   have D16 := emptyF_len
   have hR : rootF L = emptyF := by rw [rootF, dif_pos h0]
   rw [hR]
   generalize emptyF = D at D16
   obtain ⟨w1, r1⟩ := dig_put D16 z0
   obtain ⟨l1, l2, l3, l4⟩ := dig_len D16
   simp only [↓eD, eZ, ↓reduceIte, Nat.reduceEqDiff, Nat.reduceAdd, Nat.reduceMul, reduceCtorEq, Nat.reduceLeDiff, Int.reduceLT, Int.reduceLE, Int.reduceToNat, Int.reduceEq, Nat.reduceLT, l1, w1, r1, undef_eq]
   first | exact ⟨oT.set (by omega), flat_dig, rfl⟩ | exact ⟨oT.set (by omega), flat_dig⟩
  have e0 : decide ((L.length : Int) = 0) = false := by rw [decide_eq_false]; omega
  by_cases h1 : L.length = 1
  ·have e1 : decide ((L.length : Int) = 1) = true := by rw [decide_eq_true]; omega
   have hbd : (0:Int) ≤ 0 ∧ (0:Int) < (L.length : Int) := by omega
   obtain ⟨b, o, rfl, hr⟩ := h.at (i := 0) (by omega)
   rw [Nat.zero_mul, Nat.add_zero] at hr
   have hr' : rdN T ⟨b, o, none⟩ 16 = some (digC L[0]) := rdN_Old oT hr
   have hR : rootF L = L[0] := by rw [rootF, dif_neg h0, dif_pos h1]; simp [h1]
   rw [hR]
   have D16 := h.d L[0] (List.getElem_mem _)
   generalize L[0] = D at D16 hr'
   obtain ⟨w1, r1⟩ := dig_put D16 z0
   obtain ⟨l1, l2, l3, l4⟩ := dig_len D16
   have tn0 : Int.toNat 0 = 0 := rfl
   rw [hT] at hr' w1 r1
   simp only [↓eD, eZ, ↓reduceIte, Nat.reduceEqDiff, Nat.reduceAdd, Nat.reduceMul, reduceCtorEq, Nat.reduceLeDiff, Int.reduceLT, Int.reduceLE, Int.reduceToNat, Int.reduceEq, Nat.reduceLT, rep16, e0, e1, hbd, tn0, hr', l1, w1, r1, undef_eq]
   rw [← hT]
   first | exact ⟨oT.set (by omega), flat_dig, rfl⟩ | exact ⟨oT.set (by omega), flat_dig⟩
  have e1 : decide ((L.length : Int) = 1) = false := by rw [decide_eq_false]; omega
  have hs := splitN_spec (n := L.length) (by omega)
  simp only [↓eD, eZ, ↓reduceIte, Nat.reduceEqDiff, Nat.reduceAdd, Nat.reduceMul, reduceCtorEq, Nat.reduceLeDiff, Int.reduceLT, Int.reduceLE, Int.reduceToNat, Int.reduceEq, Nat.reduceLT, rep16, e0, e1, undef_eq]
  rw [← hT]
  refine appK_at (lsplit_app (by omega) (by omega)) ?_
  obtain ⟨k, hk⟩ : ∃ k, k = splitN L.length := ⟨_, rfl⟩
  have hR : rootF L = nodeF (rootF (L.take k)) (rootF (L.drop k)) := by rw [rootF, dif_neg h0, dif_neg h1, hk]
  rw [hR]
  rw [← hk] at hs ⊢
  have hbig : L.length < big := Nat.lt_of_le_of_lt hn (by decide)
  obtain ⟨v1, s1, L1, _⟩ := (h.Old oT).sub (lo := 0) (hi := k) (xl := none) (xh := some (.int .i64 (k : Int))) (xm := some (.int .i64 (k : Int))) (by omega) (by omega) (by omega) (.inr ⟨rfl, rfl⟩) (.inl rfl) (.inr rfl)
  obtain ⟨v2, s2, L2, _⟩ := (h.Old oT).sub (lo := k) (hi := L.length) (xl := some (.int .i64 (k : Int))) (xh := some (.int .i64 (L.length : Int))) (xm := some (.int .i64 (L.length : Int))) (by omega) (by omega) (by omega) (.inl rfl) (.inl rfl) (.inr rfl)
  rw [List.drop_zero] at L1
  rw [List.take_length] at L2
  simp only [↓eD, eZ, ↓reduceIte, Nat.reduceEqDiff, Nat.reduceAdd, Nat.reduceMul, reduceCtorEq, Nat.reduceLeDiff, Int.reduceLT, Int.reduceLE, Int.reduceToNat, Int.reduceEq, Nat.reduceLT, s1, s2, undef_eq]
  first
  |(exfalso; omega)
  |skip
 have hl1 : (L.take k).length ≤ N := by rw [List.length_take]; omega
 have hl2 : (L.drop k).length ≤ N := by rw [List.length_drop]; omega
 refine appK_at (ih _ _ _ hl1 L1 (by rw [List.length_take]; omega) (hG.Old oT)) ?_
 simp only [↓eD, eZ, ↓reduceIte, Nat.reduceEqDiff, Nat.reduceAdd, Nat.reduceMul, reduceCtorEq, Nat.reduceLeDiff, Int.reduceLT, Int.reduceLE, Int.reduceToNat, Int.reduceEq, Nat.reduceLT, undef_eq]
 refine appK_at (ih _ _ _ hl2 L2 (by rw [List.length_drop]; omega) (hG.Old oT)) ?_
 simp only [↓eD, eZ, ↓reduceIte, Nat.reduceEqDiff, Nat.reduceAdd, Nat.reduceMul, reduceCtorEq, Nat.reduceLeDiff, Int.reduceLT, Int.reduceLE, Int.reduceToNat, Int.reduceEq, Nat.reduceLT, undef_eq]
 refine appK_at (lnode_app (rootF_len L1.d) (rootF_len L2.d) (hG.Old oT)) ?_
 have D16 : (nodeF (rootF (L.take k)) (rootF (L.drop k))).length = 16 := nodeF_len
 generalize nodeF (rootF (L.take k)) (rootF (L.drop k)) = D at D16
 obtain ⟨w1, r1⟩ := dig_put D16 z0
 obtain ⟨l1, l2, l3, l4⟩ := dig_len D16
 simp only [↓eD, eZ, ↓reduceIte, Nat.reduceEqDiff, Nat.reduceAdd, Nat.reduceMul, reduceCtorEq, Nat.reduceLeDiff, Int.reduceLT, Int.reduceLE, Int.reduceToNat, Int.reduceEq, Nat.reduceLT, l1, w1, r1, undef_eq]
 first | exact ⟨oT.set (by omega), flat_dig, rfl⟩ | exact ⟨oT.set (by omega), flat_dig⟩
theorem rroot_app {σ : H} {v : Value} {L : List (List Int)} (h : Ls σ v L) (hn : L.length ≤ 1000000) (hG : Glob σ) :
  App Tryd.prog (.func 16) #[] #[v] σ fun w σ' => σ' = σ ∧ w = .agg (digC (rootF L)).toArray := by
 suffices key : ∀ (N : Nat) (σ : H) (v : Value) (L : List (List Int)), L.length ≤ N → Ls σ v L → L.length ≤ 1000000 → Glob σ → App Tryd.prog (.func 16) #[] #[v] σ fun w σ' => σ' = σ ∧ w = .agg (digC (rootF L)).toArray from key _ σ v L (Nat.le_refl _) h hn hG
 clear h hn hG
 intro N
 induction N with
 |zero => ?_
 |succ N ih => ?_
 all_goals
  intro σ v L hN h hn hG
  refine App.forget (App.of_sem mixed Tryd.func16 t16 k16 r16 (Nat.le_of_ble_eq_true rfl) ?_)
  obtain ⟨a, c, rfl⟩ := h.slice
  rw [← ap_nil (σ := σ)]
  unfold s16
  have fin : ∀ M : List Blk, Old σ (ap σ M) := fun M => .ap
  obtain ⟨T, hT⟩ : ∃ T, T = ap σ [.cells 0 (List.replicate 16 (.int .u8 0)) (0, 0)] := ⟨_, rfl⟩
  have oT : Old σ T := by rw [hT]; exact .ap
  have z0 : T[σ.size]? = some (.cells 0 (List.replicate 16 (.int .u8 0)) (0, 0)) := by rw [hT, ap_new0]; rfl
  by_cases h0 : L.length = 0
  ·have e0 : decide ((L.length : Int) = 0) = true := by rw [decide_eq_true]; omega
   simp only [↓eD, eZ, ↓reduceIte, Nat.reduceEqDiff, Nat.reduceAdd, Nat.reduceMul, reduceCtorEq, Nat.reduceLeDiff, Int.reduceLT, Int.reduceLE, Int.reduceToNat, Int.reduceEq, Nat.reduceLT, rep16, e0, undef_eq]
   rw [← hT]
   refine appK_at (rempty_app (hG.Old oT)) ?_
   have D16 := emptyF_len
   have hR : rootF L = emptyF := by rw [rootF, dif_pos h0]
   rw [hR]
   generalize emptyF = D at D16
   obtain ⟨w1, r1⟩ := dig_put D16 z0
   obtain ⟨l1, l2, l3, l4⟩ := dig_len D16
   simp only [↓eD, eZ, ↓reduceIte, Nat.reduceEqDiff, Nat.reduceAdd, Nat.reduceMul, reduceCtorEq, Nat.reduceLeDiff, Int.reduceLT, Int.reduceLE, Int.reduceToNat, Int.reduceEq, Nat.reduceLT, l1, w1, r1, undef_eq]
   first | exact ⟨oT.set (by omega), flat_dig, rfl⟩ | exact ⟨oT.set (by omega), flat_dig⟩
  have e0 : decide ((L.length : Int) = 0) = false := by rw [decide_eq_false]; omega
  by_cases h1 : L.length = 1
  ·have e1 : decide ((L.length : Int) = 1) = true := by rw [decide_eq_true]; omega
   have hbd : (0:Int) ≤ 0 ∧ (0:Int) < (L.length : Int) := by omega
   obtain ⟨b, o, rfl, hr⟩ := h.at (i := 0) (by omega)
   rw [Nat.zero_mul, Nat.add_zero] at hr
   have hr' : rdN T ⟨b, o, none⟩ 16 = some (digC L[0]) := rdN_Old oT hr
   have hR : rootF L = L[0] := by rw [rootF, dif_neg h0, dif_pos h1]; simp [h1]
   rw [hR]
   have D16 := h.d L[0] (List.getElem_mem _)
   generalize L[0] = D at D16 hr'
   obtain ⟨w1, r1⟩ := dig_put D16 z0
   obtain ⟨l1, l2, l3, l4⟩ := dig_len D16
   have tn0 : Int.toNat 0 = 0 := rfl
   rw [hT] at hr' w1 r1
   simp only [↓eD, eZ, ↓reduceIte, Nat.reduceEqDiff, Nat.reduceAdd, Nat.reduceMul, reduceCtorEq, Nat.reduceLeDiff, Int.reduceLT, Int.reduceLE, Int.reduceToNat, Int.reduceEq, Nat.reduceLT, rep16, e0, e1, hbd, tn0, hr', l1, w1, r1, undef_eq]
   rw [← hT]
   first | exact ⟨oT.set (by omega), flat_dig, rfl⟩ | exact ⟨oT.set (by omega), flat_dig⟩
  have e1 : decide ((L.length : Int) = 1) = false := by rw [decide_eq_false]; omega
  have hs := splitN_spec (n := L.length) (by omega)
  simp only [↓eD, eZ, ↓reduceIte, Nat.reduceEqDiff, Nat.reduceAdd, Nat.reduceMul, reduceCtorEq, Nat.reduceLeDiff, Int.reduceLT, Int.reduceLE, Int.reduceToNat, Int.reduceEq, Nat.reduceLT, rep16, e0, e1, undef_eq]
  rw [← hT]
  refine appK_at (rsplit_app (by omega) (by omega)) ?_
  obtain ⟨k, hk⟩ : ∃ k, k = splitN L.length := ⟨_, rfl⟩
  have hR : rootF L = nodeF (rootF (L.take k)) (rootF (L.drop k)) := by rw [rootF, dif_neg h0, dif_neg h1, hk]
  rw [hR]
  rw [← hk] at hs ⊢
  have hbig : L.length < big := Nat.lt_of_le_of_lt hn (by decide)
  obtain ⟨v1, s1, L1, _⟩ := (h.Old oT).sub (lo := 0) (hi := k) (xl := none) (xh := some (.int .i64 (k : Int))) (xm := none) (by omega) (by omega) (by omega) (.inr ⟨rfl, rfl⟩) (.inl rfl) (.inl rfl)
  obtain ⟨v2, s2, L2, _⟩ := (h.Old oT).sub (lo := k) (hi := L.length) (xl := some (.int .i64 (k : Int))) (xh := none) (xm := none) (by omega) (by omega) (by omega) (.inl rfl) (.inr ⟨rfl, rfl, rfl⟩) (.inl rfl)
  rw [List.drop_zero] at L1
  rw [List.take_length] at L2
  simp only [↓eD, eZ, ↓reduceIte, Nat.reduceEqDiff, Nat.reduceAdd, Nat.reduceMul, reduceCtorEq, Nat.reduceLeDiff, Int.reduceLT, Int.reduceLE, Int.reduceToNat, Int.reduceEq, Nat.reduceLT, s1, s2, undef_eq]
  first
  |(exfalso; omega)
  |skip
 have hl1 : (L.take k).length ≤ N := by rw [List.length_take]; omega
 have hl2 : (L.drop k).length ≤ N := by rw [List.length_drop]; omega
 refine appK_at (ih _ _ _ hl1 L1 (by rw [List.length_take]; omega) (hG.Old oT)) ?_
 simp only [↓eD, eZ, ↓reduceIte, Nat.reduceEqDiff, Nat.reduceAdd, Nat.reduceMul, reduceCtorEq, Nat.reduceLeDiff, Int.reduceLT, Int.reduceLE, Int.reduceToNat, Int.reduceEq, Nat.reduceLT, undef_eq]
 refine appK_at (ih _ _ _ hl2 L2 (by rw [List.length_drop]; omega) (hG.Old oT)) ?_
 simp only [↓eD, eZ, ↓reduceIte, Nat.reduceEqDiff, Nat.reduceAdd, Nat.reduceMul, reduceCtorEq, Nat.reduceLeDiff, Int.reduceLT, Int.reduceLE, Int.reduceToNat, Int.reduceEq, Nat.reduceLT, undef_eq]
 refine appK_at (rnode_app (rootF_len L1.d) (rootF_len L2.d) (hG.Old oT)) ?_
 have D16 : (nodeF (rootF (L.take k)) (rootF (L.drop k))).length = 16 := nodeF_len
 generalize nodeF (rootF (L.take k)) (rootF (L.drop k)) = D at D16
 obtain ⟨w1, r1⟩ := dig_put D16 z0
 obtain ⟨l1, l2, l3, l4⟩ := dig_len D16
 simp only [↓eD, eZ, ↓reduceIte, Nat.reduceEqDiff, Nat.reduceAdd, Nat.reduceMul, reduceCtorEq, Nat.reduceLeDiff, Int.reduceLT, Int.reduceLE, Int.reduceToNat, Int.reduceEq, Nat.reduceLT, l1, w1, r1, undef_eq]
 first | exact ⟨oT.set (by omega), flat_dig, rfl⟩ | exact ⟨oT.set (by omega), flat_dig⟩
structure Inc (σ0 σ : H) (bp bo n0 : Nat) (fv : Value) (P : List (List Int)) : Prop where
 old : Old σ0 σ
 h1 : σ0.size ≤ bp
 h2 : σ0.size ≤ bo
 h3 : bp ≠ bo
 h4 : bp < n0
 h5 : bo < n0
 h6 : n0 ≤ σ.size
 p : ∃ ver, σ[bp]? = some (.cells ver [fv] (0, 0))
 o : ∃ ver u, σ[bo]? = some (.cells ver [u] (0, 0)) ∧ Grown (sized n0) σ 16 u (P.map digC).flatten P.length
theorem Inc.push {σ0 σ : H} {bp bo n0 : Nat} {fv : Value} {P : List (List Int)} (h : Inc σ0 σ bp bo n0 fv P) {D : List Int} (hD : D.length = 16) (hP : P.length < 1000000) {u : Value} (hu : rd1 σ ⟨bo, 0, none⟩ = some u) :
  ∃ u' τ τ', append 16 16 u (.slice (some ⟨σ.size, 0, none⟩) 1 1) (ap σ [.cells 0 (digC D) (0, 0)]) = some (u', τ) ∧ wrN τ ⟨bo, 0, none⟩ [u'] = some τ' ∧ u'.cells = #[u'] ∧ Inc σ0 τ' bp bo n0 fv (P ++ [D]) ∧ σ.size ≤ τ'.size := by
 obtain ⟨ver, u0, hb, hg⟩ := h.o
 have e : u0 = u := by
  rw [rd1_eq, hb] at hu
  exact Option.some.inj hu
 subst e
 have lD : (digC D).length = 16 := by rw [digC_length, hD]
 have g1 := hg.old (Old.ap (l := [.cells 0 (digC D) (0, 0)]))
 have h6 := h.h6
 have hs : (sized n0).size = n0 := sized_size
 have sz : (ap σ [.cells 0 (digC D) (0, 0)]).size = σ.size + 1 := by simp [ap_size]
 have hx : xcells (ap σ [.cells 0 (digC D) (0, 0)]) 16 (.slice (some ⟨σ.size, 0, none⟩) 1 1) = some (1, digC D) :=
  (Grown.lit (σ0 := σ) (s := 16) (n := 1) (ver := 0) (by rw [lD]) (by decide) (Nat.le_refl _) (by rw [ap_new0]; rfl)).whl.x
 obtain ⟨u', τ, ha, A⟩ := append_grown (bytes := 16) g1 (by omega) (by omega) hx (by rw [lD]) digC_one (by omega) (by omega)
 obtain ⟨ua, uc, rfl⟩ := A.grown.slice
 have hb1 := A.low g1 (c := bo) (by have := h.h5; omega) ((ap_old (Array.getElem?_eq_some_iff.1 hb).1).trans hb)
 obtain ⟨vp, hp⟩ := h.p
 have hp1 := A.low g1 (c := bp) (by have := h.h4; omega) ((ap_old (Array.getElem?_eq_some_iff.1 hp).1).trans hp)
 have sA := A.size
 refine ⟨_, τ, τ.setIfInBounds bo (.cells (ver + 1) [.slice ua (P.length + 1) uc] (0, 0)), ha, ?_, rfl, ⟨?_, h.h1, h.h2, h.h3, h.h4, h.h5, by rw [Array.size_setIfInBounds]; omega, ⟨vp, (get_set_ne (Ne.symm h.h3)).trans hp1⟩, ⟨ver + 1, _, get_set hb1, ?_⟩⟩, by rw [Array.size_setIfInBounds]; omega⟩
 ·rw [wrN_eq, if_neg (by simp), hb1, wrc_cells, if_pos ⟨by simp, rfl⟩]
  rfl
 ·have o1 : Old σ0 τ := A.Old' g1 (by have := h.h1; have := h.h4; omega) (h.old.trans .ap)
  exact o1.set h.h2
 ·have := A.grown.set (b := bo) (k := .cells (ver + 1) [.slice ua (P.length + 1) uc] (0, 0)) (by have := h.h5; omega)
  rw [List.map_append, List.flatten_append, List.length_append]
  simpa using this
theorem Inc.Old' {σ0 σ τ : H} {bp bo n0 : Nat} {fv : Value} {P : List (List Int)} (h : Inc σ0 σ bp bo n0 fv P) (ho : Old σ τ) : Inc σ0 τ bp bo n0 fv P := by
 obtain ⟨vp, hp⟩ := h.p
 obtain ⟨ver, u, hb, hg⟩ := h.o
 exact ⟨h.old.trans ho, h.h1, h.h2, h.h3, h.h4, h.h5, Nat.le_trans h.h6 ho.1, ⟨vp, (ho.2 _ (Array.getElem?_eq_some_iff.1 hp).1).trans hp⟩, ⟨ver, u, (ho.2 _ (Array.getElem?_eq_some_iff.1 hb).1).trans hb, hg.old ho⟩⟩
def inclF (L : List (List Int)) (i : Nat) : List (List Int) :=
 if h1 : L.length ≤ 1 then []
 else if i < splitN L.length then inclF (L.take (splitN L.length)) i ++ [rootF (L.drop (splitN L.length))]
 else inclF (L.drop (splitN L.length)) (i - splitN L.length) ++ [rootF (L.take (splitN L.length))]
termination_by L.length
decreasing_by
 ·rw [List.length_take]; have := splitN_spec (n := L.length) (by omega); omega
 ·rw [List.length_drop]; have := splitN_spec (n := L.length) (by omega); omega
theorem inclF_len : ∀ {N : Nat} {L : List (List Int)} {i : Nat}, L.length ≤ N → (inclF L i).length ≤ N
 |0, L, i, h => by rw [inclF, dif_pos (by omega)]; simp
 |N + 1, L, i, h => by
  rw [inclF]
  split
  ·simp
  ·have hs := splitN_spec (n := L.length) (by omega)
   split
   ·rw [List.length_append]
    have := inclF_len (N := N) (L := L.take (splitN L.length)) (i := i) (by rw [List.length_take]; omega)
    simp; omega
   ·rw [List.length_append]
    have := inclF_len (N := N) (L := L.drop (splitN L.length)) (i := i - splitN L.length) (by rw [List.length_drop]; omega)
    simp; omega
theorem inclF_dig : ∀ {N : Nat} {L : List (List Int)} {i : Nat}, L.length ≤ N → (∀ d ∈ L, d.length = 16) → ∀ d ∈ inclF L i, d.length = 16
 |0, L, i, h, hd => by rw [inclF, dif_pos (by omega)]; intro d hd; cases hd
 |N + 1, L, i, h, hd => by
  rw [inclF]
  split
  ·intro d hd; cases hd
  ·have hs := splitN_spec (n := L.length) (by omega)
   have t1 : ∀ d ∈ L.take (splitN L.length), d.length = 16 := fun d h => hd d (List.mem_of_mem_take h)
   have t2 : ∀ d ∈ L.drop (splitN L.length), d.length = 16 := fun d h => hd d (List.mem_of_mem_drop h)
   split
   ·intro d hm
    rcases List.mem_append.1 hm with hm | hm
    ·exact inclF_dig (N := N) (by rw [List.length_take]; omega) t1 d hm
    ·rw [List.mem_singleton] at hm; rw [hm]; exact rootF_len t2
   ·intro d hm
    rcases List.mem_append.1 hm with hm | hm
    ·exact inclF_dig (N := N) (by rw [List.length_drop]; omega) t2 d hm
    ·rw [List.mem_singleton] at hm; rw [hm]; exact rootF_len t1
theorem incl1_app {σ0 : H} {bp bo n0 : Nat} (hG : HGlob σ0) : ∀ (N : Nat) (σ : H) (v : Value) (L : List (List Int)) (i : Nat) (P : List (List Int)), L.length ≤ N → 0 < L.length → L.length ≤ 1000 → P.length + N < 100000 → i < L.length → Ls σ0 v L →
  Inc σ0 σ bp bo n0 (.func (.func 32) #[] #[.pointer (some ⟨bp, 0, none⟩), .pointer (some ⟨bo, 0, none⟩)]) P →
  App Tryd.prog (.func 32) #[.pointer (some ⟨bp, 0, none⟩), .pointer (some ⟨bo, 0, none⟩)] #[v, .int .i64 (i : Int)] σ fun w σ' => w = .tuple #[] ∧ σ.size ≤ σ'.size ∧
   Inc σ0 σ' bp bo n0 (.func (.func 32) #[] #[.pointer (some ⟨bp, 0, none⟩), .pointer (some ⟨bo, 0, none⟩)]) (P ++ inclF L i) := by
 intro N
 induction N with
 |zero => intro σ v L i P h1 h2; omega
 |succ N ih =>
  intro σ v L i P hN hpos hn hPN hi hL hI
  refine App.of_sem mixed Tryd.func32 t32 k32 r32 (Nat.le_of_ble_eq_true rfl) ?_
  obtain ⟨a, c, rfl⟩ := hL.slice
  unfold s32
  by_cases h1 : L.length = 1
  ·have e1 : decide ((L.length : Int) = 1) = true := by rw [decide_eq_true]; omega
   simp only [↓eD, eZ, ↓reduceIte, Nat.reduceEqDiff, Nat.reduceAdd, Nat.reduceMul, reduceCtorEq, Nat.reduceLeDiff, Int.reduceLT, Int.reduceLE, Int.reduceToNat, Int.reduceEq, Nat.reduceLT, e1, undef_eq]
   rw [inclF, dif_pos (by omega), List.append_nil]
   first | exact ⟨Nat.le_refl _, hI⟩ | exact hI
  have e1 : decide ((L.length : Int) = 1) = false := by rw [decide_eq_false]; omega
  have hs := splitN_spec (n := L.length) (by omega)
  simp only [↓eD, eZ, ↓reduceIte, Nat.reduceEqDiff, Nat.reduceAdd, Nat.reduceMul, reduceCtorEq, Nat.reduceLeDiff, Int.reduceLT, Int.reduceLE, Int.reduceToNat, Int.reduceEq, Nat.reduceLT, e1, undef_eq]
  refine appK_at (lsplit_app (by omega) (by omega)) ?_
  obtain ⟨k, hk⟩ : ∃ k, k = splitN L.length := ⟨_, rfl⟩
  rw [← hk] at hs ⊢
  have hR : inclF L i = if i < k then inclF (L.take k) i ++ [rootF (L.drop k)] else inclF (L.drop k) (i - k) ++ [rootF (L.take k)] := by rw [inclF, dif_neg (by omega), hk]
  obtain ⟨vp, hp⟩ := hI.p
  have rp : rd1 σ ⟨bp, 0, none⟩ = some (.func (.func 32) #[] #[.pointer (some ⟨bp, 0, none⟩), .pointer (some ⟨bo, 0, none⟩)]) := rd1_of hp Old.refl (k := 0) rfl
  have hbig : L.length < big := Nat.lt_of_le_of_lt hn (by decide)
  obtain ⟨v1, s1, L1, _⟩ := hL.sub (lo := 0) (hi := k) (xl := none) (xh := some (.int .i64 (k : Int))) (xm := some (.int .i64 (k : Int))) (by omega) (by omega) (by omega) (.inr ⟨rfl, rfl⟩) (.inl rfl) (.inr rfl)
  obtain ⟨v2, s2, L2, _⟩ := hL.sub (lo := k) (hi := L.length) (xl := some (.int .i64 (k : Int))) (xh := none) (xm := none) (by omega) (by omega) (by omega) (.inl rfl) (.inr ⟨rfl, rfl, rfl⟩) (.inl rfl)
  rw [List.drop_zero] at L1
  rw [List.take_length] at L2
  have hl1 : (L.take k).length = k := by rw [List.length_take]; omega
  have hl2 : (L.drop k).length = L.length - k := by rw [List.length_drop]
  by_cases hik : i < k
  case' pos =>
   have ei : decide ((i : Int) < (k : Int)) = true := by rw [decide_eq_true]; omega
   rw [hR, if_pos hik]
   simp only [↓eD, eZ, ↓reduceIte, Nat.reduceEqDiff, Nat.reduceAdd, Nat.reduceMul, reduceCtorEq, Nat.reduceLeDiff, Int.reduceLT, Int.reduceLE, Int.reduceToNat, Int.reduceEq, Nat.reduceLT, ei, rp, s1, undef_eq]
   refine appK_of (ih σ v1 (L.take k) i P (by omega) (by omega) (by omega) (by omega) (by omega) L1 hI) ?_
  case' neg =>
   have ei : decide ((i : Int) < (k : Int)) = false := by rw [decide_eq_false]; omega
   have wi : IntKind.wrap .i64 ((i : Int) - (k : Int)) = ((i - k : Nat) : Int) := by rw [wrap64' (by omega) (by omega)]; omega
   rw [hR, if_neg hik]
   simp only [↓eD, eZ, ↓reduceIte, Nat.reduceEqDiff, Nat.reduceAdd, Nat.reduceMul, reduceCtorEq, Nat.reduceLeDiff, Int.reduceLT, Int.reduceLE, Int.reduceToNat, Int.reduceEq, Nat.reduceLT, ei, rp, s2, wi, undef_eq]
   refine appK_of (ih σ v2 (L.drop k) (i - k) P (by omega) (by omega) (by omega) (by omega) (by omega) L2 hI) ?_
  all_goals
   rintro _ τ ⟨rfl, oτ, hJ⟩
   obtain ⟨ver, u, hb, hg⟩ := hJ.o
   have ru : rd1 τ ⟨bo, 0, none⟩ = some u := rd1_of hb Old.refl (k := 0) rfl
   simp only [↓eD, eZ, ↓reduceIte, Nat.reduceEqDiff, Nat.reduceAdd, Nat.reduceMul, reduceCtorEq, Nat.reduceLeDiff, Int.reduceLT, Int.reduceLE, Int.reduceToNat, Int.reduceEq, Nat.reduceLT, ru, s1, s2, undef_eq]
  case' pos => refine appK_at (lroot_app (L2.Old hJ.old) (by omega) (hG.Old hJ.old)) ?_
  case' neg => refine appK_at (lroot_app (L1.Old hJ.old) (by omega) (hG.Old hJ.old)) ?_
  case' pos =>
   have D16 := rootF_len L2.d
   have hPl := inclF_len (N := N) (L := L.take k) (i := i) (by omega)
   generalize rootF (L.drop k) = D at D16 ⊢
  case' neg =>
   have D16 := rootF_len L1.d
   have hPl := inclF_len (N := N) (L := L.drop k) (i := i - k) (by omega)
   generalize rootF (L.take k) = D at D16 ⊢
  all_goals
   obtain ⟨u', τ1, τ2, ha, hw, hu', hJ2, hsz⟩ := hJ.push D16 (by rw [List.length_append]; omega) ru
   obtain ⟨l1, l2, l3, l4⟩ := dig_len D16
   rw [← ap_nil (σ := τ)]
   have ru' : ∀ M, rd1 (ap τ M) ⟨bo, 0, none⟩ = some u := fun M => rd1_old ru
   simp only [↓eD, eZ, ↓reduceIte, Nat.reduceEqDiff, Nat.reduceAdd, Nat.reduceMul, reduceCtorEq, Nat.reduceLeDiff, Int.reduceLT, Int.reduceLE, Int.reduceToNat, Int.reduceEq, Nat.reduceLT, ru', rep16, l1, l2, l3, l4, digC_one, undef_eq]
   refine onV_of ha ?_
   simp only [↓eD, eZ, ↓reduceIte, Nat.reduceEqDiff, Nat.reduceAdd, Nat.reduceMul, reduceCtorEq, Nat.reduceLeDiff, Int.reduceLT, Int.reduceLE, Int.reduceToNat, Int.reduceEq, Nat.reduceLT, hw, hu', undef_eq]
   rw [← List.append_assoc]
   exact ⟨Nat.le_trans oτ hsz, hJ2⟩
theorem dig_rows {L : List (List Int)} (hd : ∀ d ∈ L, d.length = 16) : ∀ r ∈ L.map digC, r.length = 16 := fun r hr => by
 obtain ⟨d, h, rfl⟩ := List.mem_map.1 hr
 rw [digC_length, hd d h]
theorem dig_ones {L : List (List Int)} : (L.map digC).flatten.all Value.oneCell' = true := by
 rw [List.all_eq_true]
 intro v hv
 obtain ⟨r, hr, hv⟩ := List.mem_flatten.1 hv
 obtain ⟨d, _, rfl⟩ := List.mem_map.1 hr
 exact List.all_eq_true.1 digC_one v hv
theorem grown_ls {σ0 σ : H} {u : Value} {L : List (List Int)} (h : Grown σ0 σ 16 u (L.map digC).flatten L.length) (hd : ∀ d ∈ L, d.length = 16) : Ls σ u L := by
 have h' : Grown σ0 σ 16 u (L.map digC).flatten (L.map digC).length := by rw [List.length_map]; exact h
 exact ⟨h'.Row (dig_rows hd), h.cap, hd⟩
theorem ls_nil {σ : H} : Ls σ (.slice none 0 0) [] := ⟨⟨none, 0, rfl, fun i x h => by simp at h⟩, ⟨none, 0, 0, rfl, by decide, .inl rfl⟩, fun d h => by cases h⟩
theorem Ls.x {σ : H} {v : Value} {L : List (List Int)} (h : Ls σ v L) : xcells σ 16 v = some (L.length, (L.map digC).flatten) := by
 have hfl : (L.map digC).flatten.length = L.length * 16 := by rw [flatten_length (dig_rows h.d), List.length_map]
 obtain ⟨a, c, rfl⟩ := h.slice
 have := h.r
 have hx := row_xcells this
 rw [List.length_map] at hx
 exact hx
def inclE (L : List (List Int)) (i : Int) : Int := if i < 0 ∨ (L.length : Int) ≤ i then 1 else 0
def inclP (L : List (List Int)) (i : Int) : List (List Int) := if i < 0 ∨ (L.length : Int) ≤ i then [] else inclF L i.toNat
theorem linclusion_app {σ : H} {v : Value} {L : List (List Int)} {i : Int} (hL : Ls σ v L) (hn : L.length ≤ 1000) (hG : HGlob σ) :
  App Tryd.prog (.func 10) #[] #[v, .int .i64 i] σ fun w σ' => Old σ σ' ∧ ∃ u, w = .tuple #[u, .int .i64 (inclE L i)] ∧ Ls σ' u (inclP L i) := by
 refine App.of_sem mixed Tryd.func10 t10 k10 r10 (Nat.le_of_ble_eq_true rfl) ?_
 obtain ⟨a, c, rfl⟩ := hL.slice
 rw [← ap_nil (σ := σ)]
 unfold s10 inclE inclP
 by_cases g1 : i < 0
 ·have d1 : decide (i < 0) = true := decide_eq_true g1
  simp only [↓eD, eZ, ↓reduceIte, Nat.reduceEqDiff, Nat.reduceAdd, Nat.reduceMul, reduceCtorEq, Nat.reduceLeDiff, Int.reduceLT, Int.reduceLE, Int.reduceToNat, Int.reduceEq, Nat.reduceLT, d1, undef_eq]
  rw [if_pos (.inl g1), if_pos (.inl g1), ap_nil]
  exact ⟨Old.refl, _, rfl, ls_nil⟩
 have d1 : decide (i < 0) = false := decide_eq_false g1
 by_cases g2 : (L.length : Int) ≤ i
 ·have d2 : decide ((L.length : Int) ≤ i) = true := decide_eq_true g2
  simp only [↓eD, eZ, ↓reduceIte, Nat.reduceEqDiff, Nat.reduceAdd, Nat.reduceMul, reduceCtorEq, Nat.reduceLeDiff, Int.reduceLT, Int.reduceLE, Int.reduceToNat, Int.reduceEq, Nat.reduceLT, d1, d2, undef_eq]
  rw [if_pos (.inr g2), if_pos (.inr g2), ap_nil]
  exact ⟨Old.refl, _, rfl, ls_nil⟩
 have d2 : decide ((L.length : Int) ≤ i) = false := decide_eq_false g2
 rw [if_neg (by omega), if_neg (by omega)]
 simp only [↓eD, eZ, ↓reduceIte, Nat.reduceEqDiff, Nat.reduceAdd, Nat.reduceMul, reduceCtorEq, Nat.reduceLeDiff, Int.reduceLT, Int.reduceLE, Int.reduceToNat, Int.reduceEq, Nat.reduceLT, d1, d2, undef_eq]
 obtain ⟨T, hT⟩ : ∃ T, T = ap σ [.cells 0 [.slice none 0 0] (0, 0), .cells 1 [.func (.func 32) #[] #[.pointer (some ⟨σ.size + 1, 0, none⟩), .pointer (some ⟨σ.size, 0, none⟩)]] (0, 0)] := ⟨_, rfl⟩
 rw [← hT]
 have oT : Old σ T := by rw [hT]; exact .ap
 have sT : T.size = σ.size + 2 := by rw [hT]; simp [ap_size]
 obtain ⟨j, rfl⟩ : ∃ j : Nat, i = (j : Int) := ⟨i.toNat, by omega⟩
 have hI : Inc σ T (σ.size + 1) σ.size (σ.size + 2) (.func (.func 32) #[] #[.pointer (some ⟨σ.size + 1, 0, none⟩), .pointer (some ⟨σ.size, 0, none⟩)]) [] :=
  ⟨oT, by omega, by omega, by omega, by omega, by omega, by omega, ⟨1, by rw [hT, ap_new]; rfl⟩, ⟨0, _, by rw [hT, ap_new0]; rfl, Grown.nil⟩⟩
 clear hT
 refine appK_of (incl1_app hG L.length T _ L j [] (Nat.le_refl _) (by omega) hn (by simp; omega) (by omega) hL hI) ?_
 rintro _ τ ⟨rfl, oτ, hJ⟩
 rw [List.nil_append] at hJ
 obtain ⟨ver, u, hb, hg⟩ := hJ.o
 have ru : rd1 τ ⟨σ.size, 0, none⟩ = some u := rd1_of hb Old.refl (k := 0) rfl
 simp only [↓eD, eZ, ↓reduceIte, Nat.reduceEqDiff, Nat.reduceAdd, Nat.reduceMul, reduceCtorEq, Nat.reduceLeDiff, Int.reduceLT, Int.reduceLE, Int.reduceToNat, Int.reduceEq, Nat.reduceLT, ru, undef_eq]
 rw [Int.toNat_natCast]
 exact ⟨hJ.old, u, rfl, grown_ls hg (inclF_dig (Nat.le_refl _) hL.d)⟩
end Go.Proofs.YtjgbbhfihcmphaaDoor
