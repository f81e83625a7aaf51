/- Walks of the functions that the claim reaches. Conditions: none. -/
import Derived.Test.YtajchhghjjlahaaDoorKb
set_option linter.all false
set_option maxRecDepth 10000
set_option maxHeartbeats 4000000
namespace Go.Proofs.YtajchhghjjlahaaDoor
open Go Go.Cn Go.RowKit
attribute [local irreducible] evL sem onG onI onV
structure MemV (σ : H) (v : Value) (n : Nat) (B : List Int) : Prop where
 w : Whl σ 128 v n (digC B)
 l : B.length = 128 * n
 b : Byt B
theorem MemV.Old {σ τ : H} {v : Value} {n : Nat} {B : List Int} (h : MemV σ v n B) (ho : Old σ τ) : MemV τ v n B := ⟨h.w.Old ho, h.l, h.b⟩
theorem sliceArr_from {n lo : Nat} {k o : Nat} (h : lo ≤ n) (hn : n < big) : sliceArr n 1 (.pointer (some ⟨k, o, none⟩)) (some (.int .i64 (lo : Int))) none none = some (.slice (some ⟨k, o + lo, none⟩) (n - lo) (n - lo)) := by
 have h1 : bnd (some (.int .i64 (lo : Int))) 0 n = some lo := by simp only [bnd, asI]; rw [if_pos (by omega)]; simp
 have h2 : bnd none n (capLow n) = some n := rfl
 unfold sliceArr
 simp only
 rw [bnds_eq h1 h2]
 simp
def putF (B : List Int) (at_ : Nat) (d : List Int) : List Int := B.take at_ ++ d ++ B.drop (at_ + d.length)
theorem putF_len {B d : List Int} {at_ : Nat} (h : at_ + d.length ≤ B.length) : (putF B at_ d).length = B.length := by
 unfold putF; rw [List.length_append, List.length_append, List.length_take, List.length_drop]; omega
theorem putF_byt {B d : List Int} {at_ : Nat} (hB : Byt B) (hd : Byt d) : Byt (putF B at_ d) := fun x hx => by
 unfold putF at hx
 rcases List.mem_append.1 hx with hx | hx
 ·rcases List.mem_append.1 hx with hx | hx
  ·exact hB x (List.mem_of_mem_take hx)
  ·exact hd x hx
 ·exact hB x (List.mem_of_mem_drop hx)
theorem putF_more {B d : List Int} {at_ k j : Nat} (h : at_ + d.length ≤ B.length) (hk : k + j ≤ d.length) :
  sets (digC (putF B at_ (d.take k))) (at_ + k) (digC ((d.drop k).take j)) = digC (putF B at_ (d.take (k + j))) := by
 have l1 : ((d.drop k).take j).length = j := by rw [List.length_take, List.length_drop]; omega
 have l2 : (d.take k).length = k := by rw [List.length_take]; omega
 have l3 : (d.take (k + j)).length = k + j := by rw [List.length_take]; omega
 have l4 : (B.take at_).length = at_ := by rw [List.length_take]; omega
 rw [sets_all (by rw [digC_length, digC_length, putF_len (by omega), l1]; omega), digC_length, l1]
 have e1 : (digC (putF B at_ (d.take k))).take (at_ + k) = digC (B.take at_ ++ d.take k) := by
  unfold digC putF
  rw [← List.map_take, List.take_left' (by rw [List.length_append, l4, l2])]
 have e2 : (digC (putF B at_ (d.take k))).drop (at_ + k + j) = digC (B.drop (at_ + k + j)) := by
  unfold digC putF
  rw [← List.map_drop, ← List.drop_drop, List.drop_left' (by rw [List.length_append, l4, l2]), List.drop_drop, l2]
 rw [e1, e2]
 unfold putF digC
 rw [l3, List.take_add, ← List.map_append, ← List.map_append, Nat.add_assoc, List.append_assoc (B.take at_)]
theorem put_app {σ : H} {b n c ver at_ : Nat} {B d : List Int} {ds : Value} (hb : σ[b]? = some (.cells ver (digC B) (0, 0))) (hB : B.length = 128 * n) (hd : Whl σ 1 ds d.length (digC d)) (hne : ∀ q, baseOf ds = some q → q ≠ b) (hat : at_ + d.length ≤ 128 * n) (hn : n ≤ 1000000) :
  App Tryd.prog (.func 57) #[] #[.agg #[.slice (some ⟨b, 0, none⟩) n c], .int .i64 (at_ : Int), ds] σ fun v σ' => v = .tuple #[] ∧ σ.size ≤ σ'.size ∧ (∀ q, q < σ.size → q ≠ b → σ'[q]? = σ[q]?) ∧ ∃ ver', σ'[b]? = some (.cells ver' (digC (putF B at_ d)) (0, 0)) := by
 refine App.of_sem mixed Tryd.func57 t57 k57 r57 (Nat.le_of_ble_eq_true rfl) ?_
 obtain ⟨a, cc, rfl⟩ := hd.slice
 have hbs : b < σ.size := (Array.getElem?_eq_some_iff.1 hb).1
 rw [← ap_nil (σ := σ)]
 unfold s57
 simp only [↓eD, eZ, ↓reduceIte, Nat.reduceEqDiff, Nat.reduceAdd, Nat.reduceMul, reduceCtorEq, Nat.reduceLeDiff, Int.reduceLT, Int.reduceLE, Int.reduceToNat, Int.reduceEq, Nat.reduceLT, undef_eq]
 obtain ⟨T0, hT0⟩ : ∃ T0, T0 = ap σ [.cells 0 [.slice (some ⟨b, 0, none⟩) n c] (0, 0)] := ⟨_, rfl⟩
 rw [← hT0]
 have o0 : Old σ T0 := by rw [hT0]; exact .ap
 have s0 : T0.size = σ.size + 1 := by rw [hT0]; simp [ap_size]
 have p0 : T0[σ.size]? = some (.cells 0 [.slice (some ⟨b, 0, none⟩) n c] (0, 0)) := by rw [hT0, ap_new0]; rfl
 have b0 : T0[b]? = some (.cells ver (digC B) (0, 0)) := (o0.2 _ hbs).trans hb
 clear hT0
 have w0 := hd.Old o0
 refine loop_for (J := fun i e τ => ∃ (k ver' : Nat) (x : Value), i ≤ k ∧ k ≤ d.length ∧ e = [(1, .int .i64 ((at_ + k : Nat) : Int)), (2, x), (3, .pointer (some ⟨σ.size, 0, none⟩))] ∧ τ = T0.setIfInBounds b (.cells ver' (digC (putF B at_ (d.take k))) (0, 0)) ∧ Whl T0 1 x (d.drop k).length (digC (d.drop k)) ∧ (∀ q, baseOf x = some q → q ≠ b)) d.length
  ⟨0, ver, _, Nat.le_refl _, Nat.zero_le _, rfl, ?_, w0, hne⟩ ?_
 ·have : putF B at_ (d.take 0) = B := by unfold putF; simp
  rw [this]
  exact (set_self b0).symm
 rintro i e τ hi ⟨k, ver', x, hik, hkd, rfl, rfl, wx, hxb⟩
 have hdl : (d.drop k).length = d.length - k := List.length_drop
 have hbT : b < T0.size := by omega
 have OB : OldB b T0 (T0.setIfInBounds b (.cells ver' (digC (putF B at_ (d.take k))) (0, 0))) := ⟨by simp, fun q h1 h2 => get_set_ne (Ne.symm h2)⟩
 have wτ := Whl.oldB wx hxb OB (by omega)
 obtain ⟨xa, xc, rfl⟩ := wx.slice
 have pτ : (T0.setIfInBounds b (.cells ver' (digC (putF B at_ (d.take k))) (0, 0)))[σ.size]? = some (.cells 0 [.slice (some ⟨b, 0, none⟩) n c] (0, 0)) := (get_set_ne (by omega)).trans p0
 have bτ : (T0.setIfInBounds b (.cells ver' (digC (putF B at_ (d.take k))) (0, 0)))[b]? = some (.cells ver' (digC (putF B at_ (d.take k))) (0, 0)) := get_set b0
 by_cases hlt : k < d.length
 case neg =>
  have : k = d.length := by omega
  subst this
  have dl : decide ((0 : Int) < ((d.drop d.length).length : Int)) = false := by rw [hdl]; exact decide_eq_false (by omega)
  simp only [↓eD, eZ, ↓reduceIte, Nat.reduceEqDiff, Nat.reduceAdd, Nat.reduceMul, reduceCtorEq, Nat.reduceLeDiff, Int.reduceLT, Int.reduceLE, Int.reduceToNat, Int.reduceEq, Nat.reduceLT, dl, undef_eq]
  refine ⟨by simp; omega, fun q h1 h2 => (get_set_ne (Ne.symm h2)).trans (o0.2 _ h1), ver', ?_⟩
  rw [bτ, List.take_length]
 have dl : decide ((0 : Int) < ((d.drop k).length : Int)) = true := by rw [decide_eq_true]; omega
 obtain ⟨P, hP⟩ : ∃ P, P = (at_ + k) / 128 := ⟨_, rfl⟩
 obtain ⟨O, hO⟩ : ∃ O, O = (at_ + k) % 128 := ⟨_, rfl⟩
 have hPO : 128 * P + O = at_ + k := by rw [hP, hO]; exact Nat.div_add_mod _ _
 have hO1 : O < 128 := by rw [hO]; exact Nat.mod_lt _ (by omega)
 have hPn : P < n := by omega
 have tq : (((at_ + k : Nat) : Int)).tdiv 128 = (P : Int) := by rw [hP]; exact (Int.ofNat_tdiv _ _).symm
 have tr : (((at_ + k : Nat) : Int)).tmod 128 = (O : Int) := by rw [hO]; exact (Int.ofNat_tmod _ _).symm
 have wq : IntKind.wrap .i64 (P : Int) = (P : Int) := wrap64' (by omega) (by omega)
 have hz : ((128 : Int) = 0) = False := by simp
 have hbd : (0:Int) ≤ (P:Int) ∧ (P:Int) < (n : Int) := by omega
 have hsa : sliceArr 128 1 (.pointer (some ⟨b, P * 128, none⟩)) (some (.int .i64 (O : Int))) none none = some (.slice (some ⟨b, P * 128 + O, none⟩) (128 - O) (128 - O)) := sliceArr_from (by omega) (by decide)
 obtain ⟨j, hj⟩ : ∃ j, j = min (d.drop k).length (128 - O) := ⟨_, rfl⟩
 have hj1 : 0 < j := by omega
 have hj2 : k + j ≤ d.length := by omega
 have hcp : copyV 1 (.slice (some ⟨b, P * 128 + O, none⟩) (128 - O) (128 - O)) (.slice xa (d.drop k).length xc) (T0.setIfInBounds b (.cells ver' (digC (putF B at_ (d.take k))) (0, 0))) = some (.int .i64 (j : Int), T0.setIfInBounds b (.cells (ver' + 1) (digC (putF B at_ (d.take (k + j)))) (0, 0))) := by
  unfold copyV
  simp only [wτ.x]
  rw [← hj, Nat.mul_one]
  have hl1 : ((d.drop k).take j).length = j := by rw [List.length_take]; omega
  have e1 : (digC (d.drop k)).take j = digC ((d.drop k).take j) := by unfold digC; rw [List.map_take]
  rw [e1, wrN_eq, if_neg (by intro h; have := congrArg List.length h; rw [digC_length, hl1] at this; simp at this; omega)]
  show ((wrc _ (P * 128 + O) _).map _).map _ = _
  rw [show (⟨b, P * 128 + O, none⟩ : Addr).block = b from rfl, bτ, wrc_cells, if_pos ⟨by rw [digC_length, digC_length, hl1, putF_len (by rw [List.length_take]; omega)]; omega, digC_one⟩, show P * 128 + O = at_ + k by omega, putF_more (by omega) hj2]
  simp [set_set]
 obtain ⟨x', hx', wx', hbx'⟩ := whl_suf (lo := j) wx (by omega)
 rw [Nat.mul_one, digC_drop, List.drop_drop] at wx'
 have hwa : IntKind.wrap .i64 (((at_ + k : Nat) : Int) + (j : Int)) = ((at_ + (k + j) : Nat) : Int) := by rw [wrap64' (by omega) (by omega)]; omega
 have rp := rd1_of pτ Old.refl (k := 0) rfl
 simp only [↓eD, eZ, ↓reduceIte, Nat.reduceEqDiff, Nat.reduceAdd, Nat.reduceMul, reduceCtorEq, Nat.reduceLeDiff, Int.reduceLT, Int.reduceLE, Int.reduceToNat, Int.reduceEq, Nat.reduceLT, dl, rp, tq, tr, wq, hz, hbd, Int.toNat_natCast, hsa, undef_eq]
 refine onV_of hcp ?_
 simp only [↓eD, eZ, ↓reduceIte, Nat.reduceEqDiff, Nat.reduceAdd, Nat.reduceMul, reduceCtorEq, Nat.reduceLeDiff, Int.reduceLT, Int.reduceLE, Int.reduceToNat, Int.reduceEq, Nat.reduceLT, hx', hwa, undef_eq]
 refine ⟨by omega, k + j, ver' + 1, x', by omega, hj2, rfl, rfl, ?_, fun q hq => hxb q (hbx' q hq)⟩
 have e1 : (d.drop k).length - j = (d.drop (k + j)).length := by simp only [List.length_drop]; omega
 rw [← e1]
 exact wx'
theorem clone_app {σ : H} {v : Value} {n : Nat} {B : List Int} (h : MemV σ v n B) (hn : n ≤ 1000000) (h0 : 0 < n) :
  App Tryd.prog (.func 45) #[] #[v] σ fun w σ' => Old σ σ' ∧ ∃ b c ver, w = .slice (some ⟨b, 0, none⟩) n c ∧ σ.size ≤ b ∧ σ'[b]? = some (.cells ver (digC B) (0, 0)) ∧ CapOk 128 w := by
 refine App.of_sem mixed Tryd.func45 t45 k45 r45 (Nat.le_of_ble_eq_true rfl) ?_
 obtain ⟨a, c, rfl⟩ := h.w.slice
 obtain ⟨bk, bo, rfl, hr⟩ := h.w.at h0
 rw [← ap_nil (σ := σ)]
 unfold s45
 simp only [↓eD, eZ, ↓reduceIte, Nat.reduceEqDiff, Nat.reduceAdd, Nat.reduceMul, reduceCtorEq, Nat.reduceLeDiff, Int.reduceLT, Int.reduceLE, Int.reduceToNat, Int.reduceEq, Nat.reduceLT, undef_eq]
 refine onV_of (v := .bool false) rfl ?_
 simp only [↓eD, eZ, ↓reduceIte, Nat.reduceEqDiff, Nat.reduceAdd, Nat.reduceMul, reduceCtorEq, Nat.reduceLeDiff, Int.reduceLT, Int.reduceLE, Int.reduceToNat, Int.reduceEq, Nat.reduceLT, undef_eq]
 have hg0 : Grown σ (ap σ [.cells 0 [] (0, 0)]) 128 (.slice (some ⟨σ.size, 0, none⟩) 0 0) [] 0 := Grown.lit (ver := 0) rfl (by decide) (Nat.le_refl _) (by rw [ap_new0]; rfl)
 obtain ⟨w, σ', ha, A⟩ := append_grown (bytes := 128) hg0 (by omega) (by simp [ap_size]) (h.w.Old .ap).x (by rw [digC_length, h.l]; omega) digC_one (by omega) (by omega)
 refine onV_of ha ?_
 have ho := A.Old hg0 .ap
 have hg := A.grown
 rw [List.nil_append, Nat.zero_add] at hg
 obtain ⟨_, _, ⟨h1, _⟩ | ⟨b, ver, cap, g1, g2, rfl, g4⟩⟩ := id hg
 ·omega
 simp only [↓eD, eZ, ↓reduceIte, Nat.reduceEqDiff, Nat.reduceAdd, Nat.reduceMul, reduceCtorEq, Nat.reduceLeDiff, Int.reduceLT, Int.reduceLE, Int.reduceToNat, Int.reduceEq, Nat.reduceLT, undef_eq]
 exact ⟨ho, b, cap, ver, rfl, g1, g4, hg.cap⟩
theorem valid_app {σ : H} {v : Value} {n c : Nat} {a : Option Addr} (hv : v = .slice a n c) : App Tryd.prog (.func 44) #[] #[.agg #[v]] σ fun w σ' => σ' = σ ∧ w = .bool (decide (1 ≤ n ∧ n ≤ 64)) := by
 refine App.forget (App.of_sem mixed Tryd.func44 t44 k44 r44 (Nat.le_of_ble_eq_true rfl) ?_)
 subst hv
 rw [← ap_nil (σ := σ)]
 unfold s44
 have d1 : decide ((1:Int) ≤ (n:Int)) = decide (1 ≤ n) := decide_eq_decide.2 (by omega)
 have d2 : decide ((n:Int) ≤ 64) = decide (n ≤ 64) := decide_eq_decide.2 (by omega)
 by_cases h1 : 1 ≤ n
 ·have e1 : decide (1 ≤ n) = true := decide_eq_true h1
  have f : decide (1 ≤ n ∧ n ≤ 64) = decide (n ≤ 64) := decide_eq_decide.2 ⟨fun h => h.2, fun h => ⟨h1, h⟩⟩
  simp only [↓eD, eZ, ↓reduceIte, Nat.reduceEqDiff, Nat.reduceAdd, Nat.reduceMul, reduceCtorEq, Nat.reduceLeDiff, Int.reduceLT, Int.reduceLE, Int.reduceToNat, Int.reduceEq, Nat.reduceLT, d1, d2, e1, f, undef_eq]
  first | exact ⟨.ap, rfl⟩ | exact .ap
 ·have e1 : decide (1 ≤ n) = false := decide_eq_false h1
  have f : decide (1 ≤ n ∧ n ≤ 64) = false := decide_eq_false fun h => h1 h.1
  simp only [↓eD, eZ, ↓reduceIte, Nat.reduceEqDiff, Nat.reduceAdd, Nat.reduceMul, reduceCtorEq, Nat.reduceLeDiff, Int.reduceLT, Int.reduceLE, Int.reduceToNat, Int.reduceEq, Nat.reduceLT, d1, d2, e1, f, undef_eq]
  first | exact ⟨.ap, rfl⟩ | exact .ap
theorem size_app {σ : H} {n c : Nat} {a : Option Addr} (hn : n ≤ 1000000) : App Tryd.prog (.func 56) #[] #[.agg #[.slice a n c]] σ fun w σ' => σ' = σ ∧ w = .int .i64 ((n * 128 : Nat) : Int) := by
 refine App.forget (App.of_sem mixed Tryd.func56 t56 k56 r56 (Nat.le_of_ble_eq_true rfl) ?_)
 rw [← ap_nil (σ := σ)]
 unfold s56
 have w1 : IntKind.wrap .i64 ((n : Int) * 128) = ((n * 128 : Nat) : Int) := by rw [wrap64' (by omega) (by omega)]; omega
 simp only [↓eD, eZ, ↓reduceIte, Nat.reduceEqDiff, Nat.reduceAdd, Nat.reduceMul, reduceCtorEq, Nat.reduceLeDiff, Int.reduceLT, Int.reduceLE, Int.reduceToNat, Int.reduceEq, Nat.reduceLT, w1, undef_eq]
 first | exact ⟨.ap, rfl⟩ | exact .ap
def newN (p : Int) : Nat := if 1 ≤ p ∧ p ≤ 64 then p.toNat else 0
theorem new_app {σ : H} {p : Int} : App Tryd.prog (.func 32) #[] #[.int .i64 p] σ fun w σ' => Old σ σ' ∧ ∃ v, w = .tuple #[.agg #[v], .int .i64 (if 1 ≤ p ∧ p ≤ 64 then 0 else 1)] ∧ MemV σ' v (newN p) (List.replicate (128 * newN p) 0) ∧ v.oneCell' = true ∧ ∀ q, baseOf v = some q → σ.size ≤ q := by
 refine App.of_sem mixed Tryd.func32 t32 k32 r32 (Nat.le_of_ble_eq_true rfl) ?_
 rw [← ap_nil (σ := σ)]
 unfold s32 newN
 by_cases h1 : p < 1
 ·have d1 : decide (p < 1) = true := decide_eq_true h1
  have f : ¬(1 ≤ p ∧ p ≤ 64) := by omega
  simp only [↓eD, eZ, ↓reduceIte, Nat.reduceEqDiff, Nat.reduceAdd, Nat.reduceMul, reduceCtorEq, Nat.reduceLeDiff, Int.reduceLT, Int.reduceLE, Int.reduceToNat, Int.reduceEq, Nat.reduceLT, d1, if_neg f, undef_eq]
  exact ⟨.ap, _, rfl, ⟨⟨by simp [digC], .inl ⟨rfl, none, 0, rfl, by decide⟩⟩, by simp, fun x hx => by simp at hx⟩, rfl, fun q hq => by cases hq⟩
 have d1 : decide (p < 1) = false := decide_eq_false h1
 by_cases h2 : 64 < p
 ·have d2 : decide (64 < p) = true := decide_eq_true h2
  have f : ¬(1 ≤ p ∧ p ≤ 64) := by omega
  simp only [↓eD, eZ, ↓reduceIte, Nat.reduceEqDiff, Nat.reduceAdd, Nat.reduceMul, reduceCtorEq, Nat.reduceLeDiff, Int.reduceLT, Int.reduceLE, Int.reduceToNat, Int.reduceEq, Nat.reduceLT, d1, d2, if_neg f, undef_eq]
  exact ⟨.ap, _, rfl, ⟨⟨by simp [digC], .inl ⟨rfl, none, 0, rfl, by decide⟩⟩, by simp, fun x hx => by simp at hx⟩, rfl, fun q hq => by cases hq⟩
 have d2 : decide (64 < p) = false := decide_eq_false h2
 have f : 1 ≤ p ∧ p ≤ 64 := by omega
 obtain ⟨n, rfl⟩ : ∃ n : Nat, p = (n : Int) := ⟨p.toNat, by omega⟩
 rw [if_pos f, if_pos f]
 have hms : (0 ≤ (n : Int) ∧ (n : Int) ≤ (n : Int) ∧ ((128 : Nat) : Int) * (n : Int) ≤ 140737488355328 ∧ (n : Int) < 9223372036854775808) = True := eq_true (by omega)
 simp only [↓eD, eZ, ↓reduceIte, Nat.reduceEqDiff, Nat.reduceAdd, Nat.reduceMul, reduceCtorEq, Nat.reduceLeDiff, Int.reduceLT, Int.reduceLE, Int.reduceToNat, Int.reduceEq, Nat.reduceLT, d1, d2, hms, Int.toNat_natCast, undef_eq]
 have e : (List.replicate n (List.replicate 128 (Value.int .u8 0))).flatten = digC (List.replicate (128 * n) 0) := by
  rw [List.flatten_replicate_replicate, Nat.mul_comm]
  simp [digC]
 refine ⟨.ap, _, rfl, ⟨?_, by simp, fun x hx => by rw [(List.mem_replicate.1 hx).2]; omega⟩, rfl, fun q hq => by have h9 : some (σ.size + 1) = some q := hq; injection h9 with h9; omega⟩
 rw [e]
 refine (Grown.lit (σ0 := σ) (ver := 0) (b := σ.size + 1) (by rw [digC_length, List.length_replicate]; omega) (Nat.lt_of_le_of_lt (m := 64) (by omega) (by decide)) (by omega) (by rw [ap_new]; rfl)).whl
def wrOk (n : Nat) (at_ : Int) (s : ByteArray) : Bool := decide (0 ≤ at_ ∧ at_ ≤ 128 * n ∧ (s.size : Int) ≤ 128 * n - at_)
def wrB (n : Nat) (B : List Int) (at_ : Int) (s : ByteArray) : List Int := if wrOk n at_ s = true then putF B at_.toNat (strI s) else B
theorem wrB_len {n : Nat} {B : List Int} {at_ : Int} {s : ByteArray} (h : B.length = 128 * n) : (wrB n B at_ s).length = 128 * n := by
 unfold wrB
 split
 ·rename_i hh
  have := of_decide_eq_true hh
  rw [putF_len (by rw [strI_len]; omega), h]
 ·exact h
theorem wrB_byt {n : Nat} {B : List Int} {at_ : Int} {s : ByteArray} (h : Byt B) : Byt (wrB n B at_ s) := by
 unfold wrB
 split
 ·exact putF_byt h strI_byt
 ·exact h
theorem write_app {σ : H} {v : Value} {n : Nat} {B : List Int} {at_ : Int} {s : ByteArray} (h : MemV σ v n B) (hn : n ≤ 64) (h0 : 0 < n) (hat : -1000000000 ≤ at_) (hat2 : at_ ≤ 1000000000) :
  App Tryd.prog (.func 33) #[] #[.agg #[v], .int .i64 at_, .string s] σ fun w σ' => Old σ σ' ∧ ∃ v', w = .tuple #[.agg #[v'], .bool (wrOk n at_ s)] ∧ MemV σ' v' n (wrB n B at_ s) ∧ ∀ q, baseOf v' = some q → σ.size ≤ q ∨ baseOf v = some q := by
 refine App.of_sem mixed Tryd.func33 t33 k33 r33 (Nat.le_of_ble_eq_true rfl) ?_
 obtain ⟨a, c, rfl⟩ := h.w.slice
 rw [← ap_nil (σ := σ)]
 unfold s33
 have fin : ∀ M : List Blk, Old σ (ap σ M) := fun M => .ap
 by_cases g1 : at_ < 0
 ·have d1 : decide (at_ < 0) = true := decide_eq_true g1
  have f : wrOk n at_ s = false := decide_eq_false fun hh => by omega
  have fB : wrB n B at_ s = B := by unfold wrB; rw [f]; rfl
  simp only [↓eD, eZ, ↓reduceIte, Nat.reduceEqDiff, Nat.reduceAdd, Nat.reduceMul, reduceCtorEq, Nat.reduceLeDiff, Int.reduceLT, Int.reduceLE, Int.reduceToNat, Int.reduceEq, Nat.reduceLT, d1, f, undef_eq]
  rw [fB]
  exact ⟨fin _, _, rfl, h.Old (fin _), fun q hq => .inr hq⟩
 have d1 : decide (at_ < 0) = false := decide_eq_false g1
 simp only [↓eD, eZ, ↓reduceIte, Nat.reduceEqDiff, Nat.reduceAdd, Nat.reduceMul, reduceCtorEq, Nat.reduceLeDiff, Int.reduceLT, Int.reduceLE, Int.reduceToNat, Int.reduceEq, Nat.reduceLT, d1, undef_eq]
 refine appK_at (size_app (by omega)) ?_
 by_cases g2 : ((n * 128 : Nat) : Int) < at_
 ·have d2 : decide (((n * 128 : Nat) : Int) < at_) = true := decide_eq_true g2
  have f : wrOk n at_ s = false := decide_eq_false fun hh => by omega
  have fB : wrB n B at_ s = B := by unfold wrB; rw [f]; rfl
  simp only [↓eD, eZ, ↓reduceIte, Nat.reduceEqDiff, Nat.reduceAdd, Nat.reduceMul, reduceCtorEq, Nat.reduceLeDiff, Int.reduceLT, Int.reduceLE, Int.reduceToNat, Int.reduceEq, Nat.reduceLT, d2, f, undef_eq]
  rw [fB]
  exact ⟨fin _, _, rfl, h.Old (fin _), fun q hq => .inr hq⟩
 have d2 : decide (((n * 128 : Nat) : Int) < at_) = false := decide_eq_false g2
 simp only [↓eD, eZ, ↓reduceIte, Nat.reduceEqDiff, Nat.reduceAdd, Nat.reduceMul, reduceCtorEq, Nat.reduceLeDiff, Int.reduceLT, Int.reduceLE, Int.reduceToNat, Int.reduceEq, Nat.reduceLT, d2, undef_eq]
 refine appK_at (size_app (by omega)) ?_
 have ws : IntKind.wrap .i64 (((n * 128 : Nat) : Int) - at_) = ((n * 128 : Nat) : Int) - at_ := wrap64' (by omega) (by omega)
 by_cases g3 : ((n * 128 : Nat) : Int) - at_ < (s.size : Int)
 ·have d3 : decide (((n * 128 : Nat) : Int) - at_ < (s.size : Int)) = true := decide_eq_true g3
  have f : wrOk n at_ s = false := decide_eq_false fun hh => by omega
  have fB : wrB n B at_ s = B := by unfold wrB; rw [f]; rfl
  simp only [↓eD, eZ, ↓reduceIte, Nat.reduceEqDiff, Nat.reduceAdd, Nat.reduceMul, reduceCtorEq, Nat.reduceLeDiff, Int.reduceLT, Int.reduceLE, Int.reduceToNat, Int.reduceEq, Nat.reduceLT, ws, d3, f, undef_eq]
  rw [fB]
  exact ⟨fin _, _, rfl, h.Old (fin _), fun q hq => .inr hq⟩
 have d3 : decide (((n * 128 : Nat) : Int) - at_ < (s.size : Int)) = false := decide_eq_false g3
 have f : wrOk n at_ s = true := decide_eq_true (by omega)
 have fB : wrB n B at_ s = putF B at_.toNat (strI s) := by unfold wrB; rw [f]; rfl
 simp only [↓eD, eZ, ↓reduceIte, Nat.reduceEqDiff, Nat.reduceAdd, Nat.reduceMul, reduceCtorEq, Nat.reduceLeDiff, Int.reduceLT, Int.reduceLE, Int.reduceToNat, Int.reduceEq, Nat.reduceLT, ws, d3, undef_eq]
 refine appK_of (clone_app (h.Old .ap) (by omega) h0) ?_
 rintro _ σ2 ⟨o2, b, cc, ver, rfl, hb1, hb2, hcap⟩
 have hbig : (s.size < big) = True := eq_true (Nat.lt_of_le_of_lt (m := 8192) (by omega) (by decide))
 have b6 : σ2[σ.size + 1]? = some (.cells 0 [.slice none 0 0] (0, 0)) := (o2.2 _ (by rw [ap_size]; simp)).trans (by rw [ap_new]; rfl)
 have oS : Old σ σ2 := Old.ap.trans o2
 rw [← ap_nil (σ := σ2)]
 simp only [↓eD, eZ, ↓reduceIte, Nat.reduceEqDiff, Nat.reduceAdd, Nat.reduceMul, reduceCtorEq, Nat.reduceLeDiff, Int.reduceLT, Int.reduceLE, Int.reduceToNat, Int.reduceEq, Nat.reduceLT, hbig, byteCells_eq, undef_eq]
 obtain ⟨σ3, hσ3⟩ : ∃ σ3, σ3 = ap σ2 [.cells 1 [.slice (some ⟨b, 0, none⟩) n cc] (0, 0), .cells 0 (digC (strI s)) (0, 0)] := ⟨_, rfl⟩
 rw [← hσ3]
 have o3 : Old σ2 σ3 := by rw [hσ3]; exact .ap
 have hbs : b < σ2.size := (Array.getElem?_eq_some_iff.1 hb2).1
 have b3 : σ3[b]? = some (.cells ver (digC B) (0, 0)) := (o3.2 _ hbs).trans hb2
 have w3 : Whl σ3 1 (.slice (some ⟨σ2.size + 1, 0, none⟩) s.size (inex 1 s.size)) (strI s).length (digC (strI s)) := by
  have : Grown σ2 σ3 1 (.slice (some ⟨σ2.size + 1, 0, none⟩) s.size (inex 1 s.size)) (digC (strI s)) s.size :=
   ⟨by rw [digC_length, strI_len, Nat.mul_one], of_eq_true hbig, .inr ⟨σ2.size + 1, 0, _, by omega, .inl rfl, rfl, by rw [hσ3, ap_new]; rfl⟩⟩
  rw [strI_len]
  exact this.whl
 have p3 : σ3[σ2.size]? = some (.cells 1 [.slice (some ⟨b, 0, none⟩) n cc] (0, 0)) := by rw [hσ3, ap_new0]; rfl
 have b63 : σ3[σ.size + 1]? = some (.cells 0 [.slice none 0 0] (0, 0)) := (o3.2 _ (Array.getElem?_eq_some_iff.1 b6).1).trans b6
 have s3 : σ3.size = σ2.size + 2 := by rw [hσ3]; simp [ap_size]
 clear hσ3
 obtain ⟨N, rfl⟩ : ∃ N : Nat, at_ = (N : Int) := ⟨at_.toNat, by omega⟩
 rw [Int.toNat_natCast] at fB
 have h2s : σ.size + 2 ≤ b := by rw [ap_size] at hb1; simpa using hb1
 refine appK_of (put_app (at_ := N) b3 h.l w3 (fun q hq => by have h9 : some (σ2.size + 1) = some q := hq; injection h9 with h9; omega) (by rw [strI_len]; omega) (by omega)) ?_
 rintro _ σ4 ⟨rfl, g4, g5, ver', g6⟩
 have p4 : σ4[σ2.size]? = some (.cells 1 [.slice (some ⟨b, 0, none⟩) n cc] (0, 0)) := (g5 _ (by omega) (by omega)).trans p3
 have b64 : σ4[σ.size + 1]? = some (.cells 0 [.slice none 0 0] (0, 0)) := (g5 _ (by omega) (by omega)).trans b63
 have oS4 : Old σ σ4 := ⟨by have := oS.1; omega, fun q hq => by
  have h9 := oS.1
  rw [g5 q (by omega) (by omega), o3.2 q (by omega), oS.2 q hq]⟩
 have r4 := rd1_of p4 Old.refl (k := 0) rfl
 have k6 : wrN σ4 ⟨σ.size + 1, 0, none⟩ [.slice (some ⟨b, 0, none⟩) n cc] = some (σ4.setIfInBounds (σ.size + 1) (.cells 1 [.slice (some ⟨b, 0, none⟩) n cc] (0, 0))) := by
  rw [wrN_eq, if_neg (by simp), b64, wrc_cells, if_pos ⟨by simp, rfl⟩]
  rfl
 have r6 := rdN_all (n := 1) (get_set (k := .cells 1 [.slice (some ⟨b, 0, none⟩) n cc] (0, 0)) b64) rfl
 simp only [↓eD, eZ, ↓reduceIte, Nat.reduceEqDiff, Nat.reduceAdd, Nat.reduceMul, reduceCtorEq, Nat.reduceLeDiff, Int.reduceLT, Int.reduceLE, Int.reduceToNat, Int.reduceEq, Nat.reduceLT, r4, k6, r6, f, undef_eq]
 refine ⟨oS4.set (by omega), _, rfl, ⟨?_, wrB_len h.l, wrB_byt h.b⟩, fun q hq => .inl (by have h9 : some b = some q := hq; injection h9 with h9; omega)⟩
 rw [fB]
 have g7 : (σ4.setIfInBounds (σ.size + 1) (.cells 1 [.slice (some ⟨b, 0, none⟩) n cc] (0, 0)))[b]? = some (.cells ver' (digC (putF B N (strI s))) (0, 0)) := (get_set_ne (by omega)).trans g6
 have hc := hcap.slice
 refine ⟨by rw [digC_length, putF_len (by rw [strI_len, h.l]; omega), h.l]; omega, .inr ⟨b, 0, cc, rfl, hc, ?_⟩⟩
 exact rdN_all g7 (by rw [digC_length, putF_len (by rw [strI_len, h.l]; omega), h.l]; omega)
set_option maxHeartbeats 8000000
def numsI (I : Img) : List Int := [I.e, I.p, (I.D.length : Int)] ++ I.S.map Seg.at_
def strsI (I : Img) : List ByteArray := I.S.map Seg.data ++ I.D.map bytesS
def encI (I : Img) : List Int := intsF (numsI I) ++ stringsF (strsI I)
structure Img.fit (I : Img) : Prop where
 n1 : I.S.length ≤ 10000
 n2 : I.D.length ≤ 10000
 s : ∀ s ∈ I.S, s.data.size < 1000000
theorem strsI_small {I : Img} (hf : I.fit) (hd : ∀ d ∈ I.D, d.length = 128 ∧ Byt d) : (strsI I).length < 1000000 ∧ ∀ s ∈ strsI I, s.size < 1000000 := by
 have h1 := hf.n1
 have h2 := hf.n2
 refine ⟨by unfold strsI; rw [List.length_append, List.length_map, List.length_map]; omega, fun s hs => ?_⟩
 rcases List.mem_append.1 hs with hs | hs
 ·obtain ⟨x, hx, rfl⟩ := List.mem_map.1 hs; exact hf.s x hx
 ·obtain ⟨x, hx, rfl⟩ := List.mem_map.1 hs
  rw [bytesS_size', (hd x hx).1]; omega
theorem nums_small {I : Img} (hf : I.fit) : (numsI I).length < 10000000000 := by
 have h1 := hf.n1
 unfold numsI; rw [List.length_append, List.length_map]; simp; omega
theorem enc_parts {I : Img} (hf : I.fit) (hd : ∀ d ∈ I.D, d.length = 128 ∧ Byt d) : (intsF (numsI I)).length ≤ 1000000 ∧ (stringsF (strsI I)).length ≤ 30000000000 := by
 have h1 := hf.n1
 have h2 := hf.n2
 have hnl : (numsI I).length = 3 + I.S.length := by unfold numsI; rw [List.length_append, List.length_map]; rfl
 have hil := flat_len (f := intF) (l := numsI I) (i := (numsI I).length) fun x => intF_len
 have hil2 : (intF ((numsI I).length : Int)).length ≤ 10 := intF_len
 rw [List.take_length] at hil
 have hsl : (strsI I).length = I.S.length + I.D.length := by unfold strsI; rw [List.length_append, List.length_map, List.length_map]
 have e1 := flat_len_mem (f := bytesF) (l := strsI I) (i := (strsI I).length) (n := 1000010) (fun s hs => by
  have := bytesF_len7 (s := s)
  have := (strsI_small hf hd).2 s hs
  omega)
 rw [List.take_length] at e1
 have e2 : (intF ((strsI I).length : Int)).length ≤ 10 := intF_len
 have e3 : (strsI I).length * 1000010 ≤ 20000 * 1000010 := Nat.mul_le_mul_right _ (by omega)
 unfold intsF stringsF
 rw [List.length_append, List.length_append]
 omega
theorem lenc_app {σ : H} {l : List Value} {I : Img} {a1 a2 : Option Addr} {b1 b2 : Nat} (h : ImgR σ l I a1 b1 a2 b2) (hf : I.fit) :
  App Tryd.prog (.func 19) #[] #[.agg l.toArray] σ fun v σ' => Old σ σ' ∧ Grown σ σ' 1 v (digC (encI I)) (encI I).length := by
 refine App.of_sem mixed Tryd.func19 t19 k19 r19 (Nat.le_of_ble_eq_true rfl) ?_
 have hl := h.l
 subst hl
 have f1 := hf.n1
 have f2 := hf.n2
 rw [← ap_nil (σ := σ)]
 unfold s19
 simp only [↓eD, eZ, ↓reduceIte, Nat.reduceEqDiff, Nat.reduceAdd, Nat.reduceMul, reduceCtorEq, Nat.reduceLeDiff, Int.reduceLT, Int.reduceLE, Int.reduceToNat, Int.reduceEq, Nat.reduceLT, imgC, undef_eq]
 have hB : (ap σ [.cells 0 [.int .i64 I.e, .int .i64 I.p, .slice a1 I.S.length b1, .slice a2 I.D.length b2] (0, 0)]).size = σ.size + 1 := by simp [ap_size]
 have qB : (ap σ [.cells 0 [.int .i64 I.e, .int .i64 I.p, .slice a1 I.S.length b1, .slice a2 I.D.length b2] (0, 0)])[σ.size]? = some (.cells 0 [.int .i64 I.e, .int .i64 I.p, .slice a1 I.S.length b1, .slice a2 I.D.length b2] (0, 0)) := by rw [ap_new0]; rfl
 have oB : Old σ (ap σ [.cells 0 [.int .i64 I.e, .int .i64 I.p, .slice a1 I.S.length b1, .slice a2 I.D.length b2] (0, 0)]) := .ap
 have init : H2 (ap σ [.cells 0 [.int .i64 I.e, .int .i64 I.p, .slice a1 I.S.length b1, .slice a2 I.D.length b2] (0, 0)]) (ap σ [.cells 0 [.int .i64 I.e, .int .i64 I.p, .slice a1 I.S.length b1, .slice a2 I.D.length b2] (0, 0), .cells 0 [.int .i64 I.e, .int .i64 I.p, .int .i64 (I.D.length : Int)] (0, 0)]) (.slice (some ⟨σ.size + 1, 0, none⟩) 3 3) (.slice none 0 0) (i64C [I.e, I.p, (I.D.length : Int)]) [] := by
  refine ⟨⟨by simp [ap_size], fun c hc => ?_⟩, Grown.lit rfl (by decide) (by rw [hB]; omega) (by rw [ap_new]; rfl), .nil, fun c _ h => by cases h⟩
  rw [hB] at hc
  rcases Nat.lt_or_ge c σ.size with h1 | h1
  ·rw [ap_old h1, ap_old h1]
  ·have : c = σ.size := by omega
   subst this
   rw [ap_new0, ap_new0]; rfl
 generalize ap σ [.cells 0 [.int .i64 I.e, .int .i64 I.p, .slice a1 I.S.length b1, .slice a2 I.D.length b2] (0, 0)] = B at hB qB oB init
 refine loop_for (J := fun i e τ => i ≤ I.S.length ∧ ∃ v w, e = [(1, .pointer (some ⟨σ.size, 0, none⟩)), (3, v), (4, w), (18, .slice a1 I.S.length b1), (19, .int .i64 (I.S.length : Int)), (20, .int .i64 (i : Int))] ∧ H2 B τ v w (i64C ([I.e, I.p, (I.D.length : Int)] ++ (I.S.take i).map Seg.at_)) (((I.S.take i).map Seg.data).map Value.string)) I.S.length
  ⟨by omega, _, _, rfl, by simpa using init⟩ ?_
 clear init
 rintro i e τ hi ⟨_, v, w, rfl, hH⟩
 have hBτ := hH.old.1
 rw [hB] at hBτ
 by_cases hlt : i < I.S.length
 ·have dl : decide ((i : Int) < (I.S.length : Int)) = true := by rw [decide_eq_true]; omega
  have hbd : (0:Int) ≤ (i:Int) ∧ (i:Int) < (I.S.length : Int) := by omega
  have hw1 : IntKind.wrap .i64 ((i:Int) + 1) = ((i + 1 : Nat) : Int) := by rw [wrap64' (by omega) (by omega)]; omega
  have hx : (I.S.map segV)[i]? = some (segV I.S[i]) := by simp [hlt]
  obtain ⟨b', off, rfl, h1⟩ := (h.S.Old (oB.trans hH.old)).at hx
  have hr : ∀ M, rdN (ap τ M) ⟨b', off + i * 2, none⟩ 2 = some (segV I.S[i]) := fun M => rdN_old h1
  have ht := List.take_succ_eq_append_getElem hlt
  generalize hEi : I.S[i] = ei at hr ht
  rw [← ap_nil (σ := τ)]
  simp only [↓eD, eZ, ↓reduceIte, Nat.reduceEqDiff, Nat.reduceAdd, Nat.reduceMul, reduceCtorEq, Nat.reduceLeDiff, Int.reduceLT, Int.reduceLE, Int.reduceToNat, Int.reduceEq, Nat.reduceLT, dl, hbd, Int.toNat_natCast, hr, segV, undef_eq]
  have hnl : (([I.e, I.p, (I.D.length : Int)] ++ (I.S.take i).map Seg.at_)).length = 3 + i := by rw [List.length_append, List.length_map, List.length_take, Nat.min_eq_left (by omega)]; rfl
  have q0 : (ap τ [.cells 1 [.int .i64 ei.at_, .string ei.data] (0, 0), .cells 0 [.int .i64 ei.at_] (0, 0), .cells 0 [.string ei.data] (0, 0)])[τ.size]? = some (.cells 1 [.int .i64 ei.at_, .string ei.data] (0, 0)) := by rw [ap_new0]; rfl
  have q1 : (ap τ [.cells 1 [.int .i64 ei.at_, .string ei.data] (0, 0), .cells 0 [.int .i64 ei.at_] (0, 0), .cells 0 [.string ei.data] (0, 0)])[τ.size + 1]? = some (.cells 0 [.int .i64 ei.at_] (0, 0)) := by rw [ap_new]; rfl
  have q2 : (ap τ [.cells 1 [.int .i64 ei.at_, .string ei.data] (0, 0), .cells 0 [.int .i64 ei.at_] (0, 0), .cells 0 [.string ei.data] (0, 0)])[τ.size + 2]? = some (.cells 0 [.string ei.data] (0, 0)) := by rw [ap_new]; rfl
  have hH1 := hH.Old' (Old.ap (l := [.cells 1 [.int .i64 ei.at_, .string ei.data] (0, 0), .cells 0 [.int .i64 ei.at_] (0, 0), .cells 0 [.string ei.data] (0, 0)]))
  generalize ap τ [.cells 1 [.int .i64 ei.at_, .string ei.data] (0, 0), .cells 0 [.int .i64 ei.at_] (0, 0), .cells 0 [.string ei.data] (0, 0)] = T at q0 q1 q2 hH1 ⊢
  have bv : ∀ c, τ.size ≤ c → baseOf v ≠ some c := fun c hc hb => by have := (hH.gv.base hb).2; omega
  have bw : ∀ c, τ.size ≤ c → baseOf w ≠ some c := fun c hc hb => by have := (hH.gw.base hb).2; omega
  obtain ⟨v2, T2, ha, hH2, fr2, sz2⟩ := hH1.left (bytes := 8) (m := 1) (xc_of q1 rfl) rfl rfl (by rw [i64C_len, hnl]; omega) (by omega)
  refine onV_of ha ?_
  have p0 := get_of fr2 q0 (bv _ (Nat.le_refl _))
  have p2 := get_of fr2 q2 (bv _ (by omega))
  have r1 : rd1 T2 ⟨τ.size, 1, none⟩ = some (.string ei.data) := by rw [rd1_eq, p0]; rfl
  obtain ⟨w2, T3, hb, hH3, _, _⟩ := hH2.symm.left (bytes := 16) (m := 1) (xc_of p2 rfl) rfl rfl (by simp only [List.length_map, List.length_take]; omega) (by omega)
  simp only [↓eD, eZ, ↓reduceIte, Nat.reduceEqDiff, Nat.reduceAdd, Nat.reduceMul, reduceCtorEq, Nat.reduceLeDiff, Int.reduceLT, Int.reduceLE, Int.reduceToNat, Int.reduceEq, Nat.reduceLT, r1, undef_eq]
  refine onV_of hb ?_
  simp only [↓eD, eZ, ↓reduceIte, Nat.reduceEqDiff, Nat.reduceAdd, Nat.reduceMul, reduceCtorEq, Nat.reduceLeDiff, Int.reduceLT, Int.reduceLE, Int.reduceToNat, Int.reduceEq, Nat.reduceLT, hw1, undef_eq]
  refine ⟨hlt, by omega, v2, w2, rfl, ?_⟩
  have hfin := hH3.symm
  simp only [i64C, ht, List.map_append, List.map_cons, List.map_nil, List.cons_append, List.nil_append, List.append_nil, List.append_assoc] at hfin ⊢
  exact hfin
 have : i = I.S.length := by omega
 subst this
 have dl : decide ((I.S.length : Int) < (I.S.length : Int)) = false := by rw [decide_eq_false]; omega
 rw [List.take_length] at hH
 have g3 : rd1 τ ⟨σ.size, 3, none⟩ = some (.slice a2 I.D.length b2) := rd1_of qB hH.old rfl
 simp only [↓eD, eZ, ↓reduceIte, Nat.reduceEqDiff, Nat.reduceAdd, Nat.reduceMul, reduceCtorEq, Nat.reduceLeDiff, Int.reduceLT, Int.reduceLE, Int.reduceToNat, Int.reduceEq, Nat.reduceLT, dl, g3, undef_eq]
 refine loop_for (J := fun i e θ => i ≤ I.D.length ∧ ∃ v w, e = [(3, v), (4, w), (36, .slice a2 I.D.length b2), (37, .int .i64 (I.D.length : Int)), (38, .int .i64 (i : Int))] ∧ H2 B θ v w (i64C (numsI I)) (((I.S.map Seg.data) ++ (I.D.take i).map bytesS).map Value.string)) I.D.length
  ⟨by omega, v, w, rfl, by simpa [numsI] using hH⟩ ?_
 clear hH hi dl g3
 rintro i e θ hi ⟨_, v, w, rfl, hH⟩
 have hBθ := hH.old.1
 rw [hB] at hBθ
 by_cases hlt : i < I.D.length
 ·have dl : decide ((i : Int) < (I.D.length : Int)) = true := by rw [decide_eq_true]; omega
  have hbd : (0:Int) ≤ (i:Int) ∧ (i:Int) < (I.D.length : Int) := by omega
  have hw1 : IntKind.wrap .i64 ((i:Int) + 1) = ((i + 1 : Nat) : Int) := by rw [wrap64' (by omega) (by omega)]; omega
  have hx : (I.D.map digC)[i]? = some (digC I.D[i]) := by simp [hlt]
  obtain ⟨b', off, rfl, h1⟩ := (h.D.Old (oB.trans hH.old)).at hx
  have hr : ∀ M, rdN (ap θ M) ⟨b', off + i * 128, none⟩ 128 = some (digC I.D[i]) := fun M => rdN_old h1
  have ht := List.take_succ_eq_append_getElem hlt
  have hd := (h.d I.D[i] (by simp)).1
  generalize hEi : I.D[i] = d at hr ht hd
  have ld : (digC d).length = 128 := by rw [digC_length, hd]
  have sz : ∀ z : List Value, z.length = 128 → sets z 0 (digC d) = digC d := fun z hz => by rw [sets_all (by omega), ld]; simp [hz]
  have l128 : (List.replicate 128 (Value.int .u8 0)).length = 128 := List.length_replicate
  have td : (digC d).take 128 = digC d := List.take_of_length_le (by omega)
  have nd : (digC d = []) = False := eq_false fun h9 => by rw [h9] at ld; cases ld
  have sa : sliceArr 128 1 (.pointer (some ⟨θ.size, 0, none⟩)) none none none = some (.slice (some ⟨θ.size, 0, none⟩) 128 128) := rfl
  rw [← ap_nil (σ := θ)]
  simp only [↓eD, eZ, ↓reduceIte, Nat.reduceEqDiff, Nat.reduceAdd, Nat.reduceMul, reduceCtorEq, Nat.reduceLeDiff, Int.reduceLT, Int.reduceLE, Int.reduceToNat, Int.reduceEq, Nat.reduceLT, dl, hbd, Int.toNat_natCast, hr, ld, sz, l128, td, nd, digC_one, sa, Option.bind_some, bytesOf_dig, dig_str7, undef_eq]
  have q1 : (ap θ [.cells 1 (digC d) (0, 0), .cells 0 [.string (bytesS d)] (0, 0)])[θ.size + 1]? = some (.cells 0 [.string (bytesS d)] (0, 0)) := by rw [ap_new]; rfl
  have hH1 := hH.Old' (Old.ap (l := [.cells 1 (digC d) (0, 0), .cells 0 [.string (bytesS d)] (0, 0)]))
  obtain ⟨w2, T3, hb, hH3, _, _⟩ := hH1.symm.left (bytes := 16) (m := 1) (xc_of q1 rfl) rfl rfl (by simp only [List.length_map, List.length_append, List.length_take]; omega) (by omega)
  refine onV_of hb ?_
  simp only [↓eD, eZ, ↓reduceIte, Nat.reduceEqDiff, Nat.reduceAdd, Nat.reduceMul, reduceCtorEq, Nat.reduceLeDiff, Int.reduceLT, Int.reduceLE, Int.reduceToNat, Int.reduceEq, Nat.reduceLT, hw1, undef_eq]
  refine ⟨hlt, by omega, v, w2, rfl, ?_⟩
  have hfin := hH3.symm
  simp only [ht, List.map_append, List.map_cons, List.map_nil, List.append_assoc] at hfin ⊢
  exact hfin
 have : i = I.D.length := by omega
 subst this
 have dl : decide ((I.D.length : Int) < (I.D.length : Int)) = false := by rw [decide_eq_false]; omega
 rw [List.take_length] at hH
 have hST : (I.S.map Seg.data) ++ I.D.map bytesS = strsI I := rfl
 rw [hST] at hH
 simp only [↓eD, eZ, ↓reduceIte, Nat.reduceEqDiff, Nat.reduceAdd, Nat.reduceMul, reduceCtorEq, Nat.reduceLeDiff, Int.reduceLT, Int.reduceLE, Int.reduceToNat, Int.reduceEq, Nat.reduceLT, dl, undef_eq]
 have wN := hH.gv.whl
 rw [i64C_len] at wN
 refine appK_of (wints_app wN (nums_small hf) ?_) ?_
 ·intro n hn
  rcases List.mem_append.1 hn with hn | hn
  ·simp only [List.mem_cons, List.not_mem_nil, or_false] at hn
   have he := h.e
   have hp := h.p
   rcases hn with rfl | rfl | rfl
   ·exact he
   ·exact hp
   ·unfold I64; omega
  ·obtain ⟨s, hs, rfl⟩ := List.mem_map.1 hn
   exact (h.s s hs).1
 rintro vi θ2 ⟨ho2, hgi⟩
 have hH2 := hH.Old' ho2
 have wD := hH2.gw.whl
 rw [List.length_map] at wD
 simp only [↓eD, eZ, ↓reduceIte, Nat.reduceEqDiff, Nat.reduceAdd, Nat.reduceMul, reduceCtorEq, Nat.reduceLeDiff, Int.reduceLT, Int.reduceLE, Int.reduceToNat, Int.reduceEq, Nat.reduceLT, undef_eq]
 obtain ⟨sm1, sm2⟩ := strsI_small hf h.d
 refine appK_of (wstrs_app wD sm1 sm2) ?_
 rintro vs θ3 ⟨ho3, hgs⟩
 obtain ⟨p1, p2⟩ := enc_parts hf h.d
 simp only [↓eD, eZ, ↓reduceIte, Nat.reduceEqDiff, Nat.reduceAdd, Nat.reduceMul, reduceCtorEq, Nat.reduceLeDiff, Int.reduceLT, Int.reduceLE, Int.reduceToNat, Int.reduceEq, Nat.reduceLT, undef_eq]
 have hgi3 := hgi.old ho3
 have hθ : θ.size ≤ θ3.size := Nat.le_trans ho2.1 ho3.1
 obtain ⟨v', σ', ha, A⟩ := append_grown (bytes := 1) hgi3 (by omega) hθ hgs.whl.x (by rw [digC_length]; omega) digC_one (by omega) (by omega)
 refine onV_of ha ?_
 simp only [↓eD, eZ, ↓reduceIte, Nat.reduceEqDiff, Nat.reduceAdd, Nat.reduceMul, reduceCtorEq, Nat.reduceLeDiff, Int.reduceLT, Int.reduceLE, Int.reduceToNat, Int.reduceEq, Nat.reduceLT, undef_eq]
 have oθ : Old σ θ := oB.trans hH.old
 have oF : Old σ σ' := A.Old' hgi3 oθ.1 ((oθ.trans ho2).trans ho3)
 have hgf := A.grown.from (σ0 := σ) oθ.1
 rw [← digC_app, ← List.length_append] at hgf
 exact ⟨oF, hgf⟩
theorem renc_app {σ : H} {l : List Value} {I : Img} {a1 a2 : Option Addr} {b1 b2 : Nat} (h : ImgR σ l I a1 b1 a2 b2) (hf : I.fit) :
  App Tryd.prog (.func 20) #[] #[.agg l.toArray] σ fun v σ' => Old σ σ' ∧ Grown σ σ' 1 v (digC (encI I)) (encI I).length := by
 refine App.of_sem mixed Tryd.func20 t20 k20 r20 (Nat.le_of_ble_eq_true rfl) ?_
 have hl := h.l
 subst hl
 have f1 := hf.n1
 have f2 := hf.n2
 rw [← ap_nil (σ := σ)]
 unfold s20
 simp only [↓eD, eZ, ↓reduceIte, Nat.reduceEqDiff, Nat.reduceAdd, Nat.reduceMul, reduceCtorEq, Nat.reduceLeDiff, Int.reduceLT, Int.reduceLE, Int.reduceToNat, Int.reduceEq, Nat.reduceLT, imgC, undef_eq]
 have hB : (ap σ [.cells 0 [.int .i64 I.e, .int .i64 I.p, .slice a1 I.S.length b1, .slice a2 I.D.length b2] (0, 0)]).size = σ.size + 1 := by simp [ap_size]
 have qB : (ap σ [.cells 0 [.int .i64 I.e, .int .i64 I.p, .slice a1 I.S.length b1, .slice a2 I.D.length b2] (0, 0)])[σ.size]? = some (.cells 0 [.int .i64 I.e, .int .i64 I.p, .slice a1 I.S.length b1, .slice a2 I.D.length b2] (0, 0)) := by rw [ap_new0]; rfl
 have oB : Old σ (ap σ [.cells 0 [.int .i64 I.e, .int .i64 I.p, .slice a1 I.S.length b1, .slice a2 I.D.length b2] (0, 0)]) := .ap
 have init : H2 (ap σ [.cells 0 [.int .i64 I.e, .int .i64 I.p, .slice a1 I.S.length b1, .slice a2 I.D.length b2] (0, 0)]) (ap σ [.cells 0 [.int .i64 I.e, .int .i64 I.p, .slice a1 I.S.length b1, .slice a2 I.D.length b2] (0, 0), .cells 0 [.int .i64 I.e, .int .i64 I.p, .int .i64 (I.D.length : Int)] (0, 0)]) (.slice (some ⟨σ.size + 1, 0, none⟩) 3 3) (.slice none 0 0) (i64C [I.e, I.p, (I.D.length : Int)]) [] := by
  refine ⟨⟨by simp [ap_size], fun c hc => ?_⟩, Grown.lit rfl (by decide) (by rw [hB]; omega) (by rw [ap_new]; rfl), .nil, fun c _ h => by cases h⟩
  rw [hB] at hc
  rcases Nat.lt_or_ge c σ.size with h1 | h1
  ·rw [ap_old h1, ap_old h1]
  ·have : c = σ.size := by omega
   subst this
   rw [ap_new0, ap_new0]; rfl
 generalize ap σ [.cells 0 [.int .i64 I.e, .int .i64 I.p, .slice a1 I.S.length b1, .slice a2 I.D.length b2] (0, 0)] = B at hB qB oB init
 refine loop_for (J := fun i e τ => i ≤ I.S.length ∧ ∃ v w, e = [(1, .pointer (some ⟨σ.size, 0, none⟩)), (3, v), (4, w), (5, .int .i64 (i : Int))] ∧ H2 B τ v w (i64C ([I.e, I.p, (I.D.length : Int)] ++ (I.S.take i).map Seg.at_)) (((I.S.take i).map Seg.data).map Value.string)) I.S.length
  ⟨by omega, _, _, rfl, by simpa using init⟩ ?_
 clear init
 rintro i e τ hi ⟨_, v, w, rfl, hH⟩
 have hBτ := hH.old.1
 rw [hB] at hBτ
 have g2 : ∀ M, rd1 (ap τ M) ⟨σ.size, 2, none⟩ = some (.slice a1 I.S.length b1) := fun M => rd1_of qB (hH.old.trans .ap) rfl
 by_cases hlt : i < I.S.length
 ·have dl : decide ((i : Int) < (I.S.length : Int)) = true := by rw [decide_eq_true]; omega
  have hbd : (0:Int) ≤ (i:Int) ∧ (i:Int) < (I.S.length : Int) := by omega
  have hw1 : IntKind.wrap .i64 ((i:Int) + 1) = ((i + 1 : Nat) : Int) := by rw [wrap64' (by omega) (by omega)]; omega
  have hx : (I.S.map segV)[i]? = some (segV I.S[i]) := by simp [hlt]
  obtain ⟨b', off, rfl, h1⟩ := (h.S.Old (oB.trans hH.old)).at hx
  have ht := List.take_succ_eq_append_getElem hlt
  generalize hEi : I.S[i] = ei at h1 ht
  have hr0 : ∀ M, rd1 (ap τ M) ⟨b', off + i * 2, none⟩ = some (.int .i64 ei.at_) := fun M => rd1_row (rdN_old h1) (j := 0) rfl
  rw [← ap_nil (σ := τ)]
  simp only [↓eD, eZ, ↓reduceIte, Nat.reduceEqDiff, Nat.reduceAdd, Nat.reduceMul, reduceCtorEq, Nat.reduceLeDiff, Int.reduceLT, Int.reduceLE, Int.reduceToNat, Int.reduceEq, Nat.reduceLT, g2, dl, hbd, Int.toNat_natCast, hr0, undef_eq]
  have hnl : (([I.e, I.p, (I.D.length : Int)] ++ (I.S.take i).map Seg.at_)).length = 3 + i := by rw [List.length_append, List.length_map, List.length_take, Nat.min_eq_left (by omega)]; rfl
  have q1 : (ap τ [.cells 0 [.int .i64 ei.at_] (0, 0)])[τ.size]? = some (.cells 0 [.int .i64 ei.at_] (0, 0)) := by rw [ap_new0]; rfl
  have hH1 := hH.Old' (Old.ap (l := [.cells 0 [.int .i64 ei.at_] (0, 0)]))
  obtain ⟨v2, T2, ha, hH2, fr2, sz2⟩ := hH1.left (bytes := 8) (m := 1) (xc_of q1 rfl) rfl rfl (by rw [i64C_len, hnl]; omega) (by omega)
  refine onV_of ha ?_
  have g2' : ∀ M, rd1 (ap T2 M) ⟨σ.size, 2, none⟩ = some (.slice (some ⟨b', off, none⟩) I.S.length b1) := fun M => rd1_of qB (hH2.old.trans .ap) rfl
  have hr1 : ∀ M, rd1 (ap T2 M) ⟨b', off + i * 2 + 1, none⟩ = some (.string ei.data) := fun M => by
   have h9 := (h.S.Old (oB.trans hH2.old)).at hx
   obtain ⟨_, _, hq, h8⟩ := h9
   injection hq with hq
   injection hq with q1 q2
   subst q1 q2
   rw [hEi] at h8
   exact rd1_row (rdN_old h8) (j := 1) rfl
  rw [← ap_nil (σ := T2)]
  simp only [↓eD, eZ, ↓reduceIte, Nat.reduceEqDiff, Nat.reduceAdd, Nat.reduceMul, reduceCtorEq, Nat.reduceLeDiff, Int.reduceLT, Int.reduceLE, Int.reduceToNat, Int.reduceEq, Nat.reduceLT, g2', hbd, Int.toNat_natCast, hr1, undef_eq]
  have q2 : (ap T2 [.cells 0 [.string ei.data] (0, 0)])[T2.size]? = some (.cells 0 [.string ei.data] (0, 0)) := by rw [ap_new0]; rfl
  have hH2' := hH2.Old' (Old.ap (l := [.cells 0 [.string ei.data] (0, 0)]))
  obtain ⟨w2, T3, hb, hH3, _, _⟩ := hH2'.symm.left (bytes := 16) (m := 1) (xc_of q2 rfl) rfl rfl (by simp only [List.length_map, List.length_take]; omega) (by omega)
  refine onV_of hb ?_
  simp only [↓eD, eZ, ↓reduceIte, Nat.reduceEqDiff, Nat.reduceAdd, Nat.reduceMul, reduceCtorEq, Nat.reduceLeDiff, Int.reduceLT, Int.reduceLE, Int.reduceToNat, Int.reduceEq, Nat.reduceLT, hw1, undef_eq]
  refine ⟨hlt, by omega, v2, w2, rfl, ?_⟩
  have hfin := hH3.symm
  simp only [i64C, ht, List.map_append, List.map_cons, List.map_nil, List.cons_append, List.nil_append, List.append_nil, List.append_assoc] at hfin ⊢
  exact hfin
 have : i = I.S.length := by omega
 subst this
 have dl : decide ((I.S.length : Int) < (I.S.length : Int)) = false := by rw [decide_eq_false]; omega
 rw [List.take_length] at hH
 rw [← ap_nil (σ := τ)]
 simp only [↓eD, eZ, ↓reduceIte, Nat.reduceEqDiff, Nat.reduceAdd, Nat.reduceMul, reduceCtorEq, Nat.reduceLeDiff, Int.reduceLT, Int.reduceLE, Int.reduceToNat, Int.reduceEq, Nat.reduceLT, g2, dl, undef_eq]
 rw [ap_nil]
 refine loop_for (J := fun i e θ => i ≤ I.D.length ∧ ∃ v w, e = [(1, .pointer (some ⟨σ.size, 0, none⟩)), (3, v), (4, w), (6, .int .i64 (i : Int))] ∧ H2 B θ v w (i64C (numsI I)) (((I.S.map Seg.data) ++ (I.D.take i).map bytesS).map Value.string)) I.D.length
  ⟨by omega, v, w, rfl, by simpa [numsI] using hH⟩ ?_
 clear hH hi dl g2
 rintro i e θ hi ⟨_, v, w, rfl, hH⟩
 have hBθ := hH.old.1
 rw [hB] at hBθ
 have g3 : ∀ M, rd1 (ap θ M) ⟨σ.size, 3, none⟩ = some (.slice a2 I.D.length b2) := fun M => rd1_of qB (hH.old.trans .ap) rfl
 by_cases hlt : i < I.D.length
 ·have dl : decide ((i : Int) < (I.D.length : Int)) = true := by rw [decide_eq_true]; omega
  have hbd : (0:Int) ≤ (i:Int) ∧ (i:Int) < (I.D.length : Int) := by omega
  have hw1 : IntKind.wrap .i64 ((i:Int) + 1) = ((i + 1 : Nat) : Int) := by rw [wrap64' (by omega) (by omega)]; omega
  have hx : (I.D.map digC)[i]? = some (digC I.D[i]) := by simp [hlt]
  obtain ⟨b', off, rfl, h1⟩ := (h.D.Old (oB.trans hH.old)).at hx
  have ht := List.take_succ_eq_append_getElem hlt
  have hd := (h.d I.D[i] (by simp)).1
  generalize hEi : I.D[i] = d at h1 ht hd
  have hr : ∀ M, rdN (ap θ M) ⟨b', off + i * 128, none⟩ 128 = some (digC d) := fun M => rdN_old h1
  have sa : sliceArr 128 1 (.pointer (some ⟨b', off + i * 128, none⟩)) none none none = some (.slice (some ⟨b', off + i * 128, none⟩) 128 128) := rfl
  rw [← ap_nil (σ := θ)]
  simp only [↓eD, eZ, ↓reduceIte, Nat.reduceEqDiff, Nat.reduceAdd, Nat.reduceMul, reduceCtorEq, Nat.reduceLeDiff, Int.reduceLT, Int.reduceLE, Int.reduceToNat, Int.reduceEq, Nat.reduceLT, g3, dl, hbd, Int.toNat_natCast, sa, hr, Option.bind_some, bytesOf_dig, dig_str7, undef_eq]
  have q1 : (ap θ [.cells 0 [.string (bytesS d)] (0, 0)])[θ.size]? = some (.cells 0 [.string (bytesS d)] (0, 0)) := by rw [ap_new0]; rfl
  have hH1 := hH.Old' (Old.ap (l := [.cells 0 [.string (bytesS d)] (0, 0)]))
  obtain ⟨w2, T3, hb, hH3, _, _⟩ := hH1.symm.left (bytes := 16) (m := 1) (xc_of q1 rfl) rfl rfl (by simp only [List.length_map, List.length_append, List.length_take]; omega) (by omega)
  refine onV_of hb ?_
  simp only [↓eD, eZ, ↓reduceIte, Nat.reduceEqDiff, Nat.reduceAdd, Nat.reduceMul, reduceCtorEq, Nat.reduceLeDiff, Int.reduceLT, Int.reduceLE, Int.reduceToNat, Int.reduceEq, Nat.reduceLT, hw1, undef_eq]
  refine ⟨hlt, by omega, v, w2, rfl, ?_⟩
  have hfin := hH3.symm
  simp only [ht, List.map_append, List.map_cons, List.map_nil, List.append_assoc] at hfin ⊢
  exact hfin
 have : i = I.D.length := by omega
 subst this
 have dl : decide ((I.D.length : Int) < (I.D.length : Int)) = false := by rw [decide_eq_false]; omega
 rw [List.take_length] at hH
 have hST : (I.S.map Seg.data) ++ I.D.map bytesS = strsI I := rfl
 rw [hST] at hH
 have g3' := g3 []
 rw [ap_nil] at g3'
 simp only [↓eD, eZ, ↓reduceIte, Nat.reduceEqDiff, Nat.reduceAdd, Nat.reduceMul, reduceCtorEq, Nat.reduceLeDiff, Int.reduceLT, Int.reduceLE, Int.reduceToNat, Int.reduceEq, Nat.reduceLT, g3', dl, undef_eq]
 have wN := hH.gv.whl
 rw [i64C_len] at wN
 refine appK_of (ints_app wN (nums_small hf)) ?_
 rintro vi θ2 ⟨ho2, hgi⟩
 have hH2 := hH.Old' ho2
 have wD := hH2.gw.whl
 rw [List.length_map] at wD
 simp only [↓eD, eZ, ↓reduceIte, Nat.reduceEqDiff, Nat.reduceAdd, Nat.reduceMul, reduceCtorEq, Nat.reduceLeDiff, Int.reduceLT, Int.reduceLE, Int.reduceToNat, Int.reduceEq, Nat.reduceLT, undef_eq]
 obtain ⟨sm1, sm2⟩ := strsI_small hf h.d
 refine appK_of (rstrs_app wD sm1 sm2) ?_
 rintro vs θ3 ⟨ho3, hgs⟩
 obtain ⟨p1, p2⟩ := enc_parts hf h.d
 simp only [↓eD, eZ, ↓reduceIte, Nat.reduceEqDiff, Nat.reduceAdd, Nat.reduceMul, reduceCtorEq, Nat.reduceLeDiff, Int.reduceLT, Int.reduceLE, Int.reduceToNat, Int.reduceEq, Nat.reduceLT, undef_eq]
 have hgi3 := hgi.old ho3
 have hθ : θ.size ≤ θ3.size := Nat.le_trans ho2.1 ho3.1
 obtain ⟨v', σ', ha, A⟩ := append_grown (bytes := 1) hgi3 (by omega) hθ hgs.whl.x (by rw [digC_length]; omega) digC_one (by omega) (by omega)
 refine onV_of ha ?_
 simp only [↓eD, eZ, ↓reduceIte, Nat.reduceEqDiff, Nat.reduceAdd, Nat.reduceMul, reduceCtorEq, Nat.reduceLeDiff, Int.reduceLT, Int.reduceLE, Int.reduceToNat, Int.reduceEq, Nat.reduceLT, undef_eq]
 have oθ : Old σ θ := oB.trans hH.old
 have oF : Old σ σ' := A.Old' hgi3 oθ.1 ((oθ.trans ho2).trans ho3)
 have hgf := A.grown.from (σ0 := σ) oθ.1
 rw [← digC_app, ← List.length_append] at hgf
 exact ⟨oF, hgf⟩
theorem grown_str {σ0 σ : H} {a : Option Addr} {n c : Nat} {d : List Int} (h : Grown σ0 σ 1 (.slice a n c) (digC d) n) (hn : 0 < n) : ∃ k o, a = some ⟨k, o, none⟩ ∧ rdN σ ⟨k, o, none⟩ n = some (digC d) := by
 obtain ⟨k, o, h1, h2⟩ := h.whl.at hn
 rw [Nat.mul_one] at h2
 exact ⟨k, o, h1, h2⟩
theorem encI_pos {I : Img} : 0 < (encI I).length := by
 unfold encI intsF
 rw [List.length_append, List.length_append]
 have := intF_one (n := ((numsI I).length : Int))
 omega
theorem rsame_app {σ : H} {l m : List Value} {I J : Img} {a1 a2 p1 p2 : Option Addr} {b1 b2 q1 q2 : Nat} (h : ImgR σ l I a1 b1 a2 b2) (hf : I.fit) (h' : ImgR σ m J p1 q1 p2 q2) (hf' : J.fit) :
  App Tryd.prog (.func 27) #[] #[.agg l.toArray, .agg m.toArray] σ fun v σ' => σ' = σ ∧ v = .bool (decide (bytesS (encI I) = bytesS (encI J))) := by
 refine App.forget (App.of_sem mixed Tryd.func27 t27 k27 r27 (Nat.le_of_ble_eq_true rfl) ?_)
 have ll : l.length = 4 := by rw [h.l]; rfl
 have lm : m.length = 4 := by rw [h'.l]; rfl
 have tl : l.take 4 = l := List.take_of_length_le (by omega)
 have tm : m.take 4 = m := List.take_of_length_le (by omega)
 rw [← ap_nil (σ := σ)]
 unfold s27
 simp only [↓eD, eZ, ↓reduceIte, Nat.reduceEqDiff, Nat.reduceAdd, Nat.reduceMul, reduceCtorEq, Nat.reduceLeDiff, Int.reduceLT, Int.reduceLE, Int.reduceToNat, Int.reduceEq, Nat.reduceLT, ll, lm, tl, tm, undef_eq]
 refine appK_of (renc_app (h.Old .ap) hf) ?_
 rintro v σ1 ⟨o1, g1⟩
 have x3 : rdN σ1 ⟨σ.size + 1, 0, none⟩ 4 = some m := rdN_all (ver := 0) ((o1.2 _ (by rw [ap_size]; simp)).trans (by rw [ap_new]; rfl)) lm
 obtain ⟨ka, kc, rfl⟩ := g1.slice
 obtain ⟨k, o, rfl, hr⟩ := grown_str g1 encI_pos
 have oS : Old σ σ1 := Old.ap.trans o1
 simp only [↓eD, eZ, ↓reduceIte, Nat.reduceEqDiff, Nat.reduceAdd, Nat.reduceMul, reduceCtorEq, Nat.reduceLeDiff, Int.reduceLT, Int.reduceLE, Int.reduceToNat, Int.reduceEq, Nat.reduceLT, x3, hr, Option.bind_some, bytesOf_dig, dig_str7, undef_eq]
 refine appK_of (renc_app (h'.Old oS) hf') ?_
 rintro v σ2 ⟨o2, g2⟩
 obtain ⟨ka2, kc2, rfl⟩ := g2.slice
 obtain ⟨k2, o2', rfl, hr2⟩ := grown_str g2 encI_pos
 have hr1 := rdN_Old o2 hr
 simp only [↓eD, eZ, ↓reduceIte, Nat.reduceEqDiff, Nat.reduceAdd, Nat.reduceMul, reduceCtorEq, Nat.reduceLeDiff, Int.reduceLT, Int.reduceLE, Int.reduceToNat, Int.reduceEq, Nat.reduceLT, hr1, hr2, Option.bind_some, bytesOf_dig, dig_str7, undef_eq]
 first | exact ⟨oS.trans o2, rfl, rfl⟩ | exact ⟨oS.trans o2, rfl⟩
end Go.Proofs.YtajchhghjjlahaaDoor
