/- Walks of the functions that the claim reaches. Conditions: none. -/
import Derived.Test.YtjgbbhfihcmphaaDoorHc
set_option linter.all false
set_option maxRecDepth 10000
set_option maxHeartbeats 2000000
namespace Go.Proofs.YtjgbbhfihcmphaaDoor
open Go Go.Cn Go.RowKit
attribute [local irreducible] evL sem onG onI onV
def strm (st blk : List Int) (n : Int) : List Value := u32C st ++ (digC blk ++ [.int .u64 n])
theorem strm_len {st blk : List Int} {n : Int} (h1 : st.length = 8) (h2 : blk.length = 64) : (strm st blk n).length = 73 := by simp [strm, u32C, digC, h1, h2]
theorem strm_one {st blk : List Int} {n : Int} : (strm st blk n).all Value.oneCell' = true := by simp [strm, u32C_one, digC_one, Value.oneCell']
theorem strm_n {st blk : List Int} {n : Int} (h1 : st.length = 8) (h2 : blk.length = 64) : (strm st blk n)[72]? = some (.int .u64 n) := by
 unfold strm
 rw [List.getElem?_append_right (by simp [u32C, h1]), List.getElem?_append_right (by simp [u32C, digC, h1, h2])]
 simp [u32C, digC, h1, h2]
theorem strm_st {st blk : List Int} {n : Int} (h1 : st.length = 8) : ((strm st blk n).drop 0).take 8 = u32C st := by
 unfold strm
 rw [List.drop_zero, List.take_append_of_le_length (by simp [u32C, h1]), List.take_of_length_le (by simp [u32C, h1])]
theorem strm_blk {st blk : List Int} {n : Int} (h1 : st.length = 8) (h2 : blk.length = 64) : ((strm st blk n).drop 8).take 64 = digC blk := by
 unfold strm
 rw [List.drop_append, List.drop_of_length_le (by simp [u32C, h1]), show 8 - (u32C st).length = 0 by simp [u32C, h1], List.nil_append, List.drop_zero,
  List.take_append_of_le_length (by simp [digC, h2]), List.take_of_length_le (by simp [digC, h2])]
theorem strm_set_n {st blk : List Int} {n n' : Int} (h1 : st.length = 8) (h2 : blk.length = 64) : sets (strm st blk n) 72 [.int .u64 n'] = strm st blk n' := by
 rw [sets_all (by simp [strm_len h1 h2])]
 unfold strm
 have e1 : (u32C st ++ (digC blk ++ [Value.int .u64 n])).take 72 = u32C st ++ digC blk := by
  rw [← List.append_assoc, List.take_append_of_le_length (by simp [u32C, digC, h1, h2]), List.take_of_length_le (by simp [u32C, digC, h1, h2])]
 rw [e1, List.drop_of_length_le (by simp [u32C, digC, h1, h2])]
 simp
theorem strm_set_st {st blk st' : List Int} {n : Int} (h1 : st.length = 8) (h2 : st'.length = 8) : sets (strm st blk n) 0 (u32C st') = strm st' blk n := by
 rw [sets_all (by simp [strm, u32C, h1, h2])]
 unfold strm
 rw [List.take_zero, List.nil_append, Nat.zero_add, show (u32C st').length = (u32C st).length by simp [u32C, h1, h2], List.drop_left]
theorem strm_set_blk {st blk new : List Int} {n : Int} {at_ : Nat} (h1 : st.length = 8) (h2 : blk.length = 64) (h : at_ + new.length ≤ 64) :
  sets (strm st blk n) (8 + at_) (digC new) = strm st (blk.take at_ ++ new ++ blk.drop (at_ + new.length)) n := by
 rw [sets_all (by rw [strm_len h1 h2, digC_length]; omega)]
 unfold strm
 have e1 : (u32C st ++ (digC blk ++ [Value.int .u64 n])).take (8 + at_) = u32C st ++ digC (blk.take at_) := by
  rw [List.take_append, List.take_of_length_le (by simp [u32C, h1]), show 8 + at_ - (u32C st).length = at_ by simp [u32C, h1], List.take_append_of_le_length (by simp [digC, h2]; omega)]
  simp [digC]
 have e2 : (u32C st ++ (digC blk ++ [Value.int .u64 n])).drop (8 + at_ + (digC new).length) = digC (blk.drop (at_ + new.length)) ++ [.int .u64 n] := by
  rw [digC_length, List.drop_append, List.drop_of_length_le (by simp [u32C, h1]; omega), List.nil_append, show 8 + at_ + new.length - (u32C st).length = at_ + new.length by simp [u32C, h1]; omega, List.drop_append_of_le_length (by simp [digC, h2]; omega)]
  simp [digC]
 rw [e1, e2]
 simp [digC]
structure IsS (cs : List Value) (m : List Int) : Prop where
 ex : ∃ blk, cs = strm (sF m (m.length / 64)) blk (m.length : Int) ∧ blk.length = 64 ∧ Byt blk ∧ blk.take (m.length % 64) = m.drop (64 * (m.length / 64))
theorem sF_app {m m' : List Int} : ∀ {k : Nat}, 64 * k ≤ m.length → sF (m ++ m') k = sF m k
 |0, _ => rfl
 |k + 1, h => by
  rw [sF, sF, sF_app (by omega), List.drop_append_of_le_length (by omega), List.take_append_of_le_length (by simp; omega)]
theorem strI_byt {s : ByteArray} : Byt (strI s) := by
 intro x hx
 obtain ⟨b, _, rfl⟩ := List.mem_map.1 hx
 have := b.toNat_lt
 omega
theorem strI_extract {s : ByteArray} {a b : Nat} (h : b ≤ s.size) : strI (s.extract a b) = ((strI s).drop a).take (b - a) := by
 simp [strI, ByteArray.data_extract, List.extract_eq_take_drop, List.map_take, List.map_drop]
theorem str_empty {s : ByteArray} : decide (s = ⟨#[]⟩) = decide (s.size = 0) := by
 by_cases h : s.size = 0
 ·have : s = ⟨#[]⟩ := by
   obtain ⟨d⟩ := s
   congr 1
   exact Array.eq_empty_of_size_eq_zero h
  subst this
  rfl
 ·rw [decide_eq_false h, decide_eq_false]
  intro h2
  subst h2
  exact h rfl
theorem begin_app {σ : H} : App Tryd.prog (.func 61) #[] #[] σ fun v σ' => σ' = σ ∧ ∃ cs, v = .agg cs.toArray ∧ IsS cs [] := by
 refine App.forget (App.of_sem mixed Tryd.func61 t61 k61 r61 (Nat.le_of_ble_eq_true rfl) ?_)
 rw [← ap_nil (σ := σ)]
 unfold s61
 have rep8 : List.replicate 8 (Value.int .u32 0) = [.int .u32 0, .int .u32 0, .int .u32 0, .int .u32 0, .int .u32 0, .int .u32 0, .int .u32 0, .int .u32 0] := rfl
 simp only [↓eD, eZ, ↓reduceIte, Nat.reduceEqDiff, Nat.reduceAdd, Nat.reduceMul, reduceCtorEq, Nat.reduceLeDiff, Int.reduceLT, Int.reduceLE, Int.reduceToNat, Int.reduceEq, Nat.reduceLT, rep8]
 refine ⟨.ap, by simp [flat, flat.flat1], strm s0 (List.replicate 64 0) 0, rfl, ⟨List.replicate 64 0, rfl, by simp, ?_, rfl⟩⟩
 intro x hx
 have := List.eq_of_mem_replicate hx
 omega
theorem IsS.len {cs : List Value} {m : List Int} (h : IsS cs m) : cs.length = 73 := by
 obtain ⟨blk, rfl, h1, _⟩ := h.ex
 exact strm_len sF_len h1
theorem IsS.one {cs : List Value} {m : List Int} (h : IsS cs m) : cs.all Value.oneCell' = true := by
 obtain ⟨blk, rfl, _⟩ := h.ex
 exact strm_one
theorem add_app {σ : H} {cs : List Value} {m : List Int} {s : ByteArray} (hcs : IsS cs m) (hm : m.length < 1000000000000000) (hs : s.size < 1000000000000000) (hG : HGlob σ) :
  App Tryd.prog (.func 62) #[] #[.agg cs.toArray, .string s] σ fun v σ' => σ' = σ ∧ ∃ cs', v = .agg cs'.toArray ∧ IsS cs' (m ++ strI s) := by
 refine App.forget (App.of_sem mixed Tryd.func62 t62 k62 r62 (Nat.le_of_ble_eq_true rfl) ?_)
 rw [← ap_nil (σ := σ)]
 unfold s62
 simp only [↓eD, eZ, ↓reduceIte, Nat.reduceEqDiff, Nat.reduceAdd, Nat.reduceMul, reduceCtorEq, Nat.reduceLeDiff, Int.reduceLT, Int.reduceLE, Int.reduceToNat, Int.reduceEq, Nat.reduceLT]
 generalize hZ : ([.int .u32 0, .int .u32 0, .int .u32 0, .int .u32 0, .int .u32 0, .int .u32 0, .int .u32 0, .int .u32 0, .int .u8 0, .int .u8 0, .int .u8 0, .int .u8 0, .int .u8 0, .int .u8 0, .int .u8 0, .int .u8 0, .int .u8 0, .int .u8 0, .int .u8 0, .int .u8 0, .int .u8 0, .int .u8 0, .int .u8 0, .int .u8 0, .int .u8 0, .int .u8 0, .int .u8 0, .int .u8 0, .int .u8 0, .int .u8 0, .int .u8 0, .int .u8 0, .int .u8 0, .int .u8 0, .int .u8 0, .int .u8 0, .int .u8 0, .int .u8 0, .int .u8 0, .int .u8 0, .int .u8 0, .int .u8 0, .int .u8 0, .int .u8 0, .int .u8 0, .int .u8 0, .int .u8 0, .int .u8 0, .int .u8 0, .int .u8 0, .int .u8 0, .int .u8 0, .int .u8 0, .int .u8 0, .int .u8 0, .int .u8 0, .int .u8 0, .int .u8 0, .int .u8 0, .int .u8 0, .int .u8 0, .int .u8 0, .int .u8 0, .int .u8 0, .int .u8 0, .int .u8 0, .int .u8 0, .int .u8 0, .int .u8 0, .int .u8 0, .int .u8 0, .int .u8 0, .int .u64 0] : List Value) = Z
 have hZl : Z.length = 73 := by rw [← hZ]; rfl
 clear hZ
 refine loop_of (fun k e τ => ∃ (t : ByteArray) (m1 : List Int) (cs1 : List Value) (ver : Nat), t.size ≤ k ∧ e = [(1, .string t), (2, .pointer (some ⟨σ.size, 0, none⟩)), (4, .pointer (some ⟨σ.size + 1, 0, none⟩))] ∧ τ = ap σ [.cells ver cs1 (0, 0), .cells 0 Z (0, 0)] ∧ IsS cs1 m1 ∧ m1 ++ strI t = m ++ strI s) s.size
  ⟨s, m, cs, 0, Nat.le_refl _, rfl, rfl, hcs, rfl⟩ ?_
 rintro k e τ ⟨t, m1, cs1, ver, htk, rfl, rfl, hS, hmt⟩
 have hlen : m1.length + t.size = m.length + s.size := by
  have := congrArg List.length hmt
  simpa [strI_len] using this
 by_cases h0 : t.size = 0
 ·have d : decide (t = ⟨#[]⟩) = true := by rw [str_empty, decide_eq_true h0]
  have hnil : strI t = [] := List.length_eq_zero_iff.1 (by rw [strI_len, h0])
  rw [hnil, List.append_nil] at hmt
  subst hmt
  have c73 := hS.len
  have tk : cs1.take 73 = cs1 := List.take_of_length_le (by omega)
  have ne : (cs1 = []) = False := eq_false (by intro h; rw [h] at c73; simp at c73)
  have r1 : rdN (ap σ [.cells ver cs1 (0, 0), .cells 0 Z (0, 0)]) ⟨σ.size, 0, none⟩ 73 = some cs1 := rdN_all ap_new0 c73
  have w1 : wrN (ap σ [.cells ver cs1 (0, 0), .cells 0 Z (0, 0)]) ⟨σ.size + 1, 0, none⟩ cs1 = some (ap σ [.cells ver cs1 (0, 0), .cells 1 cs1 (0, 0)]) := by
   rw [wrN_ap, if_neg (by rw [ne]; exact id)]
   simp only [List.getElem?_cons_succ, List.getElem?_cons_zero]
   rw [wrc_cells, if_pos ⟨by omega, hS.one⟩, sets_all (by omega), List.take_zero, List.nil_append, List.drop_of_length_le (by omega), List.append_nil]
   rfl
  have r2 : rdN (ap σ [.cells ver cs1 (0, 0), .cells 1 cs1 (0, 0)]) ⟨σ.size + 1, 0, none⟩ 73 = some cs1 := rdN_all ap_new c73
  simp only [↓eD, eZ, ↓reduceIte, Nat.reduceEqDiff, Nat.reduceAdd, Nat.reduceMul, reduceCtorEq, Nat.reduceLeDiff, Int.reduceLT, Int.reduceLE, Int.reduceToNat, Int.reduceEq, Nat.reduceLT, d, r1, w1, r2, c73]
  exact ⟨.ap, by
   have := hS.ex
   obtain ⟨blk, rfl, _⟩ := this
   simp [flat, strm, u32C, digC, flat.flat1], cs1, rfl, hS⟩
 have d : decide (t = ⟨#[]⟩) = false := by rw [str_empty, decide_eq_false h0]
 obtain ⟨blk, hcs1, hb64, hbyt, hbt⟩ := hS.ex
 have hst : (sF m1 (m1.length / 64)).length = 8 := sF_len
 have hN : m1.length < 2000000000000000 := by omega
 subst hcs1
 have g72 := strm_n (n := (m1.length : Int)) hst hb64
 have w1 : ((m1.length : Int)).tmod 64 = ((m1.length % 64 : Nat) : Int) := by rw [Int.tmod_eq_emod_of_nonneg (by omega)]; omega
 have w2 : IntKind.wrap .u64 ((m1.length % 64 : Nat) : Int) = ((m1.length % 64 : Nat) : Int) := wrap_u64 (by omega) (by omega)
 have w3 : IntKind.wrap .i64 ((m1.length % 64 : Nat) : Int) = ((m1.length % 64 : Nat) : Int) := wrap64' (by omega) (by omega)
 obtain ⟨at_, hat⟩ : ∃ at_, at_ = m1.length % 64 := ⟨_, rfl⟩
 have hat64 : at_ < 64 := by omega
 rw [← hat] at w1 w2 w3 hbt
 obtain ⟨kk, hkk⟩ : ∃ kk, kk = min t.size (64 - at_) := ⟨_, rfl⟩
 have hk1 : 1 ≤ kk ∧ kk ≤ t.size ∧ at_ + kk ≤ 64 := by omega
 have hnl : ((strI t).take kk).length = kk := by rw [List.length_take, strI_len]; omega
 have sa : Cn.sliceArr 64 1 (.pointer (some ⟨σ.size, 8, none⟩)) (some (.int .i64 (at_ : Int))) none none = some (.slice (some ⟨σ.size, 8 + at_, none⟩) (64 - at_) (64 - at_)) := by
  unfold Cn.sliceArr
  have : bnds 64 64 (some (.int .i64 (at_ : Int))) none none = some (at_, 64, 64) := bnds_eq (by simp only [bnd, asI]; rw [if_pos (by omega)]; simp) rfl
  simp only [this, Nat.mul_one]
 obtain ⟨B, hB⟩ : ∃ B, B = blk.take at_ ++ (strI t).take kk ++ blk.drop (at_ + kk) := ⟨_, rfl⟩
 have hBl : B.length = 64 := by rw [hB]; simp only [List.length_append, List.length_take, List.length_drop, strI_len]; omega
 have hBb : Byt B := by
  intro x hx
  rw [hB, List.mem_append, List.mem_append] at hx
  rcases hx with (hx | hx) | hx
  ·exact hbyt x (List.mem_of_mem_take hx)
  ·exact strI_byt x (List.mem_of_mem_take hx)
  ·exact hbyt x (List.mem_of_mem_drop hx)
 have cp : ∀ c, copyV 1 (.slice (some ⟨σ.size, 8 + at_, none⟩) (64 - at_) c) (.string t) (ap σ [.cells ver (strm (sF m1 (m1.length / 64)) blk (m1.length : Int)) (0, 0), .cells 0 Z (0, 0)]) =
   some (.int .i64 (kk : Int), ap σ [.cells (ver + 1) (strm (sF m1 (m1.length / 64)) B (m1.length : Int)) (0, 0), .cells 0 Z (0, 0)]) := by
  intro c
  have hx : xcells (ap σ [.cells ver (strm (sF m1 (m1.length / 64)) blk (m1.length : Int)) (0, 0), .cells 0 Z (0, 0)]) 1 (.string t) = some ((strI t).length, digC (strI t)) := by simp [xcells, byteCells_eq, strI_len]
  have hmin : min (strI t).length (64 - at_) * 1 = kk := by rw [strI_len]; omega
  have hmin2 : min (strI t).length (64 - at_) = kk := by rw [strI_len]; omega
  have htk : (digC (strI t)).take kk = digC ((strI t).take kk) := by simp [digC]
  unfold copyV
  simp only [hx]
  rw [hmin, hmin2, htk, wrN_ap0, if_neg (by intro h; have := congrArg List.length h; rw [digC_length, hnl] at this; simp at this; omega)]
  simp only [List.getElem?_cons_zero]
  rw [wrc_cells, if_pos ⟨by rw [digC_length, hnl, strm_len hst hb64]; omega, digC_one⟩, strm_set_blk hst hb64 (by omega), hnl, ← hB]
  rfl
 have hnB := strm_n (n := (m1.length : Int)) hst hBl
 have ss : Cn.sliceStr (.string t) (some (.int .i64 (kk : Int))) none = some (.string (t.extract kk t.size)) := by
  have h1 : bnd none t.size t.size = some t.size := rfl
  have h2 : bnd (some (.int .i64 (kk : Int))) 0 t.size = some kk := by simp only [bnd, asI]; rw [if_pos (by omega)]; simp
  simp only [Cn.sliceStr, h1, h2]
 have w4 : IntKind.wrap .u64 (kk : Int) = (kk : Int) := wrap_u64 (by omega) (by omega)
 have w5 : IntKind.wrap .u64 ((m1.length : Int) + (kk : Int)) = ((m1.length + kk : Nat) : Int) := by rw [wrap_u64 (by omega) (by omega)]; omega
 have w6 : IntKind.wrap .i64 ((at_ : Int) + (kk : Int)) = ((at_ + kk : Nat) : Int) := by rw [wrap64' (by omega) (by omega)]; omega
 have sn : (strm (sF m1 (m1.length / 64)) B (m1.length : Int)).set 72 (.int .u64 ((m1.length + kk : Nat) : Int)) = strm (sF m1 (m1.length / 64)) B ((m1.length + kk : Nat) : Int) := strm_set_n hst hBl
 have l72 : 73 ≤ (strm (sF m1 (m1.length / 64)) B (m1.length : Int)).length := by rw [strm_len hst hBl]; omega
 have hmt' : m1 ++ (strI t).take kk ++ strI (t.extract kk t.size) = m ++ strI s := by
  rw [strI_extract (Nat.le_refl _), List.take_of_length_le (l := (strI t).drop kk) (by simp [strI_len]), List.append_assoc, List.take_append_drop, hmt]
 have hts : (t.extract kk t.size).size = t.size - kk := by rw [ByteArray.size_extract, Nat.min_self]
 have hml : (m1 ++ (strI t).take kk).length = m1.length + kk := by rw [List.length_append, hnl]
 by_cases h64 : at_ + kk = 64
 case neg =>
  have d64 : decide (((at_ + kk : Nat) : Int) = 64) = false := by rw [decide_eq_false]; omega
  simp only [↓eD, eZ, ↓reduceIte, Nat.reduceEqDiff, Nat.reduceAdd, Nat.reduceMul, reduceCtorEq, Nat.reduceLeDiff, Int.reduceLT, Int.reduceLE, Int.reduceToNat, Int.reduceEq, Nat.reduceLT, d, g72, w1, w2, w3, sa, cp, ss, hnB, w4, w5, w6, sn, l72, d64]
  refine ⟨t.size - kk, by omega, _, m1 ++ (strI t).take kk, _, _, by rw [hts]; omega, rfl, rfl, ⟨B, ?_, hBl, hBb, ?_⟩, hmt'⟩
  ·rw [hml, show (m1.length + kk) / 64 = m1.length / 64 by omega, sF_app (by omega)]
  ·rw [hml, show (m1.length + kk) / 64 = m1.length / 64 by omega, show (m1.length + kk) % 64 = at_ + kk by omega, hB]
   rw [List.take_append_of_le_length (by simp [strI_len]; omega), List.take_of_length_le (by simp [strI_len]; omega), hbt, List.drop_append_of_le_length (by omega)]
 have d64 : decide (((at_ + kk : Nat) : Int) = 64) = true := by rw [h64]; rfl
 have sb : Cn.sliceArr 64 1 (.pointer (some ⟨σ.size, 8, none⟩)) none none none = some (.slice (some ⟨σ.size, 8, none⟩) 64 64) := rfl
 have r0 : ∀ v n, rdN (ap σ [.cells v (strm (sF m1 (m1.length / 64)) B n) (0, 0), .cells 0 Z (0, 0)]) ⟨σ.size, 0, none⟩ 8 = some (u32C (sF m1 (m1.length / 64))) := fun v n => by
  have := rdN_sub (a := 0) (m := 8) (n := 73) (rdN_all (ap_new0 (σ := σ) (l := [.cells v (strm (sF m1 (m1.length / 64)) B n) (0, 0), .cells 0 Z (0, 0)])) (strm_len hst hBl)) (by omega)
  rwa [strm_st hst] at this
 have r8 : ∀ v n, rdN (ap σ [.cells v (strm (sF m1 (m1.length / 64)) B n) (0, 0), .cells 0 Z (0, 0)]) ⟨σ.size, 8, none⟩ 64 = some (digC B) := fun v n => by
  have := rdN_sub (a := 8) (m := 64) (n := 73) (rdN_all (ap_new0 (σ := σ) (l := [.cells v (strm (sF m1 (m1.length / 64)) B n) (0, 0), .cells 0 Z (0, 0)])) (strm_len hst hBl)) (by omega)
  rwa [strm_blk hst hBl] at this
 simp only [↓eD, eZ, ↓reduceIte, Nat.reduceEqDiff, Nat.reduceAdd, Nat.reduceMul, reduceCtorEq, Nat.reduceLeDiff, Int.reduceLT, Int.reduceLE, Int.reduceToNat, Int.reduceEq, Nat.reduceLT, d, g72, w1, w2, w3, sa, cp, ss, hnB, w4, w5, w6, sn, l72, d64, sb, r0]
 refine appK_at (compress_app (S := sF m1 (m1.length / 64)) (b := B) hst hBb ⟨by rw [digC_length, hBl], .inr ⟨_, _, _, rfl, ⟨by decide, .inl (by decide)⟩, r8 _ _⟩⟩ (hG.Old .ap)) ?_
 have hbl : blockF (sF m1 (m1.length / 64)) B = sF (m1 ++ (strI t).take kk) ((m1.length + kk) / 64) := by
  rw [show (m1.length + kk) / 64 = m1.length / 64 + 1 by omega, sF, sF_app (by omega)]
  have hBe : B = blk.take at_ ++ (strI t).take kk := by rw [hB, h64, List.drop_of_length_le (by omega), List.append_nil]
  rw [List.drop_append_of_le_length (by omega), ← hbt, ← hBe, List.take_of_length_le (by omega)]
 have hb8 : (sF (m1 ++ (strI t).take kk) ((m1.length + kk) / 64)).length = 8 := sF_len
 rw [hbl]
 have s8 := strm_set_st (st := sF m1 (m1.length / 64)) (blk := B) (n := ((m1.length + kk : Nat) : Int)) hst hb8
 have t8 := u32C_take hb8
 have n8 := u32C_ne hb8 (by omega)
 have l73 : 8 ≤ (strm (sF m1 (m1.length / 64)) B ((m1.length + kk : Nat) : Int)).length := by rw [strm_len hst hBl]; omega
 simp only [↓eD, eZ, ↓reduceIte, Nat.reduceEqDiff, Nat.reduceAdd, Nat.reduceMul, reduceCtorEq, Nat.reduceLeDiff, Int.reduceLT, Int.reduceLE, Int.reduceToNat, Int.reduceEq, Nat.reduceLT, u32C_len, hb8, t8, n8, s8, l73, u32C_one]
 refine ⟨t.size - kk, by omega, _, m1 ++ (strI t).take kk, _, _, by rw [hts]; omega, rfl, rfl, ⟨B, ?_, hBl, hBb, ?_⟩, hmt'⟩
 ·rw [hml]
 ·rw [hml, show (m1.length + kk) % 64 = 0 by omega, List.take_zero, List.drop_of_length_le (by rw [hml]; omega)]
theorem strI_bytesS {d : List Int} (h : Byt d) : strI (bytesS d) = d := by
 simp only [strI, bytesS, List.map_map]
 refine (List.map_congr_left (g := id) fun x hx => ?_).trans (List.map_id _)
 have := h x hx
 simp only [Function.comp_apply, UInt8.toNat_ofNat', id]
 omega
theorem IsS.flat {cs : List Value} {m : List Int} (h : IsS cs m) : Cn.flat (.agg cs.toArray) = true := by
 obtain ⟨blk, rfl, _⟩ := h.ex
 simp [Cn.flat, strm, u32C, digC, flat.flat1]
theorem IsS.get_n {cs : List Value} {m : List Int} (h : IsS cs m) : cs[72]? = some (.int .u64 (m.length : Int)) := by
 obtain ⟨blk, rfl, h1, _⟩ := h.ex
 exact strm_n sF_len h1
theorem IsS.get_st {cs : List Value} {m : List Int} (h : IsS cs m) {i : Nat} (hi : i < 8) : cs[i]? = some (.int .u32 ((sF m (m.length / 64)).getD i 0)) := by
 obtain ⟨blk, rfl, h1, _⟩ := h.ex
 unfold strm
 rw [List.getElem?_append_left (by rw [u32C_len, sF_len]; exact hi)]
 exact u32C_get (by rw [sF_len]; exact hi)
theorem bytesS_size' {b : List Int} : (bytesS b).size = b.length := by simp [bytesS, ByteArray.size]
def tailF (n : Nat) : List Int := [128] ++ List.replicate (padN n) 0 ++ be8 (IntKind.wrap .u64 (8 * IntKind.wrap .u64 (n : Int)))
theorem padded_tail {m : List Int} : paddedF m = m ++ tailF m.length := by simp [paddedF, tailF]
theorem be8_byt {n : Int} : Byt (be8 n) := by
 intro x hx
 obtain ⟨i, _, rfl⟩ := List.mem_map.1 hx
 rw [wrap_u8_mod]; omega
theorem tailF_byt {n : Nat} : Byt (tailF n) := by
 intro x hx
 unfold tailF at hx
 simp only [List.mem_append, List.mem_singleton] at hx
 rcases hx with (rfl | hx) | hx
 ·omega
 ·have := List.eq_of_mem_replicate hx; omega
 ·exact be8_byt x hx
theorem tailF_len {n : Nat} : (tailF n).length = 9 + padN n := by simp [tailF, be8]; omega
def pz (i : Nat) : List Int := 128 :: List.replicate i 0
theorem pz_len {i : Nat} : (pz i).length = 1 + i := by simp [pz]; omega
theorem pz_succ {i : Nat} : pz (i + 1) = pz i ++ [0] := by unfold pz; rw [List.replicate_succ']; rfl
theorem pz_tail {n : Nat} : tailF n = pz (padN n) ++ be8 (IntKind.wrap .u64 (8 * IntKind.wrap .u64 (n : Int))) := rfl
theorem stream_sum_app {σ : H} {cs : List Value} {m : List Int} (hcs : IsS cs m) (hm : m.length < 100000000000000) (hG : HGlob σ) :
  App Tryd.prog (.func 64) #[] #[.agg cs.toArray] σ fun v σ' => σ' = σ ∧ v = .agg (digC (sumF m)).toArray := by
 refine App.forget (App.of_sem mixed Tryd.func64 t64 k64 r64 (Nat.le_of_ble_eq_true rfl) ?_)
 rw [← ap_nil (σ := σ)]
 unfold s64
 have g72 := hcs.get_n
 have c73 := hcs.len
 have hmw : IntKind.wrap .u64 (m.length : Int) = (m.length : Int) := wrap_u64 (by omega) (by omega)
 simp only [↓eD, eZ, ↓reduceIte, Nat.reduceEqDiff, Nat.reduceAdd, Nat.reduceMul, reduceCtorEq, Nat.reduceLeDiff, Int.reduceLT, Int.reduceLE, Int.reduceToNat, Int.reduceEq, Nat.reduceLT, g72, digC_rep]
 refine loop_for (J := fun i e τ => i ≤ padN m.length ∧ ∃ v, e = [(1, .pointer (some ⟨σ.size, 0, none⟩)), (2, .pointer (some ⟨σ.size + 1, 0, none⟩)), (3, .int .u64 (IntKind.wrap .u64 (8 * (m.length : Int)))), (4, v)] ∧ Old σ τ ∧
   τ[σ.size]? = some (.cells 0 cs (0, 0)) ∧ τ[σ.size + 1]? = some (.cells 0 (digC (List.replicate 32 0)) (0, 0)) ∧ Grown (sized (σ.size + 2)) τ 1 v (digC (pz i)) (pz i).length) (padN m.length)
  ⟨by omega, _, rfl, .ap, ap_new0, ap_new, ?_⟩ ?_
 ·exact Grown.lit (b := σ.size + 2) (ver := 0) rfl (by decide) (by rw [sized_size]; omega) (by rw [ap_new]; rfl)
 rintro i e τ hi ⟨_, v, rfl, ho, hb1, hb2, hg⟩
 have t1 : σ.size < τ.size := (Array.getElem?_eq_some_iff.1 hb1).1
 have t2 : σ.size + 1 < τ.size := (Array.getElem?_eq_some_iff.1 hb2).1
 have rn : ∀ l, rd1 (ap τ l) ⟨σ.size, 72, none⟩ = some (.int .u64 (m.length : Int)) := fun l => by rw [rd1_eq, (ap_old t1).trans hb1]; exact g72
 obtain ⟨bs, cc, rfl⟩ := hg.slice
 have hlen : (pz i).length = 1 + i := pz_len
 have hpn : padN m.length < 64 := by unfold padN; omega
 have w1 : IntKind.wrap .i64 (m.length : Int) = (m.length : Int) := wrap64' (by omega) (by omega)
 have w2 : IntKind.wrap .i64 ((m.length : Int) + ((1 + i : Nat) : Int)) = ((m.length + 1 + i : Nat) : Int) := by rw [wrap64' (by omega) (by omega)]; omega
 have w3 : (((m.length + 1 + i : Nat) : Int).tmod 64) = (((m.length + 1 + i) % 64 : Nat) : Int) := by rw [Int.tmod_eq_emod_of_nonneg (by omega)]; omega
 have w4 : IntKind.wrap .i64 (((m.length + 1 + i) % 64 : Nat) : Int) = (((m.length + 1 + i) % 64 : Nat) : Int) := wrap64' (by omega) (by omega)
 rw [← ap_nil (σ := τ)]
 by_cases h56 : (m.length + 1 + i) % 64 = 56
 case neg =>
  have d56 : decide ((((m.length + 1 + i) % 64 : Nat) : Int) = 56) = false := by rw [decide_eq_false]; omega
  have hi2 : i < padN m.length := by unfold padN at hi ⊢; omega
  simp only [↓eD, eZ, ↓reduceIte, Nat.reduceEqDiff, Nat.reduceAdd, Nat.reduceMul, reduceCtorEq, Nat.reduceLeDiff, Int.reduceLT, Int.reduceLE, Int.reduceToNat, Int.reduceEq, Nat.reduceLT, rn, hlen, w1, w2, w3, w4, d56]
  rw [← hlen]
  obtain ⟨v', τ', ha, hA⟩ := append_bytes (σ := ap τ [.cells 0 [.int .u8 0] (0, 0)]) (hg.old .ap) (by rw [sized_size, ap_size]; omega) (x_one (j := 0) rfl) (by rw [pz_len]; simp; omega)
  refine onV_of ha ?_
  simp only [↓eD, eZ, ↓reduceIte, Nat.reduceEqDiff, Nat.reduceAdd, Nat.reduceMul, reduceCtorEq, Nat.reduceLeDiff, Int.reduceLT, Int.reduceLE, Int.reduceToNat, Int.reduceEq, Nat.reduceLT]
  refine ⟨hi2, by omega, v', rfl, hA.Old' (hg.old .ap) (by rw [sized_size]; omega) (ho.trans .ap), hA.low (hg.old .ap) (by rw [sized_size]; omega) ((ap_old t1).trans hb1), hA.low (hg.old .ap) (by rw [sized_size]; omega) ((ap_old t2).trans hb2), ?_⟩
  rw [pz_succ]
  exact hA.grown
 have hi2 : i = padN m.length := by unfold padN at hi ⊢; omega
 have d56 : decide ((((m.length + 1 + i) % 64 : Nat) : Int) = 56) = true := by rw [h56]; rfl
 simp only [↓eD, eZ, ↓reduceIte, Nat.reduceEqDiff, Nat.reduceAdd, Nat.reduceMul, reduceCtorEq, Nat.reduceLeDiff, Int.reduceLT, Int.reduceLE, Int.reduceToNat, Int.reduceEq, Nat.reduceLT, rn, hlen, w1, w2, w3, w4, d56]
 subst hi2
 rw [← hlen]
 obtain ⟨E, hE⟩ : ∃ E, E = be8 (IntKind.wrap .u64 (8 * (m.length : Int))) := ⟨_, rfl⟩
 have hEl : E.length = 8 := by rw [hE]; simp [be8]
 obtain ⟨P, hP⟩ : ∃ P : List Int, P = pz (padN m.length) := ⟨_, rfl⟩
 rw [← hP] at hg ⊢
 have hPl : P.length ≤ 64 := by rw [hP, pz_len]; omega
 have hPE : tailF m.length = P ++ E := by rw [pz_tail, hmw, ← hE, ← hP]
 refine loop_for (J := fun i e τ => i ≤ 8 ∧ ∃ v, e = [(1, .pointer (some ⟨σ.size, 0, none⟩)), (2, .pointer (some ⟨σ.size + 1, 0, none⟩)), (3, .int .u64 (IntKind.wrap .u64 (8 * (m.length : Int)))), (4, v), (23, .int .i64 (i : Int))] ∧ Old σ τ ∧
   τ[σ.size]? = some (.cells 0 cs (0, 0)) ∧ τ[σ.size + 1]? = some (.cells 0 (digC (List.replicate 32 0)) (0, 0)) ∧ Grown (sized (σ.size + 2)) τ 1 v (digC (P ++ E.take i)) (P ++ E.take i).length) 8
  ⟨by omega, _, rfl, ho.trans .ap, (ap_old t1).trans hb1, (ap_old t2).trans hb2, by simpa using hg.old (Old.ap (l := []))⟩ ?_
 clear hg hb1 hb2 ho t1 t2 rn d56 h56 w2 w3 w4 hi hlen
 rintro i e τ hi ⟨_, v, rfl, ho, hb1, hb2, hg⟩
 have t1 : σ.size < τ.size := (Array.getElem?_eq_some_iff.1 hb1).1
 have t2 : σ.size + 1 < τ.size := (Array.getElem?_eq_some_iff.1 hb2).1
 by_cases hlt : i < 8
 ·have dl : decide ((i : Int) < 8) = true := by rw [decide_eq_true]; omega
  have q1 : IntKind.wrap .i64 (8 * (i:Int)) = ((8 * i : Nat) : Int) := by rw [wrap64' (by omega) (by omega)]; omega
  have q2 : IntKind.wrap .i64 (56 - ((8 * i : Nat) : Int)) = ((56 - 8 * i : Nat) : Int) := by rw [wrap64' (by omega) (by omega)]; omega
  have q3 : ¬ ((56 - 8 * i : Nat) : Int) < 0 := by omega
  have hw : IntKind.wrap .i64 ((i:Int) + 1) = ((i + 1 : Nat) : Int) := by rw [wrap64' (by omega) (by omega)]; omega
  have hbe : E[i]? = some (IntKind.wrap .u8 ((IntKind.wrap .u64 (8 * (m.length : Int))).fdiv (2 ^ (min (56 - 8 * i) (IntKind.bits .u64))))) := by
   rw [hE]; simp [be8, hlt, IntKind.bits]
  obtain ⟨x, hx⟩ : ∃ x, IntKind.wrap .u8 ((IntKind.wrap .u64 (8 * (m.length : Int))).fdiv (2 ^ (min (56 - 8 * i) (IntKind.bits .u64)))) = x := ⟨_, rfl⟩
  rw [hx] at hbe
  have htk : E.take (i + 1) = E.take i ++ [x] := by rw [List.take_add_one, hbe]; rfl
  rw [← ap_nil (σ := τ)]
  have hlen : (P ++ E.take i).length ≤ 100 := by rw [List.length_append, List.length_take]; omega
  obtain ⟨v', τ', ha, hA⟩ := append_bytes (σ := ap τ [.cells 0 [.int .u8 x] (0, 0)]) (hg.old .ap) (by rw [sized_size, ap_size]; omega) (x_one (j := 0) rfl) (by simp only [List.length_singleton]; omega)
  simp only [↓eD, eZ, ↓reduceIte, Nat.reduceEqDiff, Nat.reduceAdd, Nat.reduceMul, reduceCtorEq, Nat.reduceLeDiff, Int.reduceLT, Int.reduceLE, Int.reduceToNat, Int.reduceEq, Nat.reduceLT, dl, q1, q2, q3, Int.toNat_natCast, hx]
  refine onV_of ha ?_
  simp only [↓eD, eZ, ↓reduceIte, Nat.reduceEqDiff, Nat.reduceAdd, Nat.reduceMul, reduceCtorEq, Nat.reduceLeDiff, Int.reduceLT, Int.reduceLE, Int.reduceToNat, Int.reduceEq, Nat.reduceLT, hw]
  refine ⟨hlt, by omega, v', rfl, hA.Old' (hg.old .ap) (by rw [sized_size]; omega) (ho.trans .ap), hA.low (hg.old .ap) (by rw [sized_size]; omega) ((ap_old t1).trans hb1), hA.low (hg.old .ap) (by rw [sized_size]; omega) ((ap_old t2).trans hb2), ?_⟩
  rw [htk, ← List.append_assoc]
  exact hA.grown
 have hi8 : i = 8 := by omega
 subst hi8
 have dl : decide (((8 : Nat) : Int) < 8) = false := by decide
 rw [List.take_of_length_le (by omega), ← hPE] at hg
 obtain ⟨bs2, cc2, rfl⟩ := hg.slice
 have htl := tailF_len (n := m.length)
 obtain ⟨bk, off, rfl, h2⟩ := hg.whl.at (by omega)
 rw [Nat.mul_one] at h2
 have r1 : rdN τ ⟨σ.size, 0, none⟩ 73 = some cs := rdN_all hb1 c73
 have tk : cs.take 73 = cs := List.take_of_length_le (by omega)
 have ne : (cs = []) = False := eq_false (by intro h; rw [h] at c73; simp at c73)
 have hbs : Value.string { data := (List.map (fun x : Int => UInt8.ofNat x.toNat) (tailF m.length)).toArray } = .string (bytesS (tailF m.length)) := rfl
 simp only [↓eD, eZ, ↓reduceIte, Nat.reduceEqDiff, Nat.reduceAdd, Nat.reduceMul, reduceCtorEq, Nat.reduceLeDiff, Int.reduceLT, Int.reduceLE, Int.reduceToNat, Int.reduceEq, Nat.reduceLT, dl, r1, h2, Option.bind_some, bytesOf_dig]
 rw [hbs]
 refine appK_of (add_app (σ := τ) hcs (by omega) (by rw [bytesS_size', htl]; omega) (hG.Old ho)) ?_
 rintro _ _ ⟨e2, cs2, rfl, hcs2⟩
 rw [e2]
 clear e2
 rw [strI_bytesS tailF_byt, ← padded_tail] at hcs2
 have c2 := hcs2.len
 have tk2 : cs2.take 73 = cs2 := List.take_of_length_le (by omega)
 have ne2 : (cs2 = []) = False := eq_false (by intro h; rw [h] at c2; simp at c2)
 have w2 : wrN τ ⟨σ.size, 0, none⟩ cs2 = some (τ.setIfInBounds σ.size (.cells 1 cs2 (0, 0))) := by
  rw [wrN_eq, if_neg (by rw [ne2]; exact id), hb1, wrc_cells, if_pos ⟨by show 0 + cs2.length ≤ cs.length; omega, hcs2.one⟩, sets_all (l := cs2) (z := cs) (o := 0) (by omega), List.take_zero, List.nil_append, List.drop_of_length_le (by omega), List.append_nil]; rfl
 have o2 : Old σ (τ.setIfInBounds σ.size (.cells 1 cs2 (0, 0))) := ho.set (Nat.le_refl _)
 have z1 := get_set (k := .cells 1 cs2 (0, 0)) hb1
 have z2 := (get_set_ne (k := .cells 1 cs2 (0, 0)) (by omega : σ.size ≠ σ.size + 1)).trans hb2
 simp only [↓eD, eZ, ↓reduceIte, Nat.reduceEqDiff, Nat.reduceAdd, Nat.reduceMul, reduceCtorEq, Nat.reduceLeDiff, Int.reduceLT, Int.reduceLE, Int.reduceToNat, Int.reduceEq, Nat.reduceLT, c2, tk2, ne2, w2]
 generalize τ.setIfInBounds σ.size (.cells 1 cs2 (0, 0)) = θ at o2 z1 z2
 have s1 : σ.size < θ.size := (Array.getElem?_eq_some_iff.1 z1).1
 have s2 : σ.size + 1 < θ.size := (Array.getElem?_eq_some_iff.1 z2).1
 have hsum : sumF m = (List.range 32).map fun j => outF (sF (paddedF m) ((paddedF m).length / 64)) j := by rw [sumF]
 have gst : ∀ j, j < 8 → cs2[j]? = some (.int .u32 ((sF (paddedF m) ((paddedF m).length / 64)).getD j 0)) := fun j hj => hcs2.get_st hj
 generalize sF (paddedF m) ((paddedF m).length / 64) = S at hsum gst
 rw [← ap_nil (σ := θ)]
 simp only [↓eD, eZ, ↓reduceIte, Nat.reduceEqDiff, Nat.reduceAdd, Nat.reduceMul, reduceCtorEq, Nat.reduceLeDiff, Int.reduceLT, Int.reduceLE, Int.reduceToNat, Int.reduceEq, Nat.reduceLT, digC_rep]
 refine loop_for (J := fun j e τ' => j ≤ 32 ∧ ∃ ver, e = [(1, .pointer (some ⟨σ.size, 0, none⟩)), (2, .pointer (some ⟨σ.size + 1, 0, none⟩)), (6, .pointer (some ⟨θ.size, 0, none⟩)), (40, .int .i64 (j : Int))] ∧
   τ' = ap θ [.cells ver (digC (((List.range 32).map fun j => outF S j).take j ++ List.replicate (32 - j) 0)) (0, 0)]) 32
  ⟨by omega, 0, rfl, rfl⟩ ?_
 rintro j e τ' hj ⟨_, ver, rfl, rfl⟩
 by_cases hlt3 : j < 32
 ·have dl : decide ((j : Int) < 32) = true := by rw [decide_eq_true]; omega
  have d4 : (j : Int).tdiv 4 = ((j / 4 : Nat) : Int) := by rw [Int.tdiv_eq_ediv_of_nonneg (by omega)]; omega
  have m4 : (j : Int).tmod 4 = ((j % 4 : Nat) : Int) := by rw [Int.tmod_eq_emod_of_nonneg (by omega)]; omega
  have p1 : IntKind.wrap .i64 ((j / 4 : Nat) : Int) = ((j / 4 : Nat) : Int) := wrap64' (by omega) (by omega)
  have p2 : IntKind.wrap .i64 (8 * ((j % 4 : Nat) : Int)) = ((8 * (j % 4) : Nat) : Int) := by rw [wrap64' (by omega) (by omega)]; omega
  have p3 : IntKind.wrap .i64 (24 - ((8 * (j % 4) : Nat) : Int)) = ((24 - 8 * (j % 4) : Nat) : Int) := by rw [wrap64' (by omega) (by omega)]; omega
  have p4 : ¬ ((24 - 8 * (j % 4) : Nat) : Int) < 0 := by omega
  have p5 : IntKind.wrap .i64 ((j % 4 : Nat) : Int) = ((j % 4 : Nat) : Int) := wrap64' (by omega) (by omega)
  have q : (0:Int) ≤ ((j / 4 : Nat) : Int) ∧ ((j / 4 : Nat) : Int) < ((8:Nat):Int) := by omega
  have q' : (0:Int) ≤ (j : Int) ∧ (j : Int) < ((32:Nat):Int) := by omega
  have hw : IntKind.wrap .i64 ((j:Int) + 1) = ((j + 1 : Nat) : Int) := by rw [wrap64' (by omega) (by omega)]; omega
  have g3 : ∀ L, rd1 (ap θ L) ⟨σ.size, j / 4, none⟩ = some (.int .u32 (S.getD (j / 4) 0)) := fun L => by rw [rd1_eq, (ap_old s1).trans z1, rdc1_cells]; exact gst (j / 4) (by omega)
  have hll : (((List.range 32).map fun j => outF S j).take j ++ List.replicate (32 - j) 0).length = 32 := by simp; omega
  have n7 : j ≤ 31 := by omega
  have hset : (((List.range 32).map fun j => outF S j).take j ++ List.replicate (32 - j) 0).set j (outF S j) = ((List.range 32).map fun j => outF S j).take (j + 1) ++ List.replicate (32 - (j + 1)) 0 := by
   have ht : (((List.range 32).map fun j => outF S j).take j).length = j := by simp; omega
   rw [List.set_append, if_neg (by omega), ht, Nat.sub_self, List.take_add_one]
   have : 32 - j = (32 - (j + 1)) + 1 := by omega
   rw [this, List.replicate_succ, List.set_cons_zero, List.append_assoc]
   simp [hlt3]
  have ho8 : IntKind.wrap .u8 (shrW (S.getD (j / 4) 0) (24 - 8 * (j % 4))) = outF S j := rfl
  simp only [↓eD, eZ, ↓reduceIte, Nat.reduceEqDiff, Nat.reduceAdd, Nat.reduceMul, reduceCtorEq, Nat.reduceLeDiff, Int.reduceLT, Int.reduceLE, Int.reduceToNat, Int.reduceEq, Nat.reduceLT, dl, d4, m4, p1, p2, p3, p4, p5, q, q', g3, Int.toNat_natCast, Nat.mul_one, Nat.one_mul, shr_W, ho8, digC_length, hll, n7, digC_set, hset, hw]
  exact ⟨hlt3, ver + 1, rfl⟩
 ·have : j = 32 := by omega
  subst this
  have dl : decide (((32 : Nat) : Int) < 32) = false := by decide
  have hfull : (((List.range 32).map fun j => outF S j).take 32 ++ List.replicate (32 - 32) 0) = sumF m := by rw [hsum, List.take_of_length_le (by simp)]; simp
  rw [hfull]
  have t32 := digC_take (l := sumF m) sumF_len
  have s32 := digC_sets (z := List.replicate 32 0) (l := sumF m) (by simp [sumF_len])
  have n32 := digC_ne' (l := sumF m) sumF_len (by omega)
  have w3 : ∀ L, wrN (ap θ L) ⟨σ.size + 1, 0, none⟩ (digC (sumF m)) = some ((ap θ L).setIfInBounds (σ.size + 1) (.cells 1 (digC (sumF m)) (0, 0))) := fun L => by
   rw [wrN_eq, if_neg (by rw [n32]; exact id), (ap_old s2).trans z2, wrc_cells, s32, if_pos ⟨by simp [digC_length, sumF_len], digC_one⟩]; rfl
  have r3 : ∀ L, rdN ((ap θ L).setIfInBounds (σ.size + 1) (.cells 1 (digC (sumF m)) (0, 0))) ⟨σ.size + 1, 0, none⟩ 32 = some (digC (sumF m)) := fun L => rdN_all (get_set ((ap_old s2).trans z2)) (by rw [digC_length, sumF_len])
  simp only [↓eD, eZ, ↓reduceIte, Nat.reduceEqDiff, Nat.reduceAdd, Nat.reduceMul, reduceCtorEq, Nat.reduceLeDiff, Int.reduceLT, Int.reduceLE, Int.reduceToNat, Int.reduceEq, Nat.reduceLT, dl, digC_length, sumF_len, t32, w3, r3]
  refine ⟨(o2.trans .ap).set (by omega), ?_⟩
  simp [Cn.flat, digC, flat.flat1]
theorem Whl.read {σ : H} {a : Addr} {n c : Nat} {cs : List Value} (h : Whl σ 1 (.slice (some a) n c) n cs) : rdN σ a n = some cs := by
 obtain ⟨h0, ⟨hn, _⟩ | ⟨b, o, cap, h1, _, h2⟩⟩ := h
 ·subst hn
  have : cs = [] := by simpa using h0
  subst this
  simp [rdN]
 ·injection h1 with h1
  injection h1 with h1
  rw [h1]
  simpa using h2
theorem Whl.none {σ : H} {n c : Nat} {cs : List Value} (h : Whl σ 1 (.slice none n c) n cs) : n = 0 := by
 obtain ⟨_, ⟨h0, _⟩ | ⟨b, o, cap, h1, _, h2⟩⟩ := h
 ·exact h0
 ·injection h1 with h1; cases h1
theorem xor_all {x : Nat} (h : x < 18446744073709551616) : x ^^^ 18446744073709551615 = 18446744073709551615 - x := by
 have h1 : (BitVec.ofNat 64 x ^^^ BitVec.allOnes 64).toNat = x ^^^ 18446744073709551615 := by
  rw [BitVec.toNat_xor, BitVec.toNat_ofNat, Nat.mod_eq_of_lt h]; rfl
 rw [← h1, BitVec.xor_allOnes, BitVec.toNat_not, BitVec.toNat_ofNat, Nat.mod_eq_of_lt h]
theorem or_128 : ∀ x, x < 256 → x ||| 128 = x % 128 + 128 := by decide
theorem wint_z {n : Int} (h1 : -9223372036854775808 ≤ n) (h2 : n < 9223372036854775808) :
  IntKind.wrap .u64 (BitVec.ofInt (IntKind.bits .u64) (IntKind.wrap .u64 (IntKind.wrap .u64 n * 2 ^ min 1 (IntKind.bits .u64))) ^^^ BitVec.ofInt (IntKind.bits .u64) (IntKind.wrap .u64 (n.fdiv (2 ^ min 63 (IntKind.bits .i64))))).toNat = zF n := by
 rw [show min 1 (IntKind.bits .u64) = 1 from rfl, show min 63 (IntKind.bits .i64) = 63 from rfl, Int.fdiv_eq_ediv_of_nonneg _ (by decide)]
 by_cases hn : n < 0
 ·have e1 : IntKind.wrap .u64 (IntKind.wrap .u64 n * 2 ^ 1) = ((18446744073709551616 - 2 * (-n).toNat : Nat) : Int) := by rw [wrap_u64_mod, wrap_u64_mod]; omega
  have e2 : IntKind.wrap .u64 (n / 2 ^ 63) = ((18446744073709551615 : Nat) : Int) := by rw [wrap_u64_mod]; omega
  rw [e1, e2, xor_u64 (by omega) (by omega), xor_all (by omega), zF, if_pos hn]
  have e3 : IntKind.wrap .i64 (-1 - n) = -1 - n := by
   simp only [IntKind.wrap, IntKind.signed, IntKind.bits]; simp; omega
  rw [e3, wrap_u64_mod, wrap_u64_mod, wrap_u64_mod]
  omega
 ·have e1 : IntKind.wrap .u64 (IntKind.wrap .u64 n * 2 ^ 1) = ((2 * n.toNat : Nat) : Int) := by rw [wrap_u64_mod, wrap_u64_mod]; omega
  have e2 : IntKind.wrap .u64 (n / 2 ^ 63) = ((0 : Nat) : Int) := by rw [wrap_u64_mod]; omega
  rw [e1, e2, xor_u64 (by omega) (by omega), Nat.xor_zero, zF, if_neg hn, wrap_u64_mod, wrap_u64_mod]
  omega
theorem wint_app {σ : H} {n : Int} (h1 : -9223372036854775808 ≤ n) (h2 : n < 9223372036854775808) : App Tryd.prog (.func 77) #[] #[.int .i64 n] σ fun v σ' => Old σ σ' ∧ Grown σ σ' 1 v (digC (intF n)) (intF n).length := by
 refine App.of_sem mixed Tryd.func77 t77 k77 r77 (Nat.le_of_ble_eq_true rfl) ?_
 unfold s77
 have hz := wint_z h1 h2
 rw [← ap_nil (σ := σ)]
 simp only [↓eD, eZ, ↓reduceIte, Nat.reduceEqDiff, Nat.reduceAdd, Nat.reduceMul, reduceCtorEq, Nat.reduceLeDiff, Int.reduceLT, Int.reduceLE, Int.reduceToNat, Int.reduceEq, Nat.reduceLT, hz]
 refine loop_of (fun m e τ => ∃ z o v, e = [(3, .int .u64 z), (4, v)] ∧ Old σ τ ∧ 0 ≤ z ∧ z < 128 ^ m ∧ z < 18446744073709551616 ∧ 1 ≤ m ∧ o.length + m = 10 ∧ o ++ varF m z = intF n ∧ Grown σ τ 1 v (digC o) o.length) 10
  ⟨zF n, [], _, rfl, .ap, zF_range.1, Int.lt_trans zF_range.2 (by decide), zF_range.2, by omega, rfl, rfl, .nil⟩ ?_
 rintro m e τ ⟨z, o, v, rfl, ho, z0, zm, z64, hm, hlen, hF, hg⟩
 obtain ⟨m, rfl⟩ : ∃ m', m = m' + 1 := ⟨m - 1, by omega⟩
 obtain ⟨zn, rfl⟩ : ∃ zn : Nat, z = (zn : Int) := ⟨z.toNat, by omega⟩
 rw [← ap_nil (σ := τ)]
 by_cases hlt : (128 : Int) ≤ zn
 ·have dl : decide ((127 : Int) < (zn : Int)) = true := by rw [decide_eq_true]; omega
  have w1 : IntKind.wrap .u8 (BitVec.ofInt (IntKind.bits .u8) (IntKind.wrap .u8 (zn : Int)) ||| BitVec.ofInt (IntKind.bits .u8) 128).toNat = IntKind.wrap .u8 (IntKind.wrap .u8 ((zn : Int).tmod 128) + 128) := by
   rw [show IntKind.wrap .u8 (zn : Int) = ((zn % 256 : Nat) : Int) by rw [wrap_u8_mod]; omega, show BitVec.ofInt (IntKind.bits .u8) 128 = BitVec.ofInt (IntKind.bits .u8) ((128 : Nat) : Int) from rfl,
    bv_or (by show zn % 256 < 256; omega) (by decide), or_128 _ (by omega), wrap_u8_mod, wrap_u8_mod, wrap_u8_mod, Int.tmod_eq_emod_of_nonneg z0]
   omega
  have w2 : ((zn : Int)).fdiv (2 ^ min 7 (IntKind.bits .u64)) = (zn : Int) / 128 := by rw [shr_nat (by decide), Nat.shiftRight_eq_div_pow]; omega
  have hq : (zn : Int).tdiv 128 = (zn : Int) / 128 := Int.tdiv_eq_ediv_of_nonneg z0
  have hq2 : IntKind.wrap .u64 ((zn : Int).tdiv 128) = (zn : Int) / 128 := by rw [hq]; exact wrapU64 (by omega) (by omega)
  obtain ⟨x, hx⟩ : ∃ x, x = IntKind.wrap .u8 (IntKind.wrap .u8 ((zn : Int).tmod 128) + 128) := ⟨_, rfl⟩
  rw [← hx] at w1
  obtain ⟨v', τ', ha, hA⟩ := append_bytes (σ := ap τ [.cells 0 [.int .u8 x] (0, 0)]) (hg.old .ap) (Nat.le_trans ho.1 (Old.ap (l := _)).1) (x_one (j := 0) rfl) (by simp; omega)
  simp only [↓eD, eZ, ↓reduceIte, Nat.reduceEqDiff, Nat.reduceAdd, Nat.reduceMul, reduceCtorEq, Nat.reduceLeDiff, Int.reduceLT, Int.reduceLE, Int.reduceToNat, Int.reduceEq, Nat.reduceLT, dl, w1]
  refine onV_of ha ?_
  simp only [↓eD, eZ, ↓reduceIte, Nat.reduceEqDiff, Nat.reduceAdd, Nat.reduceMul, reduceCtorEq, Nat.reduceLeDiff, Int.reduceLT, Int.reduceLE, Int.reduceToNat, Int.reduceEq, Nat.reduceLT, w2]
  have hm1 : 1 ≤ m := by
   rcases Nat.eq_zero_or_pos m with h | h
   ·subst h; simp at zm; omega
   ·exact h
  rw [Int.pow_succ] at zm
  refine ⟨m, by omega, (zn : Int) / 128, o ++ [x], v', rfl, hA.Old (hg.old .ap) (ho.trans .ap), by omega, by omega, by omega, hm1, by simp; omega, ?_, hA.grown⟩
  rw [← hF, varF, if_pos hlt, hq2, List.append_assoc, hx]
  rfl
 ·have dl : decide ((127 : Int) < (zn : Int)) = false := by rw [decide_eq_false]; omega
  obtain ⟨x, hx⟩ : ∃ x, x = IntKind.wrap .u8 (zn : Int) := ⟨_, rfl⟩
  obtain ⟨v', τ', ha, hA⟩ := append_bytes (σ := ap τ [.cells 0 [.int .u8 x] (0, 0)]) (hg.old .ap) (Nat.le_trans ho.1 (Old.ap (l := _)).1) (x_one (j := 0) rfl) (by simp; omega)
  simp only [↓eD, eZ, ↓reduceIte, Nat.reduceEqDiff, Nat.reduceAdd, Nat.reduceMul, reduceCtorEq, Nat.reduceLeDiff, Int.reduceLT, Int.reduceLE, Int.reduceToNat, Int.reduceEq, Nat.reduceLT, dl, ← hx]
  refine onV_of ha ?_
  simp only [↓eD, eZ, ↓reduceIte, Nat.reduceEqDiff, Nat.reduceAdd, Nat.reduceMul, reduceCtorEq, Nat.reduceLeDiff, Int.reduceLT, Int.reduceLE, Int.reduceToNat, Int.reduceEq, Nat.reduceLT]
  rw [varF, if_neg hlt, ← hx] at hF
  rw [ap_nil]
  exact ⟨by have := hA.Old (hg.old .ap) (ho.trans .ap); simpa [ap_nil] using this, hF ▸ hA.grown⟩
theorem wbytes_app {σ : H} {s : ByteArray} (hs : s.size < 100000000000000) : App Tryd.prog (.func 63) #[] #[.string s] σ fun v σ' => Old σ σ' ∧ Grown σ σ' 1 v (digC (bytesF s)) (bytesF s).length := by
 refine App.of_sem mixed Tryd.func63 t63 k63 r63 (Nat.le_of_ble_eq_true rfl) ?_
 unfold s63
 have e0 : ap σ [] = σ := ap_nil
 rw [← e0]
 simp only [↓eD, eZ, ↓reduceIte, Nat.reduceEqDiff, Nat.reduceAdd, Nat.reduceMul, reduceCtorEq, Nat.reduceLeDiff, Int.reduceLT, Int.reduceLE, Int.reduceToNat, Int.reduceEq, Nat.reduceLT]
 refine appK_of (wint_app (by omega) (by omega)) ?_
 rintro v σ1 ⟨ho1, hg1⟩
 simp only [↓eD, eZ, ↓reduceIte, Nat.reduceEqDiff, Nat.reduceAdd, Nat.reduceMul, reduceCtorEq, Nat.reduceLeDiff, Int.reduceLT, Int.reduceLE, Int.reduceToNat, Int.reduceEq, Nat.reduceLT]
 have hlen2 : (intF s.size).length ≤ 10 := intF_len
 have hgg := hg1.from (σ0 := σ) (by simp [ap_size])
 have hoo : Old σ σ1 := Old.ap.trans ho1
 obtain ⟨v', τ', ha, hA⟩ := append_bytes (σ := σ1) (xa := .string s) (new := strI s) hgg hoo.1 (by simp [xcells, byteCells_eq, strI_len]) (by rw [strI_len]; omega)
 refine onV_of ha ?_
 simp only [↓eD, eZ, ↓reduceIte, Nat.reduceEqDiff, Nat.reduceAdd, Nat.reduceMul, reduceCtorEq, Nat.reduceLeDiff, Int.reduceLT, Int.reduceLE, Int.reduceToNat, Int.reduceEq, Nat.reduceLT]
 have := hA.Old hgg hoo
 exact ⟨this, hA.grown.from (by simp [ap_size])⟩
theorem bytesOf_one {x : Int} : bytesOf [.int .u8 x] = some [UInt8.ofNat x.toNat] := rfl
theorem wrap8_byt {n : Int} : Byt [IntKind.wrap .u8 n] := by
 intro x hx
 have := List.mem_singleton.1 hx
 subst this
 rw [wrap_u8_mod]; omega
theorem varF_byt : ∀ {f : Nat} {z : Int}, Byt (varF f z)
 |0, _ => by intro x hx; simp [varF] at hx
 |f + 1, z => by
  intro x hx
  rw [varF] at hx
  split at hx
  ·rcases List.mem_cons.1 hx with rfl | hx
   ·rw [wrap_u8_mod]; omega
   ·exact varF_byt x hx
  ·have := List.mem_singleton.1 hx
   subst this
   rw [wrap_u8_mod]; omega
theorem intF_byt {n : Int} : Byt (intF n) := varF_byt
theorem bytesF_byt {s : ByteArray} : Byt (bytesF s) := by
 intro x hx
 unfold bytesF at hx
 rcases List.mem_append.1 hx with hx | hx
 ·exact intF_byt x hx
 ·exact strI_byt x hx
theorem inputF_take {tag : Int} {l : List ByteArray} {i : Nat} (h : i < l.length) : inputF tag (l.take (i + 1)) = inputF tag (l.take i) ++ bytesF l[i] := by
 rw [inputF, inputF, partsF, partsF, flat_take h]; rfl
theorem bytesF_len {s : ByteArray} (h : s.size < 100000000000) : (bytesF s).length ≤ 100000000010 := by
 have : (intF s.size).length ≤ 10 := intF_len
 rw [bytesF, List.length_append, strI_len]; omega
theorem hof_app {σ : H} {sl : Value} {l : List ByteArray} {tag : Int} (hr : Whl σ 1 sl l.length (l.map .string)) (hl : l.length < 100) (hs : ∀ s ∈ l, s.size < 100000000000) (hG : HGlob σ) :
  App Tryd.prog (.func 37) #[] #[.int .i64 tag, sl] σ fun v σ' => σ' = σ ∧ v = .agg (digC (ofF tag l)).toArray := by
 refine App.forget (App.of_sem mixed Tryd.func37 t37 k37 r37 (Nat.le_of_ble_eq_true rfl) ?_)
 obtain ⟨base, cp, rfl⟩ := hr.slice
 unfold s37
 rw [← ap_nil (σ := σ)]
 simp only [↓eD, eZ, ↓reduceIte, Nat.reduceEqDiff, Nat.reduceAdd, Nat.reduceMul, reduceCtorEq, Nat.reduceLeDiff, Int.reduceLT, Int.reduceLE, Int.reduceToNat, Int.reduceEq, Nat.reduceLT, digC_rep, Option.bind_some, bytesOf_one]
 generalize hZ : ([.int .u32 0, .int .u32 0, .int .u32 0, .int .u32 0, .int .u32 0, .int .u32 0, .int .u32 0, .int .u32 0, .int .u8 0, .int .u8 0, .int .u8 0, .int .u8 0, .int .u8 0, .int .u8 0, .int .u8 0, .int .u8 0, .int .u8 0, .int .u8 0, .int .u8 0, .int .u8 0, .int .u8 0, .int .u8 0, .int .u8 0, .int .u8 0, .int .u8 0, .int .u8 0, .int .u8 0, .int .u8 0, .int .u8 0, .int .u8 0, .int .u8 0, .int .u8 0, .int .u8 0, .int .u8 0, .int .u8 0, .int .u8 0, .int .u8 0, .int .u8 0, .int .u8 0, .int .u8 0, .int .u8 0, .int .u8 0, .int .u8 0, .int .u8 0, .int .u8 0, .int .u8 0, .int .u8 0, .int .u8 0, .int .u8 0, .int .u8 0, .int .u8 0, .int .u8 0, .int .u8 0, .int .u8 0, .int .u8 0, .int .u8 0, .int .u8 0, .int .u8 0, .int .u8 0, .int .u8 0, .int .u8 0, .int .u8 0, .int .u8 0, .int .u8 0, .int .u8 0, .int .u8 0, .int .u8 0, .int .u8 0, .int .u8 0, .int .u8 0, .int .u8 0, .int .u8 0, .int .u64 0] : List Value) = Z
 have hZl : Z.length = 73 := by rw [← hZ]; rfl
 clear hZ
 refine appK_of begin_app ?_
 rintro _ _ ⟨e2, cs0, rfl, hb0⟩
 rw [e2]
 clear e2
 have hst : strI ⟨#[UInt8.ofNat (IntKind.wrap .u8 tag).toNat]⟩ = [IntKind.wrap .u8 tag] := strI_bytesS wrap8_byt
 simp only [↓eD, eZ, ↓reduceIte, Nat.reduceEqDiff, Nat.reduceAdd, Nat.reduceMul, reduceCtorEq, Nat.reduceLeDiff, Int.reduceLT, Int.reduceLE, Int.reduceToNat, Int.reduceEq, Nat.reduceLT, Option.bind_some, bytesOf_one]
 refine appK_of (add_app (s := ⟨#[UInt8.ofNat (IntKind.wrap .u8 tag).toNat]⟩) hb0 (by show 0 < _; omega) (by show 1 < _; omega) (hG.Old .ap)) ?_
 rintro _ _ ⟨e2, cs1, rfl, hb1⟩
 rw [e2]
 clear e2
 rw [List.nil_append, hst] at hb1
 have c1 := hb1.len
 have tk1 : cs1.take 73 = cs1 := List.take_of_length_le (by omega)
 have ne1 : (cs1 = []) = False := eq_false (by intro h; rw [h] at c1; simp at c1)
 have st1 : sets Z 0 cs1 = cs1 := by rw [sets_all (by omega), List.take_zero, List.nil_append, List.drop_of_length_le (by omega), List.append_nil]
 have on1 := hb1.one
 simp only [↓eD, eZ, ↓reduceIte, Nat.reduceEqDiff, Nat.reduceAdd, Nat.reduceMul, reduceCtorEq, Nat.reduceLeDiff, Int.reduceLT, Int.reduceLE, Int.reduceToNat, Int.reduceEq, Nat.reduceLT, c1, tk1, ne1, st1, on1, hZl]
 have hlen : ∀ i, ((l.take i).flatMap bytesF).length ≤ i * 100000000010 := by
  intro i
  induction i with
  |zero =>
   rw [List.take_zero, List.flatMap_nil, List.length_nil]
   omega
  |succ i ih =>
   by_cases hi : i < l.length
   ·have := bytesF_len (s := l[i]) (hs _ (List.getElem_mem _))
    rw [flat_take hi, List.length_append]; omega
   ·rw [List.take_of_length_le (by omega)]
    rw [List.take_of_length_le (by omega)] at ih
    exact Nat.le_trans ih (Nat.mul_le_mul_right _ (Nat.le_succ i))
 refine loop_for (J := fun i e τ => i ≤ l.length ∧ ∃ cs ver, e = [(4, .pointer (some ⟨σ.size, 0, none⟩)), (5, .pointer (some ⟨σ.size + 2, 0, none⟩)), (15, .slice base l.length cp), (16, .int .i64 (l.length : Int)), (17, .int .i64 (i : Int))] ∧ Old σ τ ∧
   τ[σ.size]? = some (.cells 0 (digC (List.replicate 16 0)) (0, 0)) ∧ τ[σ.size + 2]? = some (.cells ver cs (0, 0)) ∧ IsS cs (inputF tag (l.take i))) l.length
  ⟨by omega, cs1, 1, rfl, .ap, ap_new0, ap_new, hb1⟩ ?_
 clear hb1 c1 tk1 ne1 st1 on1 hb0
 rintro i e τ hi ⟨_, cs, ver, rfl, ho, z0, z2, hcs⟩
 have c1 := hcs.len
 have tk1 : cs.take 73 = cs := List.take_of_length_le (by omega)
 have t0 : σ.size < τ.size := (Array.getElem?_eq_some_iff.1 z0).1
 have t2 : σ.size + 2 < τ.size := (Array.getElem?_eq_some_iff.1 z2).1
 have hml : (inputF tag (l.take i)).length < 50000000000000 := by
  have := hlen i
  simp only [inputF, partsF, List.length_cons]; omega
 have r2 : rdN τ ⟨σ.size + 2, 0, none⟩ 73 = some cs := rdN_all z2 c1
 by_cases hlt : i < l.length
 ·have dl : decide ((i : Int) < (l.length : Int)) = true := by rw [decide_eq_true]; omega
  have hb : (0:Int) ≤ (i:Int) ∧ (i:Int) < (l.length : Int) := by omega
  have hw : IntKind.wrap .i64 ((i:Int) + 1) = ((i + 1 : Nat) : Int) := by rw [wrap64' (by omega) (by omega)]; omega
  obtain ⟨b, off, rfl, h1⟩ := hr.at (by omega)
  have hrd : rd1 τ ⟨b, off + i, none⟩ = some (.string l[i]) := rd1_Old ho (rd1_row h1 (by simp [hlt]))
  have hsi := hs l[i] (List.getElem_mem _)
  have htk := inputF_take (tag := tag) hlt
  generalize l[i] = s at hrd hsi htk
  simp only [↓eD, eZ, ↓reduceIte, Nat.reduceEqDiff, Nat.reduceAdd, Nat.reduceMul, reduceCtorEq, Nat.reduceLeDiff, Int.reduceLT, Int.reduceLE, Int.reduceToNat, Int.reduceEq, Nat.reduceLT, dl, hb, Int.toNat_natCast, Nat.mul_one, hrd, r2]
  refine appK_of (wbytes_app (s := s) (by omega)) ?_
  rintro w τ2 ⟨ho2, hg2⟩
  obtain ⟨wb, wc, rfl⟩ := hg2.slice
  have hwl := bytesF_len hsi
  have hwp : 0 < (bytesF s).length := by
   unfold bytesF intF varF
   split <;> simp <;> omega
  obtain ⟨bk, bo, rfl, h2⟩ := hg2.whl.at hwp
  rw [Nat.mul_one] at h2
  have r2' : rdN τ2 ⟨σ.size + 2, 0, none⟩ 73 = some cs := rdN_Old ho2 r2
  have y0 := (ho2.2 _ t0).trans z0
  have y2 := (ho2.2 _ t2).trans z2
  simp only [↓eD, eZ, ↓reduceIte, Nat.reduceEqDiff, Nat.reduceAdd, Nat.reduceMul, reduceCtorEq, Nat.reduceLeDiff, Int.reduceLT, Int.reduceLE, Int.reduceToNat, Int.reduceEq, Nat.reduceLT, r2', h2, Option.bind_some, bytesOf_dig]
  have hbs : Value.string { data := (List.map (fun x : Int => UInt8.ofNat x.toNat) (bytesF s)).toArray } = .string (bytesS (bytesF s)) := rfl
  rw [hbs]
  refine appK_of (add_app (σ := τ2) hcs (by omega) (by rw [bytesS_size']; omega) (hG.Old (ho.trans ho2))) ?_
  rintro _ _ ⟨e2, cs2, rfl, hcs2⟩
  rw [e2]
  clear e2
  rw [strI_bytesS bytesF_byt, ← htk] at hcs2
  have c2 := hcs2.len
  have tk2 : cs2.take 73 = cs2 := List.take_of_length_le (by omega)
  have ne2 : (cs2 = []) = False := eq_false (by intro h; rw [h] at c2; simp at c2)
  have w2 : wrN τ2 ⟨σ.size + 2, 0, none⟩ cs2 = some (τ2.setIfInBounds (σ.size + 2) (.cells (ver + 1) cs2 (0, 0))) := by
   rw [wrN_eq, if_neg (by rw [ne2]; exact id), y2, wrc_cells, if_pos ⟨by show 0 + cs2.length ≤ cs.length; omega, hcs2.one⟩, sets_all (l := cs2) (z := cs) (o := 0) (by omega), List.take_zero, List.nil_append, List.drop_of_length_le (by omega), List.append_nil]; rfl
  simp only [↓eD, eZ, ↓reduceIte, Nat.reduceEqDiff, Nat.reduceAdd, Nat.reduceMul, reduceCtorEq, Nat.reduceLeDiff, Int.reduceLT, Int.reduceLE, Int.reduceToNat, Int.reduceEq, Nat.reduceLT, c2, tk2, ne2, w2, hw]
  exact ⟨hlt, by omega, cs2, ver + 1, (ho.trans ho2).set (by omega), (get_set_ne (by omega)).trans y0, get_set y2, hcs2⟩
 ·have : i = l.length := by omega
  subst this
  have dl : decide ((l.length : Int) < (l.length : Int)) = false := by rw [decide_eq_false]; omega
  rw [List.take_length] at hcs hml
  have hof : shortF (inputF tag l) = ofF tag l := by rw [ofF]
  have t32 := digC_take (l := sumF (inputF tag l)) sumF_len
  have s32 := digC_sets (z := List.replicate 32 0) (l := sumF (inputF tag l)) (by simp [sumF_len])
  have n32 := digC_ne' (l := sumF (inputF tag l)) sumF_len (by omega)
  have t16 := digC_take (l := ofF tag l) ofF_len
  have u16 := digC_sets (z := List.replicate 16 0) (l := ofF tag l) (by simp [ofF_len])
  have m16 := digC_ne' (l := ofF tag l) ofF_len (by omega)
  have htk16 : (digC (sumF (inputF tag l))).take 16 = digC (ofF tag l) := by
   rw [← hof, shortF]; simp [digC]
  have sa : ∀ n, Cn.sliceArr 32 1 (.pointer (some ⟨n, 0, none⟩)) none (some (.int .i64 16)) none = some (.slice (some ⟨n, 0, none⟩) 16 32) := fun n => rfl
  have w2 : ∀ L, wrN (ap τ L) ⟨σ.size, 0, none⟩ (digC (ofF tag l)) = some ((ap τ L).setIfInBounds σ.size (.cells 1 (digC (ofF tag l)) (0, 0))) := fun L => by
   rw [wrN_eq, if_neg (by rw [m16]; exact id), (ap_old t0).trans z0, wrc_cells, u16, if_pos ⟨by simp [digC_length, ofF_len], digC_one⟩]; rfl
  have r16 : ∀ L, rdN ((ap τ L).setIfInBounds σ.size (.cells 1 (digC (ofF tag l)) (0, 0))) ⟨σ.size, 0, none⟩ 16 = some (digC (ofF tag l)) := fun L => rdN_all (get_set ((ap_old t0).trans z0)) (by rw [digC_length, ofF_len])
  have l32 : 16 ≤ (digC (sumF (inputF tag l))).length := by rw [digC_length, sumF_len]; omega
  simp only [↓eD, eZ, ↓reduceIte, Nat.reduceEqDiff, Nat.reduceAdd, Nat.reduceMul, reduceCtorEq, Nat.reduceLeDiff, Int.reduceLT, Int.reduceLE, Int.reduceToNat, Int.reduceEq, Nat.reduceLT, dl, r2]
  refine appK_at (stream_sum_app hcs (by omega) (hG.Old ho)) ?_
  rw [← ap_nil (σ := τ)]
  simp only [↓eD, eZ, ↓reduceIte, Nat.reduceEqDiff, Nat.reduceAdd, Nat.reduceMul, reduceCtorEq, Nat.reduceLeDiff, Int.reduceLT, Int.reduceLE, Int.reduceToNat, Int.reduceEq, Nat.reduceLT, digC_rep, digC_length, sumF_len, t32, s32, n32, digC_one, List.length_replicate, sa, htk16, l32, w2, ofF_len, t16, r16]
  rw [ap_nil]
  exact ⟨(ho.trans .ap).set (Nat.le_refl _), flat_dig⟩
set_option maxHeartbeats 1000000
variable {σ : H}
theorem cellsI : Tryd.prog.cellsOf 3 = 1 := by kernel_rfl
theorem cellsB : Tryd.prog.cellsOf 5 = 1 := by kernel_rfl
theorem dat_int {v : Value} (h : Dat Tryd.prog σ 3 v) : ∃ n, v = .int .i64 n ∧ -9223372036854775808 ≤ n ∧ n < 9223372036854775808 := by
 simp only [Dat, Tryd.underlying3] at h
 obtain ⟨f, h⟩ := h
 obtain ⟨n, h, h1, h2⟩ := rd_int Tryd.underlying3 h
 injection h with h
 exact ⟨n, h, h1, by have : n ≤ 9223372036854775807 := h2; omega⟩
end Go.Proofs.YtjgbbhfihcmphaaDoor
