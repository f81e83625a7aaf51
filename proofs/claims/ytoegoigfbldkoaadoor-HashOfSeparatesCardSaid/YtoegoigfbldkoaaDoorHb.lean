/- Walks of the functions that the claim reaches. Conditions: none. -/
import Derived.Test.YtoegoigfbldkoaaDoorHa
set_option linter.all false
set_option linter.unusedSimpArgs false
set_option linter.unusedVariables false
set_option maxRecDepth 10000
set_option maxHeartbeats 1000000
namespace Go.Proofs.YtoegoigfbldkoaaDoor
open Go Go.Cn Go.RowKit
attribute [local irreducible] evL sem onG onI onV

theorem natL_bytesS {b : List Int} (h : Byt b) : natL (bytesS b) = b.map Int.toNat := by
  simp only [natL, bytesS, List.map_map]
  refine List.map_congr_left fun x hx => ?_
  have := h x hx
  simp only [Function.comp_apply, UInt8.toNat_ofNat']
  omega
theorem bytesS_size {b : List Int} : (bytesS b).size = b.length := by simp [bytesS, ByteArray.size]
/-- The check of a message. -/
def crcF (l : List Nat) : Int := valF (runY (BitVec.allOnes 40) l)
theorem crcF_range {l : List Nat} : 0 ≤ crcF l ∧ crcF l < 1099511627776 := valF_range

theorem crc40_app {b : List Int} {sl : Value} {σ : H} (hb : Byt b) (hr : Whl σ 1 sl b.length (digC b)) (hl : b.length < 100000000000000) (hG : NGlob σ) : App Tryd.prog (.func 16) #[] #[sl] σ fun v σ' => σ' = σ ∧ v = .int .i64 (crcF (b.map Int.toNat)) := by
  refine App.of_sem mixed Tryd.func16 t16 k16 r16 (Nat.le_of_ble_eq_true rfl) ?_
  unfold s16
  obtain ⟨bs, cc, rfl⟩ := hr.slice
  have tail : ∀ s : ByteArray, s.size = b.length → natL s = b.map Int.toNat → ∀ K : Value → H → Prop, (∀ v σ', σ' = σ ∧ v = .agg #[.int .u64 ((runY (BitVec.allOnes 40) (b.map Int.toNat)).toNat : Int)] → K v σ') → @appK Tryd.prog (.func 20) #[] #[.agg #[.int .u64 ((BitVec.allOnes 40).toNat : Int)], .string s] σ ⟨K⟩ := by
    intro s h1 h2 K hK
    refine appK_of (add_crc_app (r := BitVec.allOnes 40) (s := s) (by omega) hG) ?_
    rw [h2]
    exact hK
  by_cases h0 : b.length = 0
  · have hbe : b = [] := List.length_eq_zero_iff.1 h0
    subst hbe
    cases bs with
    | none =>
      simp only [↓eD0, ↓eD1, eC0, eC1, eC2, eC3, eC4, eC5, eC6, wantedE, ↓reduceIte, Nat.reduceEqDiff, Option.map_some, Option.map_none, reread, List.nil_append, List.cons_append, List.map_cons, List.map_nil, List.length_nil, List.length_cons, Value.cells, List.getElem?_cons_zero, List.getElem?_cons_succ, outE, lks, lkR, rdV, neg1, evs, opt, Nat.reduceAdd, Nat.reduceMul, and_self, reduceCtorEq, List.size_toArray, List.all_cons, List.all_nil, Value.oneCell', List.set_cons_zero, List.set_cons_succ, sets, fillL, Nat.reduceLeDiff, List.drop_succ_cons, List.drop_zero, List.take_succ_cons, List.take_zero, List.toList_toArray, argsE, Array.append_empty, Array.empty_append, List.getElem?_toArray, Int.reduceLT, Int.reduceLE, Int.reduceToNat, Int.reduceEq, Nat.reduceLT]
      refine appK_of begin_crc_app ?_
      rintro _ _ ⟨e2, rfl⟩
      rw [e2]
      clear e2
      simp only [↓eD0, ↓eD1, eC0, eC1, eC2, eC3, eC4, eC5, eC6, wantedE, ↓reduceIte, Nat.reduceEqDiff, Option.map_some, Option.map_none, reread, List.nil_append, List.cons_append, List.map_cons, List.map_nil, List.length_nil, List.length_cons, Value.cells, List.getElem?_cons_zero, List.getElem?_cons_succ, outE, lks, lkR, rdV, neg1, evs, opt, Nat.reduceAdd, Nat.reduceMul, and_self, reduceCtorEq, List.size_toArray, List.all_cons, List.all_nil, Value.oneCell', List.set_cons_zero, List.set_cons_succ, sets, fillL, Nat.reduceLeDiff, List.drop_succ_cons, List.drop_zero, List.take_succ_cons, List.take_zero, List.toList_toArray, argsE, Array.append_empty, Array.empty_append, List.getElem?_toArray, Int.reduceLT, Int.reduceLE, Int.reduceToNat, Int.reduceEq, Nat.reduceLT]
      refine tail ByteArray.empty rfl rfl _ ?_
      rintro _ _ ⟨e2, rfl⟩
      rw [e2]
      clear e2
      simp only [↓eD0, ↓eD1, eC0, eC1, eC2, eC3, eC4, eC5, eC6, wantedE, ↓reduceIte, Nat.reduceEqDiff, Option.map_some, Option.map_none, reread, List.nil_append, List.cons_append, List.map_cons, List.map_nil, List.length_nil, List.length_cons, Value.cells, List.getElem?_cons_zero, List.getElem?_cons_succ, outE, lks, lkR, rdV, neg1, evs, opt, Nat.reduceAdd, Nat.reduceMul, and_self, reduceCtorEq, List.size_toArray, List.all_cons, List.all_nil, Value.oneCell', List.set_cons_zero, List.set_cons_succ, sets, fillL, Nat.reduceLeDiff, List.drop_succ_cons, List.drop_zero, List.take_succ_cons, List.take_zero, List.toList_toArray, argsE, Array.append_empty, Array.empty_append, List.getElem?_toArray, Int.reduceLT, Int.reduceLE, Int.reduceToNat, Int.reduceEq, Nat.reduceLT]
      refine appK_of (value_app (r := runY (BitVec.allOnes 40) [])) ?_
      rintro _ _ ⟨e2, rfl⟩
      rw [e2]
      clear e2
      simp only [↓eD0, ↓eD1, eC0, eC1, eC2, eC3, eC4, eC5, eC6, wantedE, ↓reduceIte, Nat.reduceEqDiff, Option.map_some, Option.map_none, reread, List.nil_append, List.cons_append, List.map_cons, List.map_nil, List.length_nil, List.length_cons, Value.cells, List.getElem?_cons_zero, List.getElem?_cons_succ, outE, lks, lkR, rdV, neg1, evs, opt, Nat.reduceAdd, Nat.reduceMul, and_self, reduceCtorEq, List.size_toArray, List.all_cons, List.all_nil, Value.oneCell', List.set_cons_zero, List.set_cons_succ, sets, fillL, Nat.reduceLeDiff, List.drop_succ_cons, List.drop_zero, List.take_succ_cons, List.take_zero, List.toList_toArray, argsE, Array.append_empty, Array.empty_append, List.getElem?_toArray, Int.reduceLT, Int.reduceLE, Int.reduceToNat, Int.reduceEq, Nat.reduceLT]
      rfl
    | some a =>
      have hz : rdN σ a 0 = some [] := by simp [rdN]
      simp only [↓eD0, ↓eD1, eC0, eC1, eC2, eC3, eC4, eC5, eC6, wantedE, ↓reduceIte, Nat.reduceEqDiff, Option.map_some, Option.map_none, reread, List.nil_append, List.cons_append, List.map_cons, List.map_nil, List.length_nil, List.length_cons, Value.cells, List.getElem?_cons_zero, List.getElem?_cons_succ, outE, lks, lkR, rdV, neg1, evs, opt, Nat.reduceAdd, Nat.reduceMul, and_self, reduceCtorEq, List.size_toArray, List.all_cons, List.all_nil, Value.oneCell', List.set_cons_zero, List.set_cons_succ, sets, fillL, Nat.reduceLeDiff, List.drop_succ_cons, List.drop_zero, List.take_succ_cons, List.take_zero, List.toList_toArray, argsE, Array.append_empty, Array.empty_append, List.getElem?_toArray, Int.reduceLT, Int.reduceLE, Int.reduceToNat, Int.reduceEq, Nat.reduceLT, hz, Option.bind_some, bytesOf]
      refine appK_of begin_crc_app ?_
      rintro _ _ ⟨e2, rfl⟩
      rw [e2]
      clear e2
      simp only [↓eD0, ↓eD1, eC0, eC1, eC2, eC3, eC4, eC5, eC6, wantedE, ↓reduceIte, Nat.reduceEqDiff, Option.map_some, Option.map_none, reread, List.nil_append, List.cons_append, List.map_cons, List.map_nil, List.length_nil, List.length_cons, Value.cells, List.getElem?_cons_zero, List.getElem?_cons_succ, outE, lks, lkR, rdV, neg1, evs, opt, Nat.reduceAdd, Nat.reduceMul, and_self, reduceCtorEq, List.size_toArray, List.all_cons, List.all_nil, Value.oneCell', List.set_cons_zero, List.set_cons_succ, sets, fillL, Nat.reduceLeDiff, List.drop_succ_cons, List.drop_zero, List.take_succ_cons, List.take_zero, List.toList_toArray, argsE, Array.append_empty, Array.empty_append, List.getElem?_toArray, Int.reduceLT, Int.reduceLE, Int.reduceToNat, Int.reduceEq, Nat.reduceLT]
      refine ⟨by simp only [hz, Option.bind_some, bytesOf, Option.map_some], tail ⟨#[]⟩ rfl rfl _ ?_⟩
      rintro _ _ ⟨e2, rfl⟩
      rw [e2]
      clear e2
      simp only [↓eD0, ↓eD1, eC0, eC1, eC2, eC3, eC4, eC5, eC6, wantedE, ↓reduceIte, Nat.reduceEqDiff, Option.map_some, Option.map_none, reread, List.nil_append, List.cons_append, List.map_cons, List.map_nil, List.length_nil, List.length_cons, Value.cells, List.getElem?_cons_zero, List.getElem?_cons_succ, outE, lks, lkR, rdV, neg1, evs, opt, Nat.reduceAdd, Nat.reduceMul, and_self, reduceCtorEq, List.size_toArray, List.all_cons, List.all_nil, Value.oneCell', List.set_cons_zero, List.set_cons_succ, sets, fillL, Nat.reduceLeDiff, List.drop_succ_cons, List.drop_zero, List.take_succ_cons, List.take_zero, List.toList_toArray, argsE, Array.append_empty, Array.empty_append, List.getElem?_toArray, Int.reduceLT, Int.reduceLE, Int.reduceToNat, Int.reduceEq, Nat.reduceLT]
      refine appK_of (value_app (r := runY (BitVec.allOnes 40) [])) ?_
      rintro _ _ ⟨e2, rfl⟩
      rw [e2]
      clear e2
      simp only [↓eD0, ↓eD1, eC0, eC1, eC2, eC3, eC4, eC5, eC6, wantedE, ↓reduceIte, Nat.reduceEqDiff, Option.map_some, Option.map_none, reread, List.nil_append, List.cons_append, List.map_cons, List.map_nil, List.length_nil, List.length_cons, Value.cells, List.getElem?_cons_zero, List.getElem?_cons_succ, outE, lks, lkR, rdV, neg1, evs, opt, Nat.reduceAdd, Nat.reduceMul, and_self, reduceCtorEq, List.size_toArray, List.all_cons, List.all_nil, Value.oneCell', List.set_cons_zero, List.set_cons_succ, sets, fillL, Nat.reduceLeDiff, List.drop_succ_cons, List.drop_zero, List.take_succ_cons, List.take_zero, List.toList_toArray, argsE, Array.append_empty, Array.empty_append, List.getElem?_toArray, Int.reduceLT, Int.reduceLE, Int.reduceToNat, Int.reduceEq, Nat.reduceLT]
      rfl
  · obtain ⟨bk, off, rfl, h2⟩ := hr.at (by omega)
    rw [Nat.mul_one] at h2
    simp only [↓eD0, ↓eD1, eC0, eC1, eC2, eC3, eC4, eC5, eC6, wantedE, ↓reduceIte, Nat.reduceEqDiff, Option.map_some, Option.map_none, reread, List.nil_append, List.cons_append, List.map_cons, List.map_nil, List.length_nil, List.length_cons, Value.cells, List.getElem?_cons_zero, List.getElem?_cons_succ, outE, lks, lkR, rdV, neg1, evs, opt, Nat.reduceAdd, Nat.reduceMul, and_self, reduceCtorEq, List.size_toArray, List.all_cons, List.all_nil, Value.oneCell', List.set_cons_zero, List.set_cons_succ, sets, fillL, Nat.reduceLeDiff, List.drop_succ_cons, List.drop_zero, List.take_succ_cons, List.take_zero, List.toList_toArray, argsE, Array.append_empty, Array.empty_append, List.getElem?_toArray, Int.reduceLT, Int.reduceLE, Int.reduceToNat, Int.reduceEq, Nat.reduceLT, h2, Option.bind_some, bytesOf_dig]
    refine appK_of begin_crc_app ?_
    rintro _ _ ⟨e2, rfl⟩
    rw [e2]
    clear e2
    simp only [↓eD0, ↓eD1, eC0, eC1, eC2, eC3, eC4, eC5, eC6, wantedE, ↓reduceIte, Nat.reduceEqDiff, Option.map_some, Option.map_none, reread, List.nil_append, List.cons_append, List.map_cons, List.map_nil, List.length_nil, List.length_cons, Value.cells, List.getElem?_cons_zero, List.getElem?_cons_succ, outE, lks, lkR, rdV, neg1, evs, opt, Nat.reduceAdd, Nat.reduceMul, and_self, reduceCtorEq, List.size_toArray, List.all_cons, List.all_nil, Value.oneCell', List.set_cons_zero, List.set_cons_succ, sets, fillL, Nat.reduceLeDiff, List.drop_succ_cons, List.drop_zero, List.take_succ_cons, List.take_zero, List.toList_toArray, argsE, Array.append_empty, Array.empty_append, List.getElem?_toArray, Int.reduceLT, Int.reduceLE, Int.reduceToNat, Int.reduceEq, Nat.reduceLT]
    refine ⟨by rw [h2, Option.bind_some, bytesOf_dig]; rfl, tail _ (bytesS_size (b := b)) (natL_bytesS hb) _ ?_⟩
    rintro _ _ ⟨e2, rfl⟩
    rw [e2]
    clear e2
    simp only [↓eD0, ↓eD1, eC0, eC1, eC2, eC3, eC4, eC5, eC6, wantedE, ↓reduceIte, Nat.reduceEqDiff, Option.map_some, Option.map_none, reread, List.nil_append, List.cons_append, List.map_cons, List.map_nil, List.length_nil, List.length_cons, Value.cells, List.getElem?_cons_zero, List.getElem?_cons_succ, outE, lks, lkR, rdV, neg1, evs, opt, Nat.reduceAdd, Nat.reduceMul, and_self, reduceCtorEq, List.size_toArray, List.all_cons, List.all_nil, Value.oneCell', List.set_cons_zero, List.set_cons_succ, sets, fillL, Nat.reduceLeDiff, List.drop_succ_cons, List.drop_zero, List.take_succ_cons, List.take_zero, List.toList_toArray, argsE, Array.append_empty, Array.empty_append, List.getElem?_toArray, Int.reduceLT, Int.reduceLE, Int.reduceToNat, Int.reduceEq, Nat.reduceLT]
    refine appK_of (value_app (r := runY (BitVec.allOnes 40) (b.map Int.toNat))) ?_
    rintro _ _ ⟨e2, rfl⟩
    rw [e2]
    clear e2
    simp only [↓eD0, ↓eD1, eC0, eC1, eC2, eC3, eC4, eC5, eC6, wantedE, ↓reduceIte, Nat.reduceEqDiff, Option.map_some, Option.map_none, reread, List.nil_append, List.cons_append, List.map_cons, List.map_nil, List.length_nil, List.length_cons, Value.cells, List.getElem?_cons_zero, List.getElem?_cons_succ, outE, lks, lkR, rdV, neg1, evs, opt, Nat.reduceAdd, Nat.reduceMul, and_self, reduceCtorEq, List.size_toArray, List.all_cons, List.all_nil, Value.oneCell', List.set_cons_zero, List.set_cons_succ, sets, fillL, Nat.reduceLeDiff, List.drop_succ_cons, List.drop_zero, List.take_succ_cons, List.take_zero, List.toList_toArray, argsE, Array.append_empty, Array.empty_append, List.getElem?_toArray, Int.reduceLT, Int.reduceLE, Int.reduceToNat, Int.reduceEq, Nat.reduceLT]
    rfl

theorem bits8_eq {x : Nat} : bits8 x = (List.range 8).map fun k => x.testBit (7 - k) := by
  simp [bits8, four, Nat.testBit_shiftRight, List.range, List.range.loop]
theorem bits8_len {x : Nat} : (bits8 x).length = 8 := by simp [bits8_eq]
theorem bits8_take {x k : Nat} (h : k < 8) : (bits8 x).take (k + 1) = (bits8 x).take k ++ [x.testBit (7 - k)] := by
  rw [List.take_succ_eq_append_getElem (by rw [bits8_len]; exact h)]
  congr 2
  simp [bits8_eq]
theorem byte_bit {x i : Nat} (h : x < 256) : IntKind.wrap .u64 (BitVec.ofInt (IntKind.bits .u64) ((x >>> i : Nat) : Int) &&& BitVec.ofInt (IntKind.bits .u64) 1).toNat = (((x.testBit i).toNat : Nat) : Int) := by
  have : x >>> i ≤ x := Nat.shiftRight_le _ _
  rw [show BitVec.ofInt (IntKind.bits .u64) 1 = BitVec.ofInt (IntKind.bits .u64) ((1 : Nat) : Int) from rfl, and_u64 (by omega) (by omega)]
  congr 1
  rw [Nat.and_one_is_mod, Nat.testBit_eq_decide_div_mod_eq, Nat.shiftRight_eq_div_pow]
  have := Nat.mod_lt (x / 2 ^ i) (by omega : 2 > 0)
  by_cases h : x / 2 ^ i % 2 = 1
  · rw [h]; rfl
  · rw [decide_eq_false h]; simp; omega
theorem xor_ones {r : V40} : IntKind.wrap .u64 (BitVec.ofInt (IntKind.bits .u64) (r.toNat : Int) ^^^ BitVec.ofInt (IntKind.bits .u64) 1099511627775).toNat = valF r := by
  have hr : r.toNat < 1099511627776 := r.isLt
  rw [show BitVec.ofInt (IntKind.bits .u64) 1099511627775 = BitVec.ofInt (IntKind.bits .u64) ((1099511627775 : Nat) : Int) from rfl, xor_u64 (by omega) (by omega)]
  unfold valF
  rw [BitVec.toNat_xor, ones_nat]
theorem wrap_val {r : V40} : IntKind.wrap .i64 (valF r) = valF r := wrap64' (by have := valF_range (r := r); omega) (by have := valF_range (r := r); omega)

theorem ref_crc40_app {b : List Int} {sl : Value} {σ : H} (hb : Byt b) (hr : Whl σ 1 sl b.length (digC b)) (hl : b.length < 100000000000000) : App Tryd.prog (.func 17) #[] #[sl] σ fun v σ' => σ' = σ ∧ v = .int .i64 (crcF (b.map Int.toNat)) := by
  refine App.of_sem mixed Tryd.func17 t17 k17 r17 (Nat.le_of_ble_eq_true rfl) ?_
  unfold s17
  obtain ⟨bs, cc, rfl⟩ := hr.slice
  have z : Value.int .u64 1099511627775 = .int .u64 ((BitVec.allOnes 40).toNat : Int) := by rw [ones_nat]; rfl
  simp only [↓eD0, ↓eD1, eC0, eC1, eC2, eC3, eC4, eC5, eC6, wantedE, ↓reduceIte, Nat.reduceEqDiff, Option.map_some, Option.map_none, reread, List.nil_append, List.cons_append, List.map_cons, List.map_nil, List.length_nil, List.length_cons, Value.cells, List.getElem?_cons_zero, List.getElem?_cons_succ, outE, lks, lkR, rdV, neg1, evs, opt, Nat.reduceAdd, Nat.reduceMul, and_self, reduceCtorEq, List.size_toArray, List.all_cons, List.all_nil, Value.oneCell', List.set_cons_zero, List.set_cons_succ, sets, fillL, Nat.reduceLeDiff, List.drop_succ_cons, List.drop_zero, List.take_succ_cons, List.take_zero, List.toList_toArray, argsE, Array.append_empty, Array.empty_append, List.getElem?_toArray, Int.reduceLT, Int.reduceLE, Int.reduceToNat, Int.reduceEq, Nat.reduceLT]
  refine loop_for (J := fun i e τ => i ≤ b.length ∧ e = [(0, .slice bs b.length cc), (3, .int .u64 ((runY (BitVec.allOnes 40) ((b.map Int.toNat).take i)).toNat : Int)), (4, .int .i64 (i : Int))] ∧ τ = σ) b.length
    ⟨by omega, by rw [z]; rfl, rfl⟩ ?_
  rintro i e τ hi ⟨_, rfl, rfl⟩
  by_cases hlt : i < b.length
  · have dl : decide ((i : Int) < (b.length : Int)) = true := by rw [decide_eq_true]; omega
    obtain ⟨bk, off, rfl, h2⟩ := hr.at (by omega)
    rw [Nat.mul_one] at h2
    have hrd : rd1 τ ⟨bk, off + i, none⟩ = some (.int .u8 b[i]) := rd1_row h2 (by simp [digC, hlt])
    have hx := hb b[i] (by simp)
    have hn : ∃ x : Nat, b[i] = (x : Int) ∧ x < 256 := ⟨b[i].toNat, by omega, by omega⟩
    obtain ⟨x, hx1, hx2⟩ := hn
    have htk : (b.map Int.toNat).take (i + 1) = (b.map Int.toNat).take i ++ [x] := by
      rw [List.take_succ_eq_append_getElem (by simpa using hlt)]
      simp [hx1]
    have hrun : runY (BitVec.allOnes 40) ((b.map Int.toNat).take (i + 1)) = runB (runY (BitVec.allOnes 40) ((b.map Int.toNat).take i)) (bits8 x) := by
      rw [htk]
      simp only [runY, bitsY, List.flatMap_append, runB_app, List.flatMap_cons, List.flatMap_nil, List.append_nil]
    generalize runY (BitVec.allOnes 40) ((b.map Int.toNat).take i) = R at hrun ⊢
    have hbb : (0:Int) ≤ (i : Int) ∧ (i : Int) < (b.length : Int) := by omega
    have hwi : IntKind.wrap .i64 ((i : Int) + 1) = ((i + 1 : Nat) : Int) := by rw [wrap64' (by omega) (by omega)]; omega
    simp only [↓eD0, ↓eD1, eC0, eC1, eC2, eC3, eC4, eC5, eC6, wantedE, ↓reduceIte, Nat.reduceEqDiff, Option.map_some, Option.map_none, reread, List.nil_append, List.cons_append, List.map_cons, List.map_nil, List.length_nil, List.length_cons, Value.cells, List.getElem?_cons_zero, List.getElem?_cons_succ, outE, lks, lkR, rdV, neg1, evs, opt, Nat.reduceAdd, Nat.reduceMul, and_self, reduceCtorEq, List.size_toArray, List.all_cons, List.all_nil, Value.oneCell', List.set_cons_zero, List.set_cons_succ, sets, fillL, Nat.reduceLeDiff, List.drop_succ_cons, List.drop_zero, List.take_succ_cons, List.take_zero, List.toList_toArray, argsE, Array.append_empty, Array.empty_append, List.getElem?_toArray, Int.reduceLT, Int.reduceLE, Int.reduceToNat, Int.reduceEq, Nat.reduceLT, dl]
    refine loop_for (J := fun k e τ' => k ≤ 8 ∧ e = [(0, .slice (some ⟨bk, off, none⟩) b.length cc), (3, .int .u64 ((runB R ((bits8 x).take k)).toNat : Int)), (4, .int .i64 (i : Int)), (5, .int .i64 (k : Int))] ∧ τ' = τ) 8 ⟨by omega, rfl, rfl⟩ ?_
    rintro k e τ' hk ⟨_, rfl, rfl⟩
    by_cases hk8 : k < 8
    · have dk : decide ((k : Int) < 8) = true := by rw [decide_eq_true]; omega
      have hwk : IntKind.wrap .i64 ((k : Int) + 1) = ((k + 1 : Nat) : Int) := by rw [wrap64' (by omega) (by omega)]; omega
      have h7 : IntKind.wrap .i64 (7 - (k : Int)) = ((7 - k : Nat) : Int) := by rw [wrap64' (by omega) (by omega)]; omega
      have h7n : ¬ ((7 - k : Nat) : Int) < 0 := by omega
      have hxw : IntKind.wrap .u64 ((x : Nat) : Int) = (x : Int) := wrap_u64 (by omega) (by omega)
      have hsh : ((x : Int)).fdiv (2 ^ min (7 - k) (IntKind.bits .u64)) = ((x >>> (7 - k) : Nat) : Int) := shr_nat (by show 7 - k ≤ 64; omega)
      rw [hx1] at hrd
      simp only [↓eD0, ↓eD1, eC0, eC1, eC2, eC3, eC4, eC5, eC6, wantedE, ↓reduceIte, Nat.reduceEqDiff, Option.map_some, Option.map_none, reread, List.nil_append, List.cons_append, List.map_cons, List.map_nil, List.length_nil, List.length_cons, Value.cells, List.getElem?_cons_zero, List.getElem?_cons_succ, outE, lks, lkR, rdV, neg1, evs, opt, Nat.reduceAdd, Nat.reduceMul, and_self, reduceCtorEq, List.size_toArray, List.all_cons, List.all_nil, Value.oneCell', List.set_cons_zero, List.set_cons_succ, sets, fillL, Nat.reduceLeDiff, List.drop_succ_cons, List.drop_zero, List.take_succ_cons, List.take_zero, List.toList_toArray, argsE, Array.append_empty, Array.empty_append, List.getElem?_toArray, Int.reduceLT, Int.reduceLE, Int.reduceToNat, Int.reduceEq, Nat.reduceLT, dk, hbb, Int.toNat_natCast, Nat.mul_one, hrd, hxw, h7, h7n, hsh, byte_bit hx2]
      refine appK_of step_app ?_
      rintro _ _ ⟨e2, rfl⟩
      rw [e2]
      clear e2
      simp only [↓eD0, ↓eD1, eC0, eC1, eC2, eC3, eC4, eC5, eC6, wantedE, ↓reduceIte, Nat.reduceEqDiff, Option.map_some, Option.map_none, reread, List.nil_append, List.cons_append, List.map_cons, List.map_nil, List.length_nil, List.length_cons, Value.cells, List.getElem?_cons_zero, List.getElem?_cons_succ, outE, lks, lkR, rdV, neg1, evs, opt, Nat.reduceAdd, Nat.reduceMul, and_self, reduceCtorEq, List.size_toArray, List.all_cons, List.all_nil, Value.oneCell', List.set_cons_zero, List.set_cons_succ, sets, fillL, Nat.reduceLeDiff, List.drop_succ_cons, List.drop_zero, List.take_succ_cons, List.take_zero, List.toList_toArray, argsE, Array.append_empty, Array.empty_append, List.getElem?_toArray, Int.reduceLT, Int.reduceLE, Int.reduceToNat, Int.reduceEq, Nat.reduceLT, hwk]
      refine ⟨hk8, by omega, ?_⟩
      rw [bits8_take hk8, runB_app]
      rfl
    · have : k = 8 := by omega
      subst this
      have dk : decide (((8 : Nat) : Int) < 8) = false := by decide
      rw [List.take_of_length_le (by rw [bits8_len]; omega), ← hrun]
      simp only [↓eD0, ↓eD1, eC0, eC1, eC2, eC3, eC4, eC5, eC6, wantedE, ↓reduceIte, Nat.reduceEqDiff, Option.map_some, Option.map_none, reread, List.nil_append, List.cons_append, List.map_cons, List.map_nil, List.length_nil, List.length_cons, Value.cells, List.getElem?_cons_zero, List.getElem?_cons_succ, outE, lks, lkR, rdV, neg1, evs, opt, Nat.reduceAdd, Nat.reduceMul, and_self, reduceCtorEq, List.size_toArray, List.all_cons, List.all_nil, Value.oneCell', List.set_cons_zero, List.set_cons_succ, sets, fillL, Nat.reduceLeDiff, List.drop_succ_cons, List.drop_zero, List.take_succ_cons, List.take_zero, List.toList_toArray, argsE, Array.append_empty, Array.empty_append, List.getElem?_toArray, Int.reduceLT, Int.reduceLE, Int.reduceToNat, Int.reduceEq, Nat.reduceLT, dk, hwi]
      exact ⟨hlt, by omega⟩
  · have : i = b.length := by omega
    subst this
    have dl : decide ((b.length : Int) < (b.length : Int)) = false := by rw [decide_eq_false]; omega
    rw [List.take_of_length_le (by simp)]
    simp only [↓eD0, ↓eD1, eC0, eC1, eC2, eC3, eC4, eC5, eC6, wantedE, ↓reduceIte, Nat.reduceEqDiff, Option.map_some, Option.map_none, reread, List.nil_append, List.cons_append, List.map_cons, List.map_nil, List.length_nil, List.length_cons, Value.cells, List.getElem?_cons_zero, List.getElem?_cons_succ, outE, lks, lkR, rdV, neg1, evs, opt, Nat.reduceAdd, Nat.reduceMul, and_self, reduceCtorEq, List.size_toArray, List.all_cons, List.all_nil, Value.oneCell', List.set_cons_zero, List.set_cons_succ, sets, fillL, Nat.reduceLeDiff, List.drop_succ_cons, List.drop_zero, List.take_succ_cons, List.take_zero, List.toList_toArray, argsE, Array.append_empty, Array.empty_append, List.getElem?_toArray, Int.reduceLT, Int.reduceLE, Int.reduceToNat, Int.reduceEq, Nat.reduceLT, dl, xor_ones, wrap_val]
    rfl
end Go.Proofs.YtoegoigfbldkoaaDoor

set_option linter.unusedSimpArgs false
set_option linter.unusedVariables false
set_option maxRecDepth 10000
set_option maxHeartbeats 1000000
namespace Go.Proofs.YtoegoigfbldkoaaDoor
open Go Go.Cn Go.RowKit
attribute [local irreducible] evL sem onG onI onV

theorem four_eq {x y : Nat} (h : ∀ j, j < 4 → x.testBit j = y.testBit j) : four x = four y := by
  simp only [four, h 3 (by omega), h 2 (by omega), h 1 (by omega), h 0 (by omega)]
def nibN (n : Int) (t : Nat) : Nat := ((lowV n).toNat >>> (36 - 4 * t)) &&& 15
def wordBits (n : Int) : List Bool := (List.range 10).flatMap fun t => four (nibN n t)
theorem low_nat {n : Int} : ((lowV n).toNat : Int) = n % 1099511627776 := by
  unfold lowV
  rw [BitVec.toNat_ofInt]
  omega
theorem nib_int {n : Int} {t : Nat} (h1 : -9223372036854775808 ≤ n) (h2 : n < 9223372036854775808) (ht : t < 10) :
    IntKind.wrap .i64 (BitVec.ofInt (IntKind.bits .i64) (n.fdiv (2 ^ min (36 - 4 * t) (IntKind.bits .i64))) &&& BitVec.ofInt (IntKind.bits .i64) 15).toNat = ((nibN n t : Nat) : Int) := by
  have hl := low_nat (n := n)
  have hn : nibN n t < 16 := Nat.lt_of_le_of_lt Nat.and_le_right (by decide)
  have hn2 : ((nibN n t : Nat) : Int) = (n.fdiv (2 ^ min (36 - 4 * t) (IntKind.bits .i64))) % 16 := by
    unfold nibN
    rw [Nat.and_two_pow_sub_one_eq_mod (n := 4), Nat.shiftRight_eq_div_pow, show min (36 - 4 * t) (IntKind.bits .i64) = 36 - 4 * t by show min (36 - 4 * t) 64 = _; omega, Int.fdiv_eq_ediv_of_nonneg _ (Int.pow_nonneg (by omega))]
    generalize (lowV n).toNat = L at hl
    have : t = 0 ∨ t = 1 ∨ t = 2 ∨ t = 3 ∨ t = 4 ∨ t = 5 ∨ t = 6 ∨ t = 7 ∨ t = 8 ∨ t = 9 := by omega
    rcases this with rfl | rfl | rfl | rfl | rfl | rfl | rfl | rfl | rfl | rfl <;> simp only [Nat.mul_zero, Nat.reduceMul, Nat.reduceSub, Nat.sub_zero, Nat.reducePow, Int.reducePow] <;> omega
  generalize n.fdiv (2 ^ min (36 - 4 * t) (IntKind.bits .i64)) = q at hn2
  have hm : (BitVec.ofInt 64 q &&& BitVec.ofInt 64 15).toNat = nibN n t := by
    rw [BitVec.toNat_and, BitVec.toNat_ofInt, show (BitVec.ofInt 64 15).toNat = 2 ^ 4 - 1 from by decide, Nat.and_two_pow_sub_one_eq_mod]
    omega
  rw [show IntKind.bits .i64 = 64 from rfl, hm]
  exact wrap64' (by omega) (by omega)
theorem wordBits_take {n : Int} {t : Nat} {r : V40} : runB r ((List.range (t + 1)).flatMap fun t => four (nibN n t)) = nibF (runB r ((List.range t).flatMap fun t => four (nibN n t))) (nibN n t) := by
  rw [List.range_succ, List.flatMap_append, runB_app]
  simp only [List.flatMap_cons, List.flatMap_nil, List.append_nil, runB_four]

def wordsY (l : List Int) : List Bool := l.flatMap wordBits
def wordsC (l : List Int) : Int := valF (runB (BitVec.allOnes 40) (wordsY l))

theorem hwords_app {l : List Int} {sl : Value} {σ : H} (hb : ∀ n ∈ l, -9223372036854775808 ≤ n ∧ n < 9223372036854775808) (hr : Whl σ 1 sl l.length (i64C l)) (hl : l.length < 100000000000000) (hG : NGlob σ) : App Tryd.prog (.func 23) #[] #[sl] σ fun v σ' => σ' = σ ∧ v = .int .i64 (wordsC l) := by
  refine App.forget (App.of_sem mixed Tryd.func23 t23 k23 r23 (Nat.le_of_ble_eq_true rfl) ?_)
  unfold s23
  obtain ⟨bs, cc, rfl⟩ := hr.slice
  rw [← ap_nil (σ := σ)]
  simp only [↓eD0, ↓eD1, eC0, eC1, eC2, eC3, eC4, eC5, eC6, wantedE, ↓reduceIte, Nat.reduceEqDiff, Option.map_some, Option.map_none, reread, List.nil_append, List.cons_append, List.map_cons, List.map_nil, List.length_nil, List.length_cons, Value.cells, List.getElem?_cons_zero, List.getElem?_cons_succ, outE, lks, lkR, rdV, neg1, evs, opt, Nat.reduceAdd, Nat.reduceMul, and_self, reduceCtorEq, List.size_toArray, List.all_cons, List.all_nil, Value.oneCell', List.set_cons_zero, List.set_cons_succ, sets, fillL, Nat.reduceLeDiff, List.drop_succ_cons, List.drop_zero, List.take_succ_cons, List.take_zero, List.toList_toArray, argsE, Array.append_empty, Array.empty_append, List.getElem?_toArray, Int.reduceLT, Int.reduceLE, Int.reduceToNat, Int.reduceEq, Nat.reduceLT]
  refine appK_of begin_crc_app ?_
  rintro _ _ ⟨e2, rfl⟩
  rw [e2]
  clear e2
  simp only [↓eD0, ↓eD1, eC0, eC1, eC2, eC3, eC4, eC5, eC6, wantedE, ↓reduceIte, Nat.reduceEqDiff, Option.map_some, Option.map_none, reread, List.nil_append, List.cons_append, List.map_cons, List.map_nil, List.length_nil, List.length_cons, Value.cells, List.getElem?_cons_zero, List.getElem?_cons_succ, outE, lks, lkR, rdV, neg1, evs, opt, Nat.reduceAdd, Nat.reduceMul, and_self, reduceCtorEq, List.size_toArray, List.all_cons, List.all_nil, Value.oneCell', List.set_cons_zero, List.set_cons_succ, sets, fillL, Nat.reduceLeDiff, List.drop_succ_cons, List.drop_zero, List.take_succ_cons, List.take_zero, List.toList_toArray, argsE, Array.append_empty, Array.empty_append, List.getElem?_toArray, Int.reduceLT, Int.reduceLE, Int.reduceToNat, Int.reduceEq, Nat.reduceLT]
  refine loop_for (J := fun i e τ => i ≤ l.length ∧ ∃ ver, e = [(3, .pointer (some ⟨σ.size, 0, none⟩)), (8, .slice bs l.length cc), (9, .int .i64 (l.length : Int)), (10, .int .i64 (i : Int))] ∧ τ = ap σ [.cells ver [.int .u64 ((runB (BitVec.allOnes 40) (wordsY (l.take i))).toNat : Int)] (0, 0)]) l.length
    ⟨by omega, 1, rfl, rfl⟩ ?_
  rintro i e τ hi ⟨_, ver, rfl, rfl⟩
  by_cases hlt : i < l.length
  · have dl : decide ((i : Int) < (l.length : Int)) = true := by rw [decide_eq_true]; omega
    obtain ⟨bk, off, rfl, h2⟩ := hr.at (by omega)
    rw [Nat.mul_one] at h2
    have hrd : ∀ L, rd1 (ap σ L) ⟨bk, off + i, none⟩ = some (.int .i64 l[i]) := fun L => rd1_row (rdN_old h2) (by simp [i64C, hlt])
    have hx := hb l[i] (by simp)
    have hrun : runB (BitVec.allOnes 40) (wordsY (l.take (i + 1))) = runB (runB (BitVec.allOnes 40) (wordsY (l.take i))) (wordBits l[i]) := by
      rw [List.take_succ_eq_append_getElem hlt]
      simp only [wordsY, List.flatMap_append, runB_app, List.flatMap_cons, List.flatMap_nil, List.append_nil]
    generalize runB (BitVec.allOnes 40) (wordsY (l.take i)) = R at hrun ⊢
    generalize l[i] = n at hrd hx hrun
    have hbb : (0:Int) ≤ (i : Int) ∧ (i : Int) < (l.length : Int) := by omega
    have hwi : IntKind.wrap .i64 ((i : Int) + 1) = ((i + 1 : Nat) : Int) := by rw [wrap64' (by omega) (by omega)]; omega
    simp only [↓eD0, ↓eD1, eC0, eC1, eC2, eC3, eC4, eC5, eC6, wantedE, ↓reduceIte, Nat.reduceEqDiff, Option.map_some, Option.map_none, reread, List.nil_append, List.cons_append, List.map_cons, List.map_nil, List.length_nil, List.length_cons, Value.cells, List.getElem?_cons_zero, List.getElem?_cons_succ, outE, lks, lkR, rdV, neg1, evs, opt, Nat.reduceAdd, Nat.reduceMul, and_self, reduceCtorEq, List.size_toArray, List.all_cons, List.all_nil, Value.oneCell', List.set_cons_zero, List.set_cons_succ, sets, fillL, Nat.reduceLeDiff, List.drop_succ_cons, List.drop_zero, List.take_succ_cons, List.take_zero, List.toList_toArray, argsE, Array.append_empty, Array.empty_append, List.getElem?_toArray, Int.reduceLT, Int.reduceLE, Int.reduceToNat, Int.reduceEq, Nat.reduceLT, dl, hbb, Int.toNat_natCast, Nat.mul_one, hrd]
    refine loop_for (J := fun t e τ' => t ≤ 10 ∧ ∃ ver, e = [(3, .pointer (some ⟨σ.size, 0, none⟩)), (5, .int .i64 n), (6, .int .i64 (36 - 4 * (t : Int))), (8, .slice (some ⟨bk, off, none⟩) l.length cc), (9, .int .i64 (l.length : Int)), (10, .int .i64 (i : Int))] ∧
        τ' = ap σ [.cells ver [.int .u64 ((runB R ((List.range t).flatMap fun t => four (nibN n t))).toNat : Int)] (0, 0)]) 10 ⟨by omega, ver, rfl, rfl⟩ ?_
    rintro t e τ' ht ⟨_, ver, rfl, rfl⟩
    by_cases ht10 : t < 10
    · have dt : decide (0 ≤ 36 - 4 * (t : Int)) = true := by rw [decide_eq_true]; omega
      have hn0 : ¬ (36 - 4 * (t : Int)) < 0 := by omega
      have htn : (36 - 4 * (t : Int)).toNat = 36 - 4 * t := by omega
      have hwt : IntKind.wrap .i64 (36 - 4 * (t : Int) - 4) = 36 - 4 * ((t + 1 : Nat) : Int) := by rw [wrap64' (by omega) (by omega)]; omega
      have hnl : nibN n t < 16 := Nat.lt_of_le_of_lt Nat.and_le_right (by decide)
      have h8 : IntKind.wrap .u8 ((nibN n t : Nat) : Int) = ((nibN n t : Nat) : Int) := wrap_u8 (by omega) (by omega)
      have hni := nib_int hx.1 hx.2 ht10
      simp only [↓eD0, ↓eD1, eC0, eC1, eC2, eC3, eC4, eC5, eC6, wantedE, ↓reduceIte, Nat.reduceEqDiff, Option.map_some, Option.map_none, reread, List.nil_append, List.cons_append, List.map_cons, List.map_nil, List.length_nil, List.length_cons, Value.cells, List.getElem?_cons_zero, List.getElem?_cons_succ, outE, lks, lkR, rdV, neg1, evs, opt, Nat.reduceAdd, Nat.reduceMul, and_self, reduceCtorEq, List.size_toArray, List.all_cons, List.all_nil, Value.oneCell', List.set_cons_zero, List.set_cons_succ, sets, fillL, Nat.reduceLeDiff, List.drop_succ_cons, List.drop_zero, List.take_succ_cons, List.take_zero, List.toList_toArray, argsE, Array.append_empty, Array.empty_append, List.getElem?_toArray, Int.reduceLT, Int.reduceLE, Int.reduceToNat, Int.reduceEq, Nat.reduceLT, dt, hn0, htn, hni, h8]
      refine appK_of (nibble_app (by omega) (hG.Old .ap)) ?_
      rintro _ _ ⟨e2, rfl⟩
      rw [e2]
      clear e2
      simp only [↓eD0, ↓eD1, eC0, eC1, eC2, eC3, eC4, eC5, eC6, wantedE, ↓reduceIte, Nat.reduceEqDiff, Option.map_some, Option.map_none, reread, List.nil_append, List.cons_append, List.map_cons, List.map_nil, List.length_nil, List.length_cons, Value.cells, List.getElem?_cons_zero, List.getElem?_cons_succ, outE, lks, lkR, rdV, neg1, evs, opt, Nat.reduceAdd, Nat.reduceMul, and_self, reduceCtorEq, List.size_toArray, List.all_cons, List.all_nil, Value.oneCell', List.set_cons_zero, List.set_cons_succ, sets, fillL, Nat.reduceLeDiff, List.drop_succ_cons, List.drop_zero, List.take_succ_cons, List.take_zero, List.toList_toArray, argsE, Array.append_empty, Array.empty_append, List.getElem?_toArray, Int.reduceLT, Int.reduceLE, Int.reduceToNat, Int.reduceEq, Nat.reduceLT, hwt]
      refine ⟨ht10, by omega, ver + 1, ?_⟩
      rw [wordBits_take]
    · have : t = 10 := by omega
      subst this
      have dt : decide ((0:Int) ≤ 36 - 4 * ((10 : Nat) : Int)) = false := by decide
      simp only [↓eD0, ↓eD1, eC0, eC1, eC2, eC3, eC4, eC5, eC6, wantedE, ↓reduceIte, Nat.reduceEqDiff, Option.map_some, Option.map_none, reread, List.nil_append, List.cons_append, List.map_cons, List.map_nil, List.length_nil, List.length_cons, Value.cells, List.getElem?_cons_zero, List.getElem?_cons_succ, outE, lks, lkR, rdV, neg1, evs, opt, Nat.reduceAdd, Nat.reduceMul, and_self, reduceCtorEq, List.size_toArray, List.all_cons, List.all_nil, Value.oneCell', List.set_cons_zero, List.set_cons_succ, sets, fillL, Nat.reduceLeDiff, List.drop_succ_cons, List.drop_zero, List.take_succ_cons, List.take_zero, List.toList_toArray, argsE, Array.append_empty, Array.empty_append, List.getElem?_toArray, Int.reduceLT, Int.reduceLE, Int.reduceToNat, Int.reduceEq, Nat.reduceLT, dt, hwi]
      refine ⟨hlt, by omega, ver, ?_⟩
      rw [hrun]
      rfl
  · have : i = l.length := by omega
    subst this
    have dl : decide ((l.length : Int) < (l.length : Int)) = false := by rw [decide_eq_false]; omega
    rw [List.take_of_length_le (Nat.le_refl _)]
    simp only [↓eD0, ↓eD1, eC0, eC1, eC2, eC3, eC4, eC5, eC6, wantedE, ↓reduceIte, Nat.reduceEqDiff, Option.map_some, Option.map_none, reread, List.nil_append, List.cons_append, List.map_cons, List.map_nil, List.length_nil, List.length_cons, Value.cells, List.getElem?_cons_zero, List.getElem?_cons_succ, outE, lks, lkR, rdV, neg1, evs, opt, Nat.reduceAdd, Nat.reduceMul, and_self, reduceCtorEq, List.size_toArray, List.all_cons, List.all_nil, Value.oneCell', List.set_cons_zero, List.set_cons_succ, sets, fillL, Nat.reduceLeDiff, List.drop_succ_cons, List.drop_zero, List.take_succ_cons, List.take_zero, List.toList_toArray, argsE, Array.append_empty, Array.empty_append, List.getElem?_toArray, Int.reduceLT, Int.reduceLE, Int.reduceToNat, Int.reduceEq, Nat.reduceLT, dl]
    refine appK_of value_app ?_
    rintro _ _ ⟨e2, rfl⟩
    rw [e2]
    clear e2
    simp only [↓eD0, ↓eD1, eC0, eC1, eC2, eC3, eC4, eC5, eC6, wantedE, ↓reduceIte, Nat.reduceEqDiff, Option.map_some, Option.map_none, reread, List.nil_append, List.cons_append, List.map_cons, List.map_nil, List.length_nil, List.length_cons, Value.cells, List.getElem?_cons_zero, List.getElem?_cons_succ, outE, lks, lkR, rdV, neg1, evs, opt, Nat.reduceAdd, Nat.reduceMul, and_self, reduceCtorEq, List.size_toArray, List.all_cons, List.all_nil, Value.oneCell', List.set_cons_zero, List.set_cons_succ, sets, fillL, Nat.reduceLeDiff, List.drop_succ_cons, List.drop_zero, List.take_succ_cons, List.take_zero, List.toList_toArray, argsE, Array.append_empty, Array.empty_append, List.getElem?_toArray, Int.reduceLT, Int.reduceLE, Int.reduceToNat, Int.reduceEq, Nat.reduceLT]
    exact ⟨.ap, by simp [flat], rfl⟩

/-- The five bytes of a word. -/
def fiveF (n : Int) : List Int := (List.range 5).map fun k => (((lowV n).toNat >>> (32 - 8 * k) % 256 : Nat) : Int)
theorem fiveF_len {n : Int} : (fiveF n).length = 5 := by simp [fiveF]
theorem five_int {n : Int} {k : Nat} (hk : k < 5) : IntKind.wrap .u8 (n.fdiv (2 ^ min (32 - 8 * k) (IntKind.bits .i64))) = (((lowV n).toNat >>> (32 - 8 * k) % 256 : Nat) : Int) := by
  have hl := low_nat (n := n)
  rw [wrap_u8_mod, Nat.shiftRight_eq_div_pow, show min (32 - 8 * k) (IntKind.bits .i64) = 32 - 8 * k by show min (32 - 8 * k) 64 = _; omega, Int.fdiv_eq_ediv_of_nonneg _ (Int.pow_nonneg (by omega))]
  generalize (lowV n).toNat = L at hl
  have : k = 0 ∨ k = 1 ∨ k = 2 ∨ k = 3 ∨ k = 4 := by omega
  rcases this with rfl | rfl | rfl | rfl | rfl <;> simp only [Nat.mul_zero, Nat.reduceMul, Nat.reduceSub, Nat.sub_zero, Nat.reducePow, Int.reducePow] <;> omega
theorem five_bits {n : Int} : bitsY ((fiveF n).map Int.toNat) = wordBits n := by
  have e : ∀ k, k < 5 → bits8 ((lowV n).toNat >>> (32 - 8 * k) % 256) = four (nibN n (2 * k)) ++ four (nibN n (2 * k + 1)) := by
    intro k hk
    unfold bits8
    congr 1
    · refine four_eq fun j hj => ?_
      unfold nibN
      rw [Nat.testBit_shiftRight, show 256 = 2 ^ 8 from rfl, Nat.testBit_mod_two_pow, Nat.testBit_shiftRight, Nat.testBit_and, Nat.testBit_shiftRight]
      have : ∀ j, j < 4 → (15 : Nat).testBit j = true := by decide
      rw [this j hj, Bool.and_true, decide_eq_true (by omega), Bool.true_and]
      congr 1; omega
    · refine four_eq fun j hj => ?_
      unfold nibN
      rw [show 256 = 2 ^ 8 from rfl, Nat.testBit_mod_two_pow, Nat.testBit_shiftRight, Nat.testBit_and, Nat.testBit_shiftRight]
      have : ∀ j, j < 4 → (15 : Nat).testBit j = true := by decide
      rw [this j hj, Bool.and_true, decide_eq_true (by omega), Bool.true_and]
      congr 1; omega
  have h5 : List.range 5 = [0, 1, 2, 3, 4] := rfl
  have h10 : List.range 10 = [0, 1, 2, 3, 4, 5, 6, 7, 8, 9] := rfl
  simp only [bitsY, fiveF, wordBits, h5, h10, List.map_cons, List.map_nil, List.flatMap_cons, List.flatMap_nil, Int.toNat_natCast]
  rw [e 0 (by omega), e 1 (by omega), e 2 (by omega), e 3 (by omega), e 4 (by omega)]
  simp
theorem five_byt {n : Int} : Byt (fiveF n) := by
  intro x hx
  obtain ⟨k, _, rfl⟩ := List.mem_map.1 hx
  omega
def fivesF (l : List Int) : List Int := l.flatMap fiveF
theorem fives_len {l : List Int} : (fivesF l).length = 5 * l.length := by
  unfold fivesF
  induction l with
  | nil => rfl
  | cons a l ih => simp only [List.flatMap_cons, List.length_append, List.length_cons, fiveF_len, ih]; omega
theorem fives_byt {l : List Int} : Byt (fivesF l) := by
  intro x hx
  obtain ⟨n, _, hn⟩ := List.mem_flatMap.1 hx
  exact five_byt x hn
theorem fives_crc {l : List Int} : crcF ((fivesF l).map Int.toNat) = wordsC l := by
  have : bitsY ((fivesF l).map Int.toNat) = wordsY l := by
    unfold fivesF wordsY
    induction l with
    | nil => rfl
    | cons a l ih =>
      simp only [List.flatMap_cons, List.map_append]
      rw [← ih, ← five_bits]
      simp [bitsY]
  unfold crcF wordsC runY
  rw [this]

theorem five_app {n : Int} {σ : H} : App Tryd.prog (.func 42) #[] #[.int .i64 n] σ fun v σ' => Old σ σ' ∧ Grown σ σ' 1 v (digC (fiveF n)) (fiveF n).length := by
  refine App.of_sem mixed Tryd.func42 t42 k42 r42 (Nat.le_of_ble_eq_true rfl) ?_
  unfold s42
  simp only [↓eD0, ↓eD1, eC0, eC1, eC2, eC3, eC4, eC5, eC6, wantedE, ↓reduceIte, Nat.reduceEqDiff, Option.map_some, Option.map_none, reread, List.nil_append, List.cons_append, List.map_cons, List.map_nil, List.length_nil, List.length_cons, Value.cells, List.getElem?_cons_zero, List.getElem?_cons_succ, outE, lks, lkR, rdV, neg1, evs, opt, Nat.reduceAdd, Nat.reduceMul, and_self, reduceCtorEq, List.size_toArray, List.all_cons, List.all_nil, Value.oneCell', List.set_cons_zero, List.set_cons_succ, sets, fillL, Nat.reduceLeDiff, List.drop_succ_cons, List.drop_zero, List.take_succ_cons, List.take_zero, List.toList_toArray, argsE, Array.append_empty, Array.empty_append, List.getElem?_toArray, Int.reduceLT, Int.reduceLE, Int.reduceToNat, Int.reduceEq, Nat.reduceLT]
  refine loop_for (J := fun i e τ => i ≤ 5 ∧ ∃ v, e = [(0, .int .i64 n), (3, v), (4, .int .i64 (i : Int))] ∧ Old σ τ ∧ Grown σ τ 1 v (digC ((fiveF n).take i)) ((fiveF n).take i).length) 5 ⟨by omega, _, rfl, .refl, .nil⟩ ?_
  rintro i e τ hi ⟨_, v, rfl, ho, hg⟩
  rw [← ap_nil (σ := τ)]
  by_cases hlt : i < 5
  · have dl : decide ((i : Int) < 5) = true := by rw [decide_eq_true]; omega
    have h8 : IntKind.wrap .i64 (8 * (i : Int)) = ((8 * i : Nat) : Int) := by rw [wrap64' (by omega) (by omega)]; omega
    have h32 : IntKind.wrap .i64 (32 - ((8 * i : Nat) : Int)) = ((32 - 8 * i : Nat) : Int) := by rw [wrap64' (by omega) (by omega)]; omega
    have hn0 : ¬ ((32 - 8 * i : Nat) : Int) < 0 := by omega
    have hwi : IntKind.wrap .i64 ((i : Int) + 1) = ((i + 1 : Nat) : Int) := by rw [wrap64' (by omega) (by omega)]; omega
    have h5 := five_int (n := n) hlt
    have htk : (fiveF n).take (i + 1) = (fiveF n).take i ++ [(((lowV n).toNat >>> (32 - 8 * i) % 256 : Nat) : Int)] := by
      rw [List.take_succ_eq_append_getElem (by rw [fiveF_len]; exact hlt)]
      congr 2
      simp [fiveF]
    generalize ((lowV n).toNat >>> (32 - 8 * i) % 256) = x at h5 htk
    obtain ⟨v', τ', ha, hA⟩ := append_bytes (σ := ap τ [.cells 0 [.int .u8 (x : Int)] (0, 0)]) (hg.old .ap) (by have := ho.1; rw [ap_size]; omega) (x_one (j := 0) rfl) (by simp; omega)
    simp only [↓eD0, ↓eD1, eC0, eC1, eC2, eC3, eC4, eC5, eC6, wantedE, ↓reduceIte, Nat.reduceEqDiff, Option.map_some, Option.map_none, reread, List.nil_append, List.cons_append, List.map_cons, List.map_nil, List.length_nil, List.length_cons, Value.cells, List.getElem?_cons_zero, List.getElem?_cons_succ, outE, lks, lkR, rdV, neg1, evs, opt, Nat.reduceAdd, Nat.reduceMul, and_self, reduceCtorEq, List.size_toArray, List.all_cons, List.all_nil, Value.oneCell', List.set_cons_zero, List.set_cons_succ, sets, fillL, Nat.reduceLeDiff, List.drop_succ_cons, List.drop_zero, List.take_succ_cons, List.take_zero, List.toList_toArray, argsE, Array.append_empty, Array.empty_append, List.getElem?_toArray, Int.reduceLT, Int.reduceLE, Int.reduceToNat, Int.reduceEq, Nat.reduceLT, dl, h8, h32, hn0, Int.toNat_natCast, h5]
    refine onV_of ha ?_
    simp only [↓eD0, ↓eD1, eC0, eC1, eC2, eC3, eC4, eC5, eC6, wantedE, ↓reduceIte, Nat.reduceEqDiff, Option.map_some, Option.map_none, reread, List.nil_append, List.cons_append, List.map_cons, List.map_nil, List.length_nil, List.length_cons, Value.cells, List.getElem?_cons_zero, List.getElem?_cons_succ, outE, lks, lkR, rdV, neg1, evs, opt, Nat.reduceAdd, Nat.reduceMul, and_self, reduceCtorEq, List.size_toArray, List.all_cons, List.all_nil, Value.oneCell', List.set_cons_zero, List.set_cons_succ, sets, fillL, Nat.reduceLeDiff, List.drop_succ_cons, List.drop_zero, List.take_succ_cons, List.take_zero, List.toList_toArray, argsE, Array.append_empty, Array.empty_append, List.getElem?_toArray, Int.reduceLT, Int.reduceLE, Int.reduceToNat, Int.reduceEq, Nat.reduceLT, hwi]
    refine ⟨hlt, by omega, v', rfl, hA.Old (hg.old .ap) (ho.trans .ap), ?_⟩
    rw [htk]
    exact hA.grown
  · have : i = 5 := by omega
    subst this
    have dl : decide (((5 : Nat) : Int) < 5) = false := by decide
    rw [List.take_of_length_le (by rw [fiveF_len]; omega)] at hg
    simp only [↓eD0, ↓eD1, eC0, eC1, eC2, eC3, eC4, eC5, eC6, wantedE, ↓reduceIte, Nat.reduceEqDiff, Option.map_some, Option.map_none, reread, List.nil_append, List.cons_append, List.map_cons, List.map_nil, List.length_nil, List.length_cons, Value.cells, List.getElem?_cons_zero, List.getElem?_cons_succ, outE, lks, lkR, rdV, neg1, evs, opt, Nat.reduceAdd, Nat.reduceMul, and_self, reduceCtorEq, List.size_toArray, List.all_cons, List.all_nil, Value.oneCell', List.set_cons_zero, List.set_cons_succ, sets, fillL, Nat.reduceLeDiff, List.drop_succ_cons, List.drop_zero, List.take_succ_cons, List.take_zero, List.toList_toArray, argsE, Array.append_empty, Array.empty_append, List.getElem?_toArray, Int.reduceLT, Int.reduceLE, Int.reduceToNat, Int.reduceEq, Nat.reduceLT, dl]
    rw [ap_nil]
    exact ⟨ho, hg⟩

theorem ref_bytes_app {l : List Int} {sl : Value} {σ : H} (hr : Whl σ 1 sl l.length (i64C l)) (hl : l.length < 1000000000000) : App Tryd.prog (.func 25) #[] #[sl] σ fun v σ' => Old σ σ' ∧ Grown σ σ' 1 v (digC (fivesF l)) (fivesF l).length := by
  refine App.of_sem mixed Tryd.func25 t25 k25 r25 (Nat.le_of_ble_eq_true rfl) ?_
  unfold s25
  obtain ⟨bs, cc, rfl⟩ := hr.slice
  simp only [↓eD0, ↓eD1, eC0, eC1, eC2, eC3, eC4, eC5, eC6, wantedE, ↓reduceIte, Nat.reduceEqDiff, Option.map_some, Option.map_none, reread, List.nil_append, List.cons_append, List.map_cons, List.map_nil, List.length_nil, List.length_cons, Value.cells, List.getElem?_cons_zero, List.getElem?_cons_succ, outE, lks, lkR, rdV, neg1, evs, opt, Nat.reduceAdd, Nat.reduceMul, and_self, reduceCtorEq, List.size_toArray, List.all_cons, List.all_nil, Value.oneCell', List.set_cons_zero, List.set_cons_succ, sets, fillL, Nat.reduceLeDiff, List.drop_succ_cons, List.drop_zero, List.take_succ_cons, List.take_zero, List.toList_toArray, argsE, Array.append_empty, Array.empty_append, List.getElem?_toArray, Int.reduceLT, Int.reduceLE, Int.reduceToNat, Int.reduceEq, Nat.reduceLT]
  refine loop_for (J := fun i e τ => i ≤ l.length ∧ ∃ v, e = [(0, .slice bs l.length cc), (3, v), (4, .int .i64 (i : Int))] ∧ Old σ τ ∧ Grown σ τ 1 v (digC (fivesF (l.take i))) (fivesF (l.take i)).length) l.length ⟨by omega, _, rfl, .refl, .nil⟩ ?_
  rintro i e τ hi ⟨_, v, rfl, ho, hg⟩
  by_cases hlt : i < l.length
  · have dl : decide ((i : Int) < (l.length : Int)) = true := by rw [decide_eq_true]; omega
    have hbb : (0:Int) ≤ (i : Int) ∧ (i : Int) < (l.length : Int) := by omega
    have hwi : IntKind.wrap .i64 ((i : Int) + 1) = ((i + 1 : Nat) : Int) := by rw [wrap64' (by omega) (by omega)]; omega
    obtain ⟨bk, off, rfl, h2⟩ := hr.at (by omega)
    rw [Nat.mul_one] at h2
    have hrd : rd1 τ ⟨bk, off + i, none⟩ = some (.int .i64 l[i]) := rd1_Old ho (rd1_row h2 (by simp [i64C, hlt]))
    have htk : fivesF (l.take (i + 1)) = fivesF (l.take i) ++ fiveF l[i] := by
      exact flat_take hlt
    generalize l[i] = n at hrd htk
    simp only [↓eD0, ↓eD1, eC0, eC1, eC2, eC3, eC4, eC5, eC6, wantedE, ↓reduceIte, Nat.reduceEqDiff, Option.map_some, Option.map_none, reread, List.nil_append, List.cons_append, List.map_cons, List.map_nil, List.length_nil, List.length_cons, Value.cells, List.getElem?_cons_zero, List.getElem?_cons_succ, outE, lks, lkR, rdV, neg1, evs, opt, Nat.reduceAdd, Nat.reduceMul, and_self, reduceCtorEq, List.size_toArray, List.all_cons, List.all_nil, Value.oneCell', List.set_cons_zero, List.set_cons_succ, sets, fillL, Nat.reduceLeDiff, List.drop_succ_cons, List.drop_zero, List.take_succ_cons, List.take_zero, List.toList_toArray, argsE, Array.append_empty, Array.empty_append, List.getElem?_toArray, Int.reduceLT, Int.reduceLE, Int.reduceToNat, Int.reduceEq, Nat.reduceLT, dl, hbb, Int.toNat_natCast, Nat.mul_one, hrd]
    refine appK_of five_app ?_
    rintro w τ2 ⟨ho2, hg2⟩
    have hlen : (fivesF (l.take i)).length + (fiveF n).length ≤ 140737488355328 := by
      rw [fives_len, fiveF_len, List.length_take]; omega
    obtain ⟨v', τ', ha, hA⟩ := append_bytes (new := fiveF n) (hg.old ho2) (ho.trans ho2).1 hg2.whl.x hlen
    simp only [↓eD0, ↓eD1, eC0, eC1, eC2, eC3, eC4, eC5, eC6, wantedE, ↓reduceIte, Nat.reduceEqDiff, Option.map_some, Option.map_none, reread, List.nil_append, List.cons_append, List.map_cons, List.map_nil, List.length_nil, List.length_cons, Value.cells, List.getElem?_cons_zero, List.getElem?_cons_succ, outE, lks, lkR, rdV, neg1, evs, opt, Nat.reduceAdd, Nat.reduceMul, and_self, reduceCtorEq, List.size_toArray, List.all_cons, List.all_nil, Value.oneCell', List.set_cons_zero, List.set_cons_succ, sets, fillL, Nat.reduceLeDiff, List.drop_succ_cons, List.drop_zero, List.take_succ_cons, List.take_zero, List.toList_toArray, argsE, Array.append_empty, Array.empty_append, List.getElem?_toArray, Int.reduceLT, Int.reduceLE, Int.reduceToNat, Int.reduceEq, Nat.reduceLT]
    refine onV_of ha ?_
    simp only [↓eD0, ↓eD1, eC0, eC1, eC2, eC3, eC4, eC5, eC6, wantedE, ↓reduceIte, Nat.reduceEqDiff, Option.map_some, Option.map_none, reread, List.nil_append, List.cons_append, List.map_cons, List.map_nil, List.length_nil, List.length_cons, Value.cells, List.getElem?_cons_zero, List.getElem?_cons_succ, outE, lks, lkR, rdV, neg1, evs, opt, Nat.reduceAdd, Nat.reduceMul, and_self, reduceCtorEq, List.size_toArray, List.all_cons, List.all_nil, Value.oneCell', List.set_cons_zero, List.set_cons_succ, sets, fillL, Nat.reduceLeDiff, List.drop_succ_cons, List.drop_zero, List.take_succ_cons, List.take_zero, List.toList_toArray, argsE, Array.append_empty, Array.empty_append, List.getElem?_toArray, Int.reduceLT, Int.reduceLE, Int.reduceToNat, Int.reduceEq, Nat.reduceLT, hwi]
    refine ⟨hlt, by omega, v', rfl, hA.Old (hg.old ho2) (ho.trans ho2), ?_⟩
    rw [htk]
    exact hA.grown
  · have : i = l.length := by omega
    subst this
    have dl : decide ((l.length : Int) < (l.length : Int)) = false := by rw [decide_eq_false]; omega
    rw [List.take_of_length_le (Nat.le_refl _)] at hg
    simp only [↓eD0, ↓eD1, eC0, eC1, eC2, eC3, eC4, eC5, eC6, wantedE, ↓reduceIte, Nat.reduceEqDiff, Option.map_some, Option.map_none, reread, List.nil_append, List.cons_append, List.map_cons, List.map_nil, List.length_nil, List.length_cons, Value.cells, List.getElem?_cons_zero, List.getElem?_cons_succ, outE, lks, lkR, rdV, neg1, evs, opt, Nat.reduceAdd, Nat.reduceMul, and_self, reduceCtorEq, List.size_toArray, List.all_cons, List.all_nil, Value.oneCell', List.set_cons_zero, List.set_cons_succ, sets, fillL, Nat.reduceLeDiff, List.drop_succ_cons, List.drop_zero, List.take_succ_cons, List.take_zero, List.toList_toArray, argsE, Array.append_empty, Array.empty_append, List.getElem?_toArray, Int.reduceLT, Int.reduceLE, Int.reduceToNat, Int.reduceEq, Nat.reduceLT, dl]
    exact ⟨ho, hg⟩

theorem ref_words_app {l : List Int} {sl : Value} {σ : H} (hr : Whl σ 1 sl l.length (i64C l)) (hl : l.length < 1000000000000) : App Tryd.prog (.func 24) #[] #[sl] σ fun v σ' => σ' = σ ∧ v = .int .i64 (wordsC l) := by
  refine App.forget (App.of_sem mixed Tryd.func24 t24 k24 r24 (Nat.le_of_ble_eq_true rfl) ?_)
  unfold s24
  simp only [↓eD0, ↓eD1, eC0, eC1, eC2, eC3, eC4, eC5, eC6, wantedE, ↓reduceIte, Nat.reduceEqDiff, Option.map_some, Option.map_none, reread, List.nil_append, List.cons_append, List.map_cons, List.map_nil, List.length_nil, List.length_cons, Value.cells, List.getElem?_cons_zero, List.getElem?_cons_succ, outE, lks, lkR, rdV, neg1, evs, opt, Nat.reduceAdd, Nat.reduceMul, and_self, reduceCtorEq, List.size_toArray, List.all_cons, List.all_nil, Value.oneCell', List.set_cons_zero, List.set_cons_succ, sets, fillL, Nat.reduceLeDiff, List.drop_succ_cons, List.drop_zero, List.take_succ_cons, List.take_zero, List.toList_toArray, argsE, Array.append_empty, Array.empty_append, List.getElem?_toArray, Int.reduceLT, Int.reduceLE, Int.reduceToNat, Int.reduceEq, Nat.reduceLT]
  refine appK_of (ref_bytes_app hr hl) ?_
  rintro v τ ⟨ho, hg⟩
  simp only [↓eD0, ↓eD1, eC0, eC1, eC2, eC3, eC4, eC5, eC6, wantedE, ↓reduceIte, Nat.reduceEqDiff, Option.map_some, Option.map_none, reread, List.nil_append, List.cons_append, List.map_cons, List.map_nil, List.length_nil, List.length_cons, Value.cells, List.getElem?_cons_zero, List.getElem?_cons_succ, outE, lks, lkR, rdV, neg1, evs, opt, Nat.reduceAdd, Nat.reduceMul, and_self, reduceCtorEq, List.size_toArray, List.all_cons, List.all_nil, Value.oneCell', List.set_cons_zero, List.set_cons_succ, sets, fillL, Nat.reduceLeDiff, List.drop_succ_cons, List.drop_zero, List.take_succ_cons, List.take_zero, List.toList_toArray, argsE, Array.append_empty, Array.empty_append, List.getElem?_toArray, Int.reduceLT, Int.reduceLE, Int.reduceToNat, Int.reduceEq, Nat.reduceLT]
  refine appK_of (ref_crc40_app fives_byt hg.whl (by rw [fives_len]; omega)) ?_
  rintro _ _ ⟨e2, rfl⟩
  rw [e2]
  clear e2
  simp only [↓eD0, ↓eD1, eC0, eC1, eC2, eC3, eC4, eC5, eC6, wantedE, ↓reduceIte, Nat.reduceEqDiff, Option.map_some, Option.map_none, reread, List.nil_append, List.cons_append, List.map_cons, List.map_nil, List.length_nil, List.length_cons, Value.cells, List.getElem?_cons_zero, List.getElem?_cons_succ, outE, lks, lkR, rdV, neg1, evs, opt, Nat.reduceAdd, Nat.reduceMul, and_self, reduceCtorEq, List.size_toArray, List.all_cons, List.all_nil, Value.oneCell', List.set_cons_zero, List.set_cons_succ, sets, fillL, Nat.reduceLeDiff, List.drop_succ_cons, List.drop_zero, List.take_succ_cons, List.take_zero, List.toList_toArray, argsE, Array.append_empty, Array.empty_append, List.getElem?_toArray, Int.reduceLT, Int.reduceLE, Int.reduceToNat, Int.reduceEq, Nat.reduceLT, fives_crc]
  exact ⟨ho, by simp [flat]⟩
end Go.Proofs.YtoegoigfbldkoaaDoor
