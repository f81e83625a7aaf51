/- Walks of the functions that the claim reaches. Conditions: none. -/
import Derived.Test.YtjgbbhfihcmphaaDoorHd
set_option linter.all false
set_option maxRecDepth 100000
set_option maxHeartbeats 4000000
namespace Go.Proofs.YtjgbbhfihcmphaaDoor
open Go Go.Cn Go.RowKit
attribute [local irreducible] evL sem onG onI onV
def lenT8 : ByteArray := ⟨#[0, 1, 2, 2, 3, 3, 3, 3, 4, 4, 4, 4, 4, 4, 4, 4, 5, 5, 5, 5, 5, 5, 5, 5, 5, 5, 5, 5, 5, 5, 5, 5, 6, 6, 6, 6, 6, 6, 6, 6, 6, 6, 6, 6, 6, 6, 6, 6, 6, 6, 6, 6, 6, 6, 6, 6, 6, 6, 6, 6, 6, 6, 6, 6, 7, 7, 7, 7, 7, 7, 7, 7, 7, 7, 7, 7, 7, 7, 7, 7, 7, 7, 7, 7, 7, 7, 7, 7, 7, 7, 7, 7, 7, 7, 7, 7, 7, 7, 7, 7, 7, 7, 7, 7, 7, 7, 7, 7, 7, 7, 7, 7, 7, 7, 7, 7, 7, 7, 7, 7, 7, 7, 7, 7, 7, 7, 7, 7, 8, 8, 8, 8, 8, 8, 8, 8, 8, 8, 8, 8, 8, 8, 8, 8, 8, 8, 8, 8, 8, 8, 8, 8, 8, 8, 8, 8, 8, 8, 8, 8, 8, 8, 8, 8, 8, 8, 8, 8, 8, 8, 8, 8, 8, 8, 8, 8, 8, 8, 8, 8, 8, 8, 8, 8, 8, 8, 8, 8, 8, 8, 8, 8, 8, 8, 8, 8, 8, 8, 8, 8, 8, 8, 8, 8, 8, 8, 8, 8, 8, 8, 8, 8, 8, 8, 8, 8, 8, 8, 8, 8, 8, 8, 8, 8, 8, 8, 8, 8, 8, 8, 8, 8, 8, 8, 8, 8, 8, 8, 8, 8, 8, 8, 8, 8, 8, 8, 8, 8, 8, 8, 8, 8, 8, 8, 8, 8]⟩
def blen (y : Nat) : Nat := if y = 0 then 0 else Nat.log2 y + 1
theorem lenT8_nat : ∀ y : Fin 256, (lenT8[y.val]?).map UInt8.toNat = some (blen y.val) := by decide +kernel
theorem lenT8_at (y : Fin 256) : (lenT8[y.val]?).map (fun b => Value.int .u8 (b.toNat : Int)) = some (.int .u8 (blen y.val : Int)) := by
 have h := lenT8_nat y
 cases hq : lenT8[y.val]? with
 |none => rw [hq] at h; cases h
 |some b =>
  rw [hq] at h
  have h2 : b.toNat = blen y.val := Option.some.inj h
  rw [Option.map_some, h2]
theorem blen_le {y k : Nat} (h : y < 2 ^ k) : blen y ≤ k := by
 unfold blen
 split
 ·omega
 ·rename_i h0
  have := (Nat.log2_lt h0).2 h
  omega
theorem blen_shr {x k : Nat} (h : 2 ^ k ≤ x) : blen x = k + blen (x >>> k) := by
 have hp : 0 < 2 ^ k := Nat.pow_pos (by omega)
 have h1 : x >>> k ≠ 0 := by
  rw [Nat.shiftRight_eq_div_pow]
  have := Nat.div_pos h hp
  omega
 unfold blen
 rw [if_neg (by omega), if_neg h1]
 have e : Nat.log2 x = k + Nat.log2 (x >>> k) := by
  apply Nat.le_antisymm
  ·apply Nat.le_of_lt_succ
   rw [Nat.log2_lt (by omega)]
   have h2 : x >>> k < 2 ^ (Nat.log2 (x >>> k) + 1) := Nat.lt_log2_self
   rw [Nat.shiftRight_eq_div_pow, Nat.div_lt_iff_lt_mul hp] at h2
   rw [show (k + Nat.log2 (x >>> k)).succ = Nat.log2 (x >>> k) + 1 + k by omega, Nat.pow_add, Nat.shiftRight_eq_div_pow]
   exact h2
  ·rw [Nat.le_log2 (by omega)]
   have h2 : 2 ^ Nat.log2 (x >>> k) ≤ x >>> k := Nat.log2_self_le h1
   rw [Nat.shiftRight_eq_div_pow, Nat.le_div_iff_mul_le hp] at h2
   rw [show k + Nat.log2 (x >>> k) = Nat.log2 (x >>> k) + k by omega, Nat.pow_add, Nat.shiftRight_eq_div_pow]
   exact h2
 omega
theorem len64_app {σ : H} {x : Nat} (h : x < 4398046511104) : App Tryd.prog (.func 75) #[] #[.int .u64 (x : Int)] σ fun w σ' => σ' = σ ∧ w = .int .i64 (blen x : Int) := by
 refine App.forget (App.of_sem mixed Tryd.func75 t75 k75 r75 (Nat.le_of_ble_eq_true rfl) ?_)
 rw [← ap_nil (σ := σ)]
 unfold s75
 rw [show (⟨#[0, 1, 2, 2, 3, 3, 3, 3, 4, 4, 4, 4, 4, 4, 4, 4, 5, 5, 5, 5, 5, 5, 5, 5, 5, 5, 5, 5, 5, 5, 5, 5, 6, 6, 6, 6, 6, 6, 6, 6, 6, 6, 6, 6, 6, 6, 6, 6, 6, 6, 6, 6, 6, 6, 6, 6, 6, 6, 6, 6, 6, 6, 6, 6, 7, 7, 7, 7, 7, 7, 7, 7, 7, 7, 7, 7, 7, 7, 7, 7, 7, 7, 7, 7, 7, 7, 7, 7, 7, 7, 7, 7, 7, 7, 7, 7, 7, 7, 7, 7, 7, 7, 7, 7, 7, 7, 7, 7, 7, 7, 7, 7, 7, 7, 7, 7, 7, 7, 7, 7, 7, 7, 7, 7, 7, 7, 7, 7, 8, 8, 8, 8, 8, 8, 8, 8, 8, 8, 8, 8, 8, 8, 8, 8, 8, 8, 8, 8, 8, 8, 8, 8, 8, 8, 8, 8, 8, 8, 8, 8, 8, 8, 8, 8, 8, 8, 8, 8, 8, 8, 8, 8, 8, 8, 8, 8, 8, 8, 8, 8, 8, 8, 8, 8, 8, 8, 8, 8, 8, 8, 8, 8, 8, 8, 8, 8, 8, 8, 8, 8, 8, 8, 8, 8, 8, 8, 8, 8, 8, 8, 8, 8, 8, 8, 8, 8, 8, 8, 8, 8, 8, 8, 8, 8, 8, 8, 8, 8, 8, 8, 8, 8, 8, 8, 8, 8, 8, 8, 8, 8, 8, 8, 8, 8, 8, 8, 8, 8, 8, 8, 8, 8, 8, 8, 8, 8]⟩ : ByteArray) = lenT8 from rfl]
 have s32 : ∀ a : Nat, (a : Int).fdiv (2 ^ (min 32 (IntKind.bits .u64))) = ((a >>> 32 : Nat) : Int) := fun a => shr_nat (by decide)
 have s16 : ∀ a : Nat, (a : Int).fdiv (2 ^ (min 16 (IntKind.bits .u64))) = ((a >>> 16 : Nat) : Int) := fun a => shr_nat (by decide)
 have s8 : ∀ a : Nat, (a : Int).fdiv (2 ^ (min 8 (IntKind.bits .u64))) = ((a >>> 8 : Nat) : Int) := fun a => shr_nat (by decide)
 have n32 : ((32 : Int) < 0) = False := by simp
 have n16 : ((16 : Int) < 0) = False := by simp
 have n8 : ((8 : Int) < 0) = False := by simp
 have t32 : Int.toNat 32 = 32 := rfl
 have t16 : Int.toNat 16 = 16 := rfl
 have t8 : Int.toNat 8 = 8 := rfl
 have fin : ∀ (y q : Nat), y < 256 → q ≤ 56 → blen x = q + blen y → (0 ≤ ((y : Nat) : Int) ∧ ((y : Nat) : Int) < (lenT8.size : Int)) ∧ IntKind.wrap .u8 (y : Int) = (y : Int) ∧ (lenT8[y]?).map (fun b => Value.int .u8 (b.toNat : Int)) = some (.int .u8 (blen y : Int)) ∧ IntKind.wrap .i64 (blen y : Int) = (blen y : Int) ∧ IntKind.wrap .i64 ((q : Int) + (blen y : Int)) = (blen x : Int) := by
  intro y q hy hq he
  have hz : lenT8.size = 256 := rfl
  have hb := blen_le (y := y) (k := 8) hy
  refine ⟨by rw [hz]; omega, wrap_u8 (by omega) (by omega), lenT8_at ⟨y, hy⟩, wrap64' (by omega) (by omega), ?_⟩
  rw [he, wrap64' (by omega) (by omega)]
  omega
 have w1 : IntKind.wrap .i64 ((32 : Int) + 16) = 48 := rfl
 have w2 : IntKind.wrap .i64 ((48 : Int) + 8) = 56 := rfl
 have w3 : IntKind.wrap .i64 ((32 : Int) + 8) = 40 := rfl
 have w4 : IntKind.wrap .i64 ((0 : Int) + 16) = 16 := rfl
 have w5 : IntKind.wrap .i64 ((16 : Int) + 8) = 24 := rfl
 have w6 : IntKind.wrap .i64 ((0 : Int) + 8) = 8 := rfl
 by_cases c32 : 4294967296 ≤ x
 ·have d32 : decide ((4294967296 : Int) ≤ ((x : Nat) : Int)) = true := by rw [decide_eq_true]; omega
  have e32 := blen_shr (k := 32) (x := x) c32
  by_cases c16 : 65536 ≤ (x) >>> 32
  ·have d16 : decide ((65536 : Int) ≤ (((x) >>> 32 : Nat) : Int)) = true := by rw [decide_eq_true]; omega
   have e16 := blen_shr (k := 16) (x := (x) >>> 32) c16
   by_cases c8 : 256 ≤ ((x) >>> 32) >>> 16
   ·have d8 : decide ((256 : Int) ≤ ((((x) >>> 32) >>> 16 : Nat) : Int)) = true := by rw [decide_eq_true]; omega
    have e8 := blen_shr (k := 8) (x := ((x) >>> 32) >>> 16) c8
    obtain ⟨f1, f2, f3, f4, f5⟩ := fin ((((x) >>> 32) >>> 16) >>> 8) 56 (by simp only [Nat.shiftRight_eq_div_pow] at *; omega) (by omega) (by omega)
    simp only [↓eD, eZ, ↓reduceIte, Nat.reduceEqDiff, Nat.reduceAdd, Nat.reduceMul, reduceCtorEq, Nat.reduceLeDiff, Int.reduceLT, Int.reduceLE, Int.reduceToNat, Int.reduceEq, Nat.reduceLT, d32, d16, d8, s32, s16, s8, n32, n16, n8, t32, t16, t8, w1, w2, w3, w4, w5, w6, Int.toNat_natCast, f1, f2, f3, f4, undef_eq]
    first | exact ⟨.ap, rfl, by rw [← f5]; rfl⟩ | exact ⟨.ap, by rw [← f5]; rfl⟩ | (refine ⟨.ap, rfl, ?_⟩; exact congrArg _ f5)
   ·have d8 : decide ((256 : Int) ≤ ((((x) >>> 32) >>> 16 : Nat) : Int)) = false := by rw [decide_eq_false]; omega
    obtain ⟨f1, f2, f3, f4, f5⟩ := fin (((x) >>> 32) >>> 16) 48 (by simp only [Nat.shiftRight_eq_div_pow] at *; omega) (by omega) (by omega)
    simp only [↓eD, eZ, ↓reduceIte, Nat.reduceEqDiff, Nat.reduceAdd, Nat.reduceMul, reduceCtorEq, Nat.reduceLeDiff, Int.reduceLT, Int.reduceLE, Int.reduceToNat, Int.reduceEq, Nat.reduceLT, d32, d16, d8, s32, s16, s8, n32, n16, n8, t32, t16, t8, w1, w2, w3, w4, w5, w6, Int.toNat_natCast, f1, f2, f3, f4, undef_eq]
    first | exact ⟨.ap, rfl, by rw [← f5]; rfl⟩ | exact ⟨.ap, by rw [← f5]; rfl⟩ | (refine ⟨.ap, rfl, ?_⟩; exact congrArg _ f5)
  ·have d16 : decide ((65536 : Int) ≤ (((x) >>> 32 : Nat) : Int)) = false := by rw [decide_eq_false]; omega
   by_cases c8 : 256 ≤ (x) >>> 32
   ·have d8 : decide ((256 : Int) ≤ (((x) >>> 32 : Nat) : Int)) = true := by rw [decide_eq_true]; omega
    have e8 := blen_shr (k := 8) (x := (x) >>> 32) c8
    obtain ⟨f1, f2, f3, f4, f5⟩ := fin (((x) >>> 32) >>> 8) 40 (by simp only [Nat.shiftRight_eq_div_pow] at *; omega) (by omega) (by omega)
    simp only [↓eD, eZ, ↓reduceIte, Nat.reduceEqDiff, Nat.reduceAdd, Nat.reduceMul, reduceCtorEq, Nat.reduceLeDiff, Int.reduceLT, Int.reduceLE, Int.reduceToNat, Int.reduceEq, Nat.reduceLT, d32, d16, d8, s32, s16, s8, n32, n16, n8, t32, t16, t8, w1, w2, w3, w4, w5, w6, Int.toNat_natCast, f1, f2, f3, f4, undef_eq]
    first | exact ⟨.ap, rfl, by rw [← f5]; rfl⟩ | exact ⟨.ap, by rw [← f5]; rfl⟩ | (refine ⟨.ap, rfl, ?_⟩; exact congrArg _ f5)
   ·have d8 : decide ((256 : Int) ≤ (((x) >>> 32 : Nat) : Int)) = false := by rw [decide_eq_false]; omega
    obtain ⟨f1, f2, f3, f4, f5⟩ := fin ((x) >>> 32) 32 (by simp only [Nat.shiftRight_eq_div_pow] at *; omega) (by omega) (by omega)
    simp only [↓eD, eZ, ↓reduceIte, Nat.reduceEqDiff, Nat.reduceAdd, Nat.reduceMul, reduceCtorEq, Nat.reduceLeDiff, Int.reduceLT, Int.reduceLE, Int.reduceToNat, Int.reduceEq, Nat.reduceLT, d32, d16, d8, s32, s16, s8, n32, n16, n8, t32, t16, t8, w1, w2, w3, w4, w5, w6, Int.toNat_natCast, f1, f2, f3, f4, undef_eq]
    first | exact ⟨.ap, rfl, by rw [← f5]; rfl⟩ | exact ⟨.ap, by rw [← f5]; rfl⟩ | (refine ⟨.ap, rfl, ?_⟩; exact congrArg _ f5)
 ·have d32 : decide ((4294967296 : Int) ≤ ((x : Nat) : Int)) = false := by rw [decide_eq_false]; omega
  by_cases c16 : 65536 ≤ x
  ·have d16 : decide ((65536 : Int) ≤ ((x : Nat) : Int)) = true := by rw [decide_eq_true]; omega
   have e16 := blen_shr (k := 16) (x := x) c16
   by_cases c8 : 256 ≤ (x) >>> 16
   ·have d8 : decide ((256 : Int) ≤ (((x) >>> 16 : Nat) : Int)) = true := by rw [decide_eq_true]; omega
    have e8 := blen_shr (k := 8) (x := (x) >>> 16) c8
    obtain ⟨f1, f2, f3, f4, f5⟩ := fin (((x) >>> 16) >>> 8) 24 (by simp only [Nat.shiftRight_eq_div_pow] at *; omega) (by omega) (by omega)
    simp only [↓eD, eZ, ↓reduceIte, Nat.reduceEqDiff, Nat.reduceAdd, Nat.reduceMul, reduceCtorEq, Nat.reduceLeDiff, Int.reduceLT, Int.reduceLE, Int.reduceToNat, Int.reduceEq, Nat.reduceLT, d32, d16, d8, s32, s16, s8, n32, n16, n8, t32, t16, t8, w1, w2, w3, w4, w5, w6, Int.toNat_natCast, f1, f2, f3, f4, undef_eq]
    first | exact ⟨.ap, rfl, by rw [← f5]; rfl⟩ | exact ⟨.ap, by rw [← f5]; rfl⟩ | (refine ⟨.ap, rfl, ?_⟩; exact congrArg _ f5)
   ·have d8 : decide ((256 : Int) ≤ (((x) >>> 16 : Nat) : Int)) = false := by rw [decide_eq_false]; omega
    obtain ⟨f1, f2, f3, f4, f5⟩ := fin ((x) >>> 16) 16 (by simp only [Nat.shiftRight_eq_div_pow] at *; omega) (by omega) (by omega)
    simp only [↓eD, eZ, ↓reduceIte, Nat.reduceEqDiff, Nat.reduceAdd, Nat.reduceMul, reduceCtorEq, Nat.reduceLeDiff, Int.reduceLT, Int.reduceLE, Int.reduceToNat, Int.reduceEq, Nat.reduceLT, d32, d16, d8, s32, s16, s8, n32, n16, n8, t32, t16, t8, w1, w2, w3, w4, w5, w6, Int.toNat_natCast, f1, f2, f3, f4, undef_eq]
    first | exact ⟨.ap, rfl, by rw [← f5]; rfl⟩ | exact ⟨.ap, by rw [← f5]; rfl⟩ | (refine ⟨.ap, rfl, ?_⟩; exact congrArg _ f5)
  ·have d16 : decide ((65536 : Int) ≤ ((x : Nat) : Int)) = false := by rw [decide_eq_false]; omega
   by_cases c8 : 256 ≤ x
   ·have d8 : decide ((256 : Int) ≤ ((x : Nat) : Int)) = true := by rw [decide_eq_true]; omega
    have e8 := blen_shr (k := 8) (x := x) c8
    obtain ⟨f1, f2, f3, f4, f5⟩ := fin ((x) >>> 8) 8 (by simp only [Nat.shiftRight_eq_div_pow] at *; omega) (by omega) (by omega)
    simp only [↓eD, eZ, ↓reduceIte, Nat.reduceEqDiff, Nat.reduceAdd, Nat.reduceMul, reduceCtorEq, Nat.reduceLeDiff, Int.reduceLT, Int.reduceLE, Int.reduceToNat, Int.reduceEq, Nat.reduceLT, d32, d16, d8, s32, s16, s8, n32, n16, n8, t32, t16, t8, w1, w2, w3, w4, w5, w6, Int.toNat_natCast, f1, f2, f3, f4, undef_eq]
    first | exact ⟨.ap, rfl, by rw [← f5]; rfl⟩ | exact ⟨.ap, by rw [← f5]; rfl⟩ | (refine ⟨.ap, rfl, ?_⟩; exact congrArg _ f5)
   ·have d8 : decide ((256 : Int) ≤ ((x : Nat) : Int)) = false := by rw [decide_eq_false]; omega
    obtain ⟨f1, f2, f3, f4, f5⟩ := fin (x) 0 (by simp only [Nat.shiftRight_eq_div_pow] at *; omega) (by omega) (by omega)
    simp only [↓eD, eZ, ↓reduceIte, Nat.reduceEqDiff, Nat.reduceAdd, Nat.reduceMul, reduceCtorEq, Nat.reduceLeDiff, Int.reduceLT, Int.reduceLE, Int.reduceToNat, Int.reduceEq, Nat.reduceLT, d32, d16, d8, s32, s16, s8, n32, n16, n8, t32, t16, t8, w1, w2, w3, w4, w5, w6, Int.toNat_natCast, f1, f2, f3, f4, undef_eq]
    first | exact ⟨.ap, rfl, by rw [← f5]; rfl⟩ | exact ⟨.ap, by rw [← f5]; rfl⟩ | (refine ⟨.ap, rfl, ?_⟩; exact congrArg _ f5)
set_option maxRecDepth 10000
def splitN (n : Nat) : Nat := 2 ^ (blen (n - 1) - 1)
theorem splitN_spec {n : Nat} (h : 2 ≤ n) : 0 < splitN n ∧ splitN n < n ∧ n ≤ 2 * splitN n := by
 have h0 : n - 1 ≠ 0 := by omega
 have e : splitN n = 2 ^ Nat.log2 (n - 1) := by unfold splitN blen; rw [if_neg h0]; rfl
 have h1 := Nat.log2_self_le h0
 have h2 : n - 1 < 2 ^ (Nat.log2 (n - 1) + 1) := Nat.lt_log2_self
 rw [Nat.pow_succ] at h2
 rw [e]
 exact ⟨Nat.pow_pos (by omega), by omega, by omega⟩
theorem pow_uniq {a b n : Nat} (h1 : 2 ^ a < n) (h2 : n ≤ 2 * 2 ^ a) (h3 : 2 ^ b < n) (h4 : n ≤ 2 * 2 ^ b) : a = b := by
 rcases Nat.lt_trichotomy a b with h | h | h
 ·exfalso
  have := Nat.pow_le_pow_right (n := 2) (by omega) (show a + 1 ≤ b by omega)
  rw [Nat.pow_succ] at this
  omega
 ·exact h
 ·exfalso
  have := Nat.pow_le_pow_right (n := 2) (by omega) (show b + 1 ≤ a by omega)
  rw [Nat.pow_succ] at this
  omega
theorem splitN_uniq {a n : Nat} (h1 : 2 ^ a < n) (h2 : n ≤ 2 * 2 ^ a) : splitN n = 2 ^ a := by
 have hp : 0 < 2 ^ a := Nat.pow_pos (by omega)
 have h := splitN_spec (n := n) (by omega)
 unfold splitN at h ⊢
 rw [pow_uniq h.2.1 h.2.2 h1 h2]
theorem len_app {σ : H} {x : Nat} (h : x < 4398046511104) : App Tryd.prog (.func 59) #[] #[.int .u64 (x : Int)] σ fun w σ' => σ' = σ ∧ w = .int .i64 (blen x : Int) := by
 refine App.of_sem mixed Tryd.func59 t59 k59 r59 (Nat.le_of_ble_eq_true rfl) ?_
 unfold s59
 simp only [↓eD, eZ, ↓reduceIte, Nat.reduceEqDiff, Nat.reduceAdd, Nat.reduceMul, reduceCtorEq, Nat.reduceLeDiff, Int.reduceLT, Int.reduceLE, Int.reduceToNat, Int.reduceEq, Nat.reduceLT, undef_eq]
 refine appK_at (len64_app h) ?_
 simp only [↓eD, eZ, ↓reduceIte, Nat.reduceEqDiff, Nat.reduceAdd, Nat.reduceMul, reduceCtorEq, Nat.reduceLeDiff, Int.reduceLT, Int.reduceLE, Int.reduceToNat, Int.reduceEq, Nat.reduceLT, undef_eq]
 first | exact ⟨rfl, rfl⟩ | rfl | skip
theorem lsplit_app {σ : H} {n : Nat} (h2 : 2 ≤ n) (h : n ≤ 2199023255552) : App Tryd.prog (.func 33) #[] #[.int .i64 (n : Int)] σ fun w σ' => σ' = σ ∧ w = .int .i64 (splitN n : Int) := by
 refine App.of_sem mixed Tryd.func33 t33 k33 r33 (Nat.le_of_ble_eq_true rfl) ?_
 unfold s33
 have w1 : IntKind.wrap .i64 ((n : Int) - 1) = ((n - 1 : Nat) : Int) := by rw [wrap64' (by omega) (by omega)]; omega
 have w2 : IntKind.wrap .u64 (((n - 1 : Nat)) : Int) = ((n - 1 : Nat) : Int) := wrap_u64 (by omega) (by omega)
 have hb : blen (n - 1) ≤ 42 := blen_le (k := 42) (by omega)
 have hb0 : 0 < blen (n - 1) := by unfold blen; rw [if_neg (by omega)]; omega
 have w3 : IntKind.wrap .i64 ((blen (n - 1) : Int) - 1) = ((blen (n - 1) - 1 : Nat) : Int) := by rw [wrap64' (by omega) (by omega)]; omega
 have hs := (splitN_spec h2).2.1
 have w4 : IntKind.wrap .i64 (1 * 2 ^ (min (blen (n - 1) - 1) (IntKind.bits .i64))) = (splitN n : Int) := by
  have e1 : IntKind.bits .i64 = 64 := rfl
  rw [e1, Nat.min_eq_left (by omega)]
  have e2 : (1 : Int) * 2 ^ (blen (n - 1) - 1) = (splitN n : Int) := by unfold splitN; rw [Int.one_mul]; push_cast; rfl
  rw [e2]
  exact wrap64' (by omega) (by omega)
 have n0 : (((blen (n - 1) - 1 : Nat) : Int) < 0) = False := eq_false (by omega)
 simp only [↓eD, eZ, ↓reduceIte, Nat.reduceEqDiff, Nat.reduceAdd, Nat.reduceMul, reduceCtorEq, Nat.reduceLeDiff, Int.reduceLT, Int.reduceLE, Int.reduceToNat, Int.reduceEq, Nat.reduceLT, w1, w2, undef_eq]
 refine appK_at (len_app (by omega)) ?_
 simp only [↓eD, eZ, ↓reduceIte, Nat.reduceEqDiff, Nat.reduceAdd, Nat.reduceMul, reduceCtorEq, Nat.reduceLeDiff, Int.reduceLT, Int.reduceLE, Int.reduceToNat, Int.reduceEq, Nat.reduceLT, w3, n0, Int.toNat_natCast, w4, undef_eq]
 first | exact ⟨rfl, rfl⟩ | rfl | skip
theorem rsplit_app {σ : H} {n : Nat} (h2 : 2 ≤ n) (h : n ≤ 2199023255552) : App Tryd.prog (.func 40) #[] #[.int .i64 (n : Int)] σ fun w σ' => σ' = σ ∧ w = .int .i64 (splitN n : Int) := by
 refine App.of_sem mixed Tryd.func40 t40 k40 r40 (Nat.le_of_ble_eq_true rfl) ?_
 unfold s40
 simp only [↓eD, eZ, ↓reduceIte, Nat.reduceEqDiff, Nat.reduceAdd, Nat.reduceMul, reduceCtorEq, Nat.reduceLeDiff, Int.reduceLT, Int.reduceLE, Int.reduceToNat, Int.reduceEq, Nat.reduceLT, undef_eq]
 refine loop_for (J := fun i e τ => i ≤ 42 ∧ 2 ^ i < n ∧ e = [(0, .int .i64 (n : Int)), (3, .int .i64 ((2 ^ i : Nat) : Int))] ∧ τ = σ) 42 ⟨by omega, by omega, rfl, rfl⟩ ?_
 rintro i e τ hi ⟨_, hlt, rfl, rfl⟩
 obtain ⟨k, hk⟩ : ∃ k, k = 2 ^ i := ⟨_, rfl⟩
 rw [← hk] at hlt ⊢
 have w1 : IntKind.wrap .i64 (2 * (k : Int)) = ((2 * k : Nat) : Int) := by rw [wrap64' (by omega) (by omega)]; omega
 by_cases c : 2 * k < n
 ·have d : decide (((2 * k : Nat) : Int) < (n : Int)) = true := by rw [decide_eq_true]; omega
  have hp : 2 ^ (i + 1) = 2 * k := by rw [Nat.pow_succ, hk]; omega
  have hi42 : i < 42 := by
   apply Nat.lt_of_not_le
   intro h9
   have h8 := Nat.pow_le_pow_right (n := 2) (by omega) h9
   rw [← hk] at h8
   omega
  simp only [↓eD, eZ, ↓reduceIte, Nat.reduceEqDiff, Nat.reduceAdd, Nat.reduceMul, reduceCtorEq, Nat.reduceLeDiff, Int.reduceLT, Int.reduceLE, Int.reduceToNat, Int.reduceEq, Nat.reduceLT, w1, d, undef_eq]
  refine ⟨hi42, by omega, by omega, ?_⟩
  rw [hp]
 ·have d : decide (((2 * k : Nat) : Int) < (n : Int)) = false := by rw [decide_eq_false]; omega
  simp only [↓eD, eZ, ↓reduceIte, Nat.reduceEqDiff, Nat.reduceAdd, Nat.reduceMul, reduceCtorEq, Nat.reduceLeDiff, Int.reduceLT, Int.reduceLE, Int.reduceToNat, Int.reduceEq, Nat.reduceLT, w1, d, undef_eq]
  have := splitN_uniq (a := i) (n := n) (by omega) (by omega)
  rw [this, ← hk]
  first | exact ⟨rfl, rfl⟩ | rfl | skip
def OldB (b : Nat) (σ τ : H) : Prop := σ.size ≤ τ.size ∧ ∀ c, c < σ.size → c ≠ b → τ[c]? = σ[c]?
theorem rdb_of {θ θ' : H} {b n ver : Nat} {cs : List Value} (h : θ[b]? = some (.cells ver cs (0, 0))) (ho : Old θ θ') (hn : cs.length = n) : rdN θ' ⟨b, 0, none⟩ n = some cs :=
 rdN_all ((ho.2 _ (Array.getElem?_eq_some_iff.1 h).1).trans h) hn
theorem rd1_of {θ θ' : H} {b ver k : Nat} {cs : List Value} {x : Value} (h : θ[b]? = some (.cells ver cs (0, 0))) (ho : Old θ θ') (hn : cs[k]? = some x) : rd1 θ' ⟨b, k, none⟩ = some x := by
 rw [rd1_eq, (ho.2 _ (Array.getElem?_eq_some_iff.1 h).1).trans h]; exact hn
theorem Whl.oldB {σ τ : H} {s n b : Nat} {v : Value} {cs : List Value} (h : Whl σ s v n cs) (hb : ∀ c, baseOf v = some c → c ≠ b) (ho : OldB b σ τ) (hs : 0 < s) : Whl τ s v n cs := by
 obtain ⟨h1, h2 | ⟨k, o, cap, rfl, h3, h4⟩⟩ := h
 ·exact ⟨h1, .inl h2⟩
 ·by_cases hn : n = 0
  ·subst hn
   have hc : cs = [] := by simpa using h1
   subst hc
   refine ⟨h1, .inr ⟨k, o, cap, rfl, h3, ?_⟩⟩
   rw [Nat.zero_mul, rdN_eq, if_pos rfl]
  ·refine ⟨h1, .inr ⟨k, o, cap, rfl, h3, ?_⟩⟩
   have hne := hb k rfl
   have hk : k < σ.size := by
    rw [rdN_eq, if_neg (Nat.mul_ne_zero hn (by omega))] at h4
    cases hq : σ[k]? with
    |none => simp only [hq] at h4; cases h4
    |some q => exact (Array.getElem?_eq_some_iff.1 hq).1
   rw [rdN_eq] at h4 ⊢
   show (if n * s = 0 then some [] else rdcN τ[k]? _ (n * s)) = _
   rw [ho.2 k hk hne]
   exact h4
theorem OldB.set {b : Nat} {σ τ : H} {k : Blk} (h : OldB b σ τ) : OldB b σ (τ.setIfInBounds b k) := ⟨by simpa using h.1, fun c h1 h2 => (get_set_ne (Ne.symm h2)).trans (h.2 c h1 h2)⟩
theorem OldB.Old' {b : Nat} {σ τ τ' : H} (h : OldB b σ τ) (ho : Old τ τ') : OldB b σ τ' := by
 have h1 := h.1
 have h2 := ho.1
 exact ⟨by omega, fun c hc hne => (ho.2 c (by omega)).trans (h.2 c hc hne)⟩
theorem OldB.old {b : Nat} {ρ σ τ : H} (h : OldB b σ τ) (ho : Old ρ σ) (hb : ρ.size ≤ b) : Old ρ τ := by
 have h1 := h.1
 have h2 := ho.1
 exact ⟨by omega, fun c hc => (h.2 c (by omega) (by omega)).trans (ho.2 c hc)⟩
def leafF (s : ByteArray) : List Int := ofF 30 [s]
@[irreducible] def nodeF (a b : List Int) : List Int := ofF 31 [bytesS a, bytesS b]
def emptyF : List Int := ofF 32 []
theorem leafF_len {s : ByteArray} : (leafF s).length = 16 := ofF_len
theorem nodeF_len {a b : List Int} : (nodeF a b).length = 16 := by rw [nodeF]; exact ofF_len
theorem emptyF_len : emptyF.length = 16 := ofF_len
theorem dig_str3 {d : List Int} : Value.string { data := (List.map (fun x : Int => UInt8.ofNat x.toNat) d).toArray } = .string (bytesS d) := rfl
theorem dig_put {θ : H} {b ver : Nat} {D : List Int} (hD : D.length = 16) (hb : θ[b]? = some (.cells ver (List.replicate 16 (.int .u8 0)) (0, 0))) :
  wrN θ ⟨b, 0, none⟩ (digC D) = some (θ.setIfInBounds b (.cells (ver + 1) (digC D) (0, 0))) ∧ rdN (θ.setIfInBounds b (.cells (ver + 1) (digC D) (0, 0))) ⟨b, 0, none⟩ 16 = some (digC D) := by
 have lD : (digC D).length = 16 := by rw [digC_length, hD]
 refine ⟨?_, rdN_all (get_set hb) lD⟩
 rw [wrN_eq, if_neg (by intro h9; rw [h9] at lD; cases lD), hb, wrc_cells, if_pos ⟨by rw [lD, List.length_replicate]; show 0 + 16 ≤ 16; omega, digC_one⟩, sets_all (by rw [lD, List.length_replicate]; show 0 + 16 ≤ 16; omega)]
 simp [lD]
theorem dig_len {D : List Int} (hD : D.length = 16) : (digC D).length = 16 ∧ (digC D).take 16 = digC D ∧ ((digC D) = []) = False ∧ ∀ z : List Value, z.length = 16 → sets z 0 (digC D) = digC D := by
 have lD : (digC D).length = 16 := by rw [digC_length, hD]
 exact ⟨lD, List.take_of_length_le (by omega), (eq_false fun h => by rw [h] at lD; cases lD), fun z hz => by rw [sets_all (by omega), lD]; simp [hz]⟩
theorem rep16 : (List.replicate 16 (Value.int .u8 0)).length = 16 := List.length_replicate
theorem lleaf_app {σ : H} {s : ByteArray} (hs : s.size < 100000000000) (hG : HGlob σ) : App Tryd.prog (.func 14) #[] #[.string s] σ fun v σ' => σ' = σ ∧ v = .agg (digC (leafF s)).toArray := by
 refine App.forget (App.of_sem mixed Tryd.func14 t14 k14 r14 (Nat.le_of_ble_eq_true rfl) ?_)
 rw [← ap_nil (σ := σ)]
 unfold s14
 simp only [↓eD, eZ, ↓reduceIte, Nat.reduceEqDiff, Nat.reduceAdd, Nat.reduceMul, reduceCtorEq, Nat.reduceLeDiff, Int.reduceLT, Int.reduceLE, Int.reduceToNat, Int.reduceEq, Nat.reduceLT, rep16, undef_eq]
 obtain ⟨T, hT⟩ : ∃ T, T = ap σ [.cells 0 (List.replicate 16 (.int .u8 0)) (0, 0), .cells 0 [.string s] (0, 0)] := ⟨_, rfl⟩
 rw [← hT]
 have oT : Old σ T := by rw [hT]; exact .ap
 have z0 : T[σ.size]? = some (.cells 0 (List.replicate 16 (.int .u8 0)) (0, 0)) := by rw [hT, ap_new0]; rfl
 have z1 : T[σ.size + 1]? = some (.cells 0 [.string s] (0, 0)) := by rw [hT, ap_new]; rfl
 clear hT
 have hw : Whl T 1 (.slice (some ⟨σ.size + 1, 0, none⟩) 1 1) [s].length ([s].map .string) := (Grown.lit (σ0 := σ) (ver := 0) (s := 1) (n := 1) rfl (by decide) (by omega) z1).whl
 refine appK_at (hof_app (tag := 30) (l := [s]) hw (by simp) (fun t ht => by rw [List.mem_singleton] at ht; rw [ht]; exact hs) (hG.Old oT)) ?_
 have D16 : (leafF s).length = 16 := leafF_len
 have hof : ofF 30 [s] = leafF s := rfl
 rw [hof]
 generalize leafF s = D at D16
 obtain ⟨w1, r1⟩ := dig_put D16 z0
 obtain ⟨l1, l2, l3, l4⟩ := dig_len D16
 simp only [↓eD, eZ, ↓reduceIte, Nat.reduceEqDiff, Nat.reduceAdd, Nat.reduceMul, reduceCtorEq, Nat.reduceLeDiff, Int.reduceLT, Int.reduceLE, Int.reduceToNat, Int.reduceEq, Nat.reduceLT, l1, w1, r1, undef_eq]
 first | exact ⟨oT.set (by omega), flat_dig, rfl⟩ | exact ⟨oT.set (by omega), flat_dig⟩
theorem rleaf_app {σ : H} {s : ByteArray} (hs : s.size < 100000000000) (hG : Glob σ) : App Tryd.prog (.func 18) #[] #[.string s] σ fun v σ' => σ' = σ ∧ v = .agg (digC (leafF s)).toArray := by
 refine App.forget (App.of_sem mixed Tryd.func18 t18 k18 r18 (Nat.le_of_ble_eq_true rfl) ?_)
 rw [← ap_nil (σ := σ)]
 unfold s18
 simp only [↓eD, eZ, ↓reduceIte, Nat.reduceEqDiff, Nat.reduceAdd, Nat.reduceMul, reduceCtorEq, Nat.reduceLeDiff, Int.reduceLT, Int.reduceLE, Int.reduceToNat, Int.reduceEq, Nat.reduceLT, rep16, undef_eq]
 obtain ⟨T, hT⟩ : ∃ T, T = ap σ [.cells 0 (List.replicate 16 (.int .u8 0)) (0, 0), .cells 0 [.string s] (0, 0)] := ⟨_, rfl⟩
 rw [← hT]
 have oT : Old σ T := by rw [hT]; exact .ap
 have z0 : T[σ.size]? = some (.cells 0 (List.replicate 16 (.int .u8 0)) (0, 0)) := by rw [hT, ap_new0]; rfl
 have z1 : T[σ.size + 1]? = some (.cells 0 [.string s] (0, 0)) := by rw [hT, ap_new]; rfl
 clear hT
 have hw : Whl T 1 (.slice (some ⟨σ.size + 1, 0, none⟩) 1 1) [s].length ([s].map .string) := (Grown.lit (σ0 := σ) (ver := 0) (s := 1) (n := 1) rfl (by decide) (by omega) z1).whl
 refine appK_at (of_app (tag := 30) (l := [s]) hw (by simp) (fun t ht => by rw [List.mem_singleton] at ht; rw [ht]; exact hs) (hG.Old oT)) ?_
 have D16 : (leafF s).length = 16 := leafF_len
 have hof : ofF 30 [s] = leafF s := rfl
 rw [hof]
 generalize leafF s = D at D16
 obtain ⟨w1, r1⟩ := dig_put D16 z0
 obtain ⟨l1, l2, l3, l4⟩ := dig_len D16
 simp only [↓eD, eZ, ↓reduceIte, Nat.reduceEqDiff, Nat.reduceAdd, Nat.reduceMul, reduceCtorEq, Nat.reduceLeDiff, Int.reduceLT, Int.reduceLE, Int.reduceToNat, Int.reduceEq, Nat.reduceLT, l1, w1, r1, undef_eq]
 first | exact ⟨oT.set (by omega), flat_dig, rfl⟩ | exact ⟨oT.set (by omega), flat_dig⟩
theorem lempty_app {σ : H} (hG : HGlob σ) : App Tryd.prog (.func 38) #[] #[] σ fun v σ' => σ' = σ ∧ v = .agg (digC emptyF).toArray := by
 refine App.forget (App.of_sem mixed Tryd.func38 t38 k38 r38 (Nat.le_of_ble_eq_true rfl) ?_)
 rw [← ap_nil (σ := σ)]
 unfold s38
 simp only [↓eD, eZ, ↓reduceIte, Nat.reduceEqDiff, Nat.reduceAdd, Nat.reduceMul, reduceCtorEq, Nat.reduceLeDiff, Int.reduceLT, Int.reduceLE, Int.reduceToNat, Int.reduceEq, Nat.reduceLT, rep16, undef_eq]
 obtain ⟨T, hT⟩ : ∃ T, T = ap σ [.cells 0 (List.replicate 16 (.int .u8 0)) (0, 0)] := ⟨_, rfl⟩
 rw [← hT]
 have oT : Old σ T := by rw [hT]; exact .ap
 have z0 : T[σ.size]? = some (.cells 0 (List.replicate 16 (.int .u8 0)) (0, 0)) := by rw [hT, ap_new0]; rfl
 clear hT
 refine appK_at (hof_app (tag := 32) (l := []) ⟨rfl, .inl ⟨rfl, none, 0, rfl, .inl rfl⟩⟩ (by simp) (fun t ht => by cases ht) (hG.Old oT)) ?_
 have D16 : emptyF.length = 16 := emptyF_len
 have hof : ofF 32 [] = emptyF := rfl
 rw [hof]
 generalize emptyF = D at D16
 obtain ⟨w1, r1⟩ := dig_put D16 z0
 obtain ⟨l1, l2, l3, l4⟩ := dig_len D16
 simp only [↓eD, eZ, ↓reduceIte, Nat.reduceEqDiff, Nat.reduceAdd, Nat.reduceMul, reduceCtorEq, Nat.reduceLeDiff, Int.reduceLT, Int.reduceLE, Int.reduceToNat, Int.reduceEq, Nat.reduceLT, l1, w1, r1, undef_eq]
 first | exact ⟨oT.set (by omega), flat_dig, rfl⟩ | exact ⟨oT.set (by omega), flat_dig⟩
theorem rempty_app {σ : H} (hG : Glob σ) : App Tryd.prog (.func 39) #[] #[] σ fun v σ' => σ' = σ ∧ v = .agg (digC emptyF).toArray := by
 refine App.forget (App.of_sem mixed Tryd.func39 t39 k39 r39 (Nat.le_of_ble_eq_true rfl) ?_)
 rw [← ap_nil (σ := σ)]
 unfold s39
 simp only [↓eD, eZ, ↓reduceIte, Nat.reduceEqDiff, Nat.reduceAdd, Nat.reduceMul, reduceCtorEq, Nat.reduceLeDiff, Int.reduceLT, Int.reduceLE, Int.reduceToNat, Int.reduceEq, Nat.reduceLT, rep16, undef_eq]
 obtain ⟨T, hT⟩ : ∃ T, T = ap σ [.cells 0 (List.replicate 16 (.int .u8 0)) (0, 0)] := ⟨_, rfl⟩
 rw [← hT]
 have oT : Old σ T := by rw [hT]; exact .ap
 have z0 : T[σ.size]? = some (.cells 0 (List.replicate 16 (.int .u8 0)) (0, 0)) := by rw [hT, ap_new0]; rfl
 clear hT
 refine appK_at (of_app (tag := 32) (l := []) ⟨rfl, .inl ⟨rfl, none, 0, rfl, .inl rfl⟩⟩ (by simp) (fun t ht => by cases ht) (hG.Old oT)) ?_
 have D16 : emptyF.length = 16 := emptyF_len
 have hof : ofF 32 [] = emptyF := rfl
 rw [hof]
 generalize emptyF = D at D16
 obtain ⟨w1, r1⟩ := dig_put D16 z0
 obtain ⟨l1, l2, l3, l4⟩ := dig_len D16
 simp only [↓eD, eZ, ↓reduceIte, Nat.reduceEqDiff, Nat.reduceAdd, Nat.reduceMul, reduceCtorEq, Nat.reduceLeDiff, Int.reduceLT, Int.reduceLE, Int.reduceToNat, Int.reduceEq, Nat.reduceLT, l1, w1, r1, undef_eq]
 first | exact ⟨oT.set (by omega), flat_dig, rfl⟩ | exact ⟨oT.set (by omega), flat_dig⟩
theorem lnode_app {σ : H} {a b : List Int} (ha : a.length = 16) (hb : b.length = 16) (hG : HGlob σ) : App Tryd.prog (.func 19) #[] #[.agg (digC a).toArray, .agg (digC b).toArray] σ fun v σ' => σ' = σ ∧ v = .agg (digC (nodeF a b)).toArray := by
 refine App.forget (App.of_sem mixed Tryd.func19 t19 k19 r19 (Nat.le_of_ble_eq_true rfl) ?_)
 obtain ⟨a1, a2, a3, a4⟩ := dig_len ha
 obtain ⟨b1, b2, b3, b4⟩ := dig_len hb
 rw [← ap_nil (σ := σ)]
 unfold s19
 have sa : sliceArr 16 1 (.pointer (some ⟨σ.size, 0, none⟩)) none none none = some (.slice (some ⟨σ.size, 0, none⟩) 16 16) := rfl
 have sb : sliceArr 16 1 (.pointer (some ⟨σ.size + 1, 0, none⟩)) none none none = some (.slice (some ⟨σ.size + 1, 0, none⟩) 16 16) := rfl
 simp only [↓eD, eZ, ↓reduceIte, Nat.reduceEqDiff, Nat.reduceAdd, Nat.reduceMul, reduceCtorEq, Nat.reduceLeDiff, Int.reduceLT, Int.reduceLE, Int.reduceToNat, Int.reduceEq, Nat.reduceLT, rep16, a1, a2, b1, b2, sa, sb, Option.bind_some, bytesOf_dig, dig_str3, undef_eq]
 obtain ⟨T, hT⟩ : ∃ T, T = ap σ [.cells 0 (digC a) (0, 0), .cells 0 (digC b) (0, 0), .cells 0 (List.replicate 16 (.int .u8 0)) (0, 0), .cells 0 [.string (bytesS a), .string (bytesS b)] (0, 0)] := ⟨_, rfl⟩
 rw [← hT]
 have oT : Old σ T := by rw [hT]; exact .ap
 have z0 : T[σ.size + 2]? = some (.cells 0 (List.replicate 16 (.int .u8 0)) (0, 0)) := by rw [hT, ap_new]; rfl
 have z1 : T[σ.size + 3]? = some (.cells 0 [.string (bytesS a), .string (bytesS b)] (0, 0)) := by rw [hT, ap_new]; rfl
 clear hT
 have hw : Whl T 1 (.slice (some ⟨σ.size + 3, 0, none⟩) 2 2) [bytesS a, bytesS b].length ([bytesS a, bytesS b].map .string) := (Grown.lit (σ0 := σ) (ver := 0) (s := 1) (n := 2) rfl (by decide) (by omega) z1).whl
 refine appK_at (hof_app (tag := 31) (l := [bytesS a, bytesS b]) hw (by simp) (fun t ht => by
  simp only [List.mem_cons, List.not_mem_nil, or_false] at ht
  rcases ht with rfl | rfl <;> (rw [bytesS_size']; omega)) (hG.Old oT)) ?_
 have D16 : (nodeF a b).length = 16 := nodeF_len
 have hof : ofF 31 [bytesS a, bytesS b] = nodeF a b := by rw [nodeF]
 rw [hof]
 generalize nodeF a b = D at D16
 obtain ⟨w1, r1⟩ := dig_put D16 z0
 obtain ⟨l1, l2, l3, l4⟩ := dig_len D16
 simp only [↓eD, eZ, ↓reduceIte, Nat.reduceEqDiff, Nat.reduceAdd, Nat.reduceMul, reduceCtorEq, Nat.reduceLeDiff, Int.reduceLT, Int.reduceLE, Int.reduceToNat, Int.reduceEq, Nat.reduceLT, l1, w1, r1, undef_eq]
 first | exact ⟨oT.set (by omega), flat_dig, rfl⟩ | exact ⟨oT.set (by omega), flat_dig⟩
theorem rnode_app {σ : H} {a b : List Int} (ha : a.length = 16) (hb : b.length = 16) (hG : Glob σ) : App Tryd.prog (.func 20) #[] #[.agg (digC a).toArray, .agg (digC b).toArray] σ fun v σ' => σ' = σ ∧ v = .agg (digC (nodeF a b)).toArray := by
 refine App.forget (App.of_sem mixed Tryd.func20 t20 k20 r20 (Nat.le_of_ble_eq_true rfl) ?_)
 obtain ⟨a1, a2, a3, a4⟩ := dig_len ha
 obtain ⟨b1, b2, b3, b4⟩ := dig_len hb
 rw [← ap_nil (σ := σ)]
 unfold s20
 have sa : sliceArr 16 1 (.pointer (some ⟨σ.size, 0, none⟩)) none none none = some (.slice (some ⟨σ.size, 0, none⟩) 16 16) := rfl
 have sb : sliceArr 16 1 (.pointer (some ⟨σ.size + 1, 0, none⟩)) none none none = some (.slice (some ⟨σ.size + 1, 0, none⟩) 16 16) := rfl
 simp only [↓eD, eZ, ↓reduceIte, Nat.reduceEqDiff, Nat.reduceAdd, Nat.reduceMul, reduceCtorEq, Nat.reduceLeDiff, Int.reduceLT, Int.reduceLE, Int.reduceToNat, Int.reduceEq, Nat.reduceLT, rep16, a1, a2, b1, b2, sa, sb, Option.bind_some, bytesOf_dig, dig_str3, undef_eq]
 obtain ⟨T, hT⟩ : ∃ T, T = ap σ [.cells 0 (digC a) (0, 0), .cells 0 (digC b) (0, 0), .cells 0 (List.replicate 16 (.int .u8 0)) (0, 0), .cells 0 [.string (bytesS a), .string (bytesS b)] (0, 0)] := ⟨_, rfl⟩
 rw [← hT]
 have oT : Old σ T := by rw [hT]; exact .ap
 have z0 : T[σ.size + 2]? = some (.cells 0 (List.replicate 16 (.int .u8 0)) (0, 0)) := by rw [hT, ap_new]; rfl
 have z1 : T[σ.size + 3]? = some (.cells 0 [.string (bytesS a), .string (bytesS b)] (0, 0)) := by rw [hT, ap_new]; rfl
 clear hT
 have hw : Whl T 1 (.slice (some ⟨σ.size + 3, 0, none⟩) 2 2) [bytesS a, bytesS b].length ([bytesS a, bytesS b].map .string) := (Grown.lit (σ0 := σ) (ver := 0) (s := 1) (n := 2) rfl (by decide) (by omega) z1).whl
 refine appK_at (of_app (tag := 31) (l := [bytesS a, bytesS b]) hw (by simp) (fun t ht => by
  simp only [List.mem_cons, List.not_mem_nil, or_false] at ht
  rcases ht with rfl | rfl <;> (rw [bytesS_size']; omega)) (hG.Old oT)) ?_
 have D16 : (nodeF a b).length = 16 := nodeF_len
 have hof : ofF 31 [bytesS a, bytesS b] = nodeF a b := by rw [nodeF]
 rw [hof]
 generalize nodeF a b = D at D16
 obtain ⟨w1, r1⟩ := dig_put D16 z0
 obtain ⟨l1, l2, l3, l4⟩ := dig_len D16
 simp only [↓eD, eZ, ↓reduceIte, Nat.reduceEqDiff, Nat.reduceAdd, Nat.reduceMul, reduceCtorEq, Nat.reduceLeDiff, Int.reduceLT, Int.reduceLE, Int.reduceToNat, Int.reduceEq, Nat.reduceLT, l1, w1, r1, undef_eq]
 first | exact ⟨oT.set (by omega), flat_dig, rfl⟩ | exact ⟨oT.set (by omega), flat_dig⟩
set_option maxHeartbeats 1000000
theorem allS_append : ∀ {a b : List (Option Value)} {x y : List Value}, allS a = some x → allS b = some y → allS (a ++ b) = some (x ++ y)
 |[], b, x, y, h1, h2 => by simp only [allS, Option.some.injEq] at h1; subst h1; simpa using h2
 |none :: a, b, x, y, h1, h2 => by cases h1
 |some u :: a, b, x, y, h1, h2 => by
  simp only [allS, Option.map_eq_some_iff] at h1
  obtain ⟨x', g1, rfl⟩ := h1
  simp only [List.cons_append, allS, allS_append g1 h2, Option.map_some]
theorem rdN_add {σ : H} {b o m k : Nat} {x y : List Value} (h1 : rdN σ ⟨b, o, none⟩ m = some x) (h2 : rdN σ ⟨b, o + m, none⟩ k = some y) : rdN σ ⟨b, o, none⟩ (m + k) = some (x ++ y) := by
 by_cases hm : m = 0
 ·subst hm
  rw [rdN_eq, if_pos rfl] at h1
  injection h1 with h1
  subst h1
  simpa using h2
 by_cases hk : k = 0
 ·subst hk
  rw [rdN_eq, if_pos rfl] at h2
  injection h2 with h2
  subst h2
  simpa using h1
 rw [rdN_eq, if_neg hm] at h1
 rw [rdN_eq, if_neg hk] at h2
 rw [rdN_eq, if_neg (by omega)]
 simp only at h1 h2 ⊢
 generalize σ[b]? = q at h1 h2 ⊢
 cases q with
 |none => cases h1
 |some q =>
  cases q with
  |cells v cs fz =>
   simp only [rdcN] at h1 h2 ⊢
   split at h1
   ·split at h2
    ·injection h1 with h1
     injection h2 with h2
     subst h1 h2
     rw [if_pos (by omega), List.take_add, List.drop_drop]
    ·cases h2
   ·cases h1
  |part cs =>
   simp only [rdcN] at h1 h2 ⊢
   split at h1
   ·split at h2
    ·rw [if_pos (by omega), List.take_add, List.drop_drop]
     exact allS_append h1 h2
    ·cases h2
   ·cases h1
  |_ => cases h1
theorem rows_read {σ : H} {s b o : Nat} {xs : List (List Value)} (h : ∀ (i : Nat) (x : List Value), xs[i]? = some x → rdN σ ⟨b, o + i * s, none⟩ s = some x) : ∀ n, n ≤ xs.length → rdN σ ⟨b, o, none⟩ (n * s) = some (xs.take n).flatten
 |0, _ => by simp [rdN_eq]
 |n + 1, hn => by
  have ih := rows_read h n (by omega)
  have h1 := h n xs[n] (by simp)
  have e : (xs.take (n + 1)).flatten = (xs.take n).flatten ++ xs[n] := by rw [List.take_succ_eq_append_getElem (by omega), List.flatten_append]; simp
  rw [Nat.add_mul, Nat.one_mul, rdN_add ih h1, e]
theorem row_xcells {σ : H} {s : Nat} {v : Value} {xs : List (List Value)} (h : Row σ s v xs) : xcells σ s v = some (xs.length, xs.flatten) := by
 obtain ⟨base, cap, rfl, h2⟩ := h
 cases xs with
 |nil =>
  cases base with
  |none => simp [xcells]
  |some a => simp [xcells, rdN_eq]
 |cons x r =>
  obtain ⟨b, off, rfl, _⟩ := h2 0 x rfl
  have := rows_read (σ := σ) (s := s) (b := b) (o := off) (xs := x :: r) (fun i y hy => by
   obtain ⟨b', off', hb, hr⟩ := h2 i y hy
   injection hb with hb
   injection hb with hb1 hb2 hb3
   subst hb1 hb2
   exact hr) (x :: r).length (Nat.le_refl _)
  simp only [xcells, this, Option.map_some, List.take_length]
end Go.Proofs.YtjgbbhfihcmphaaDoor
