/- Walks of the functions that the claim reaches. Conditions: none. -/
import Derived.Test.YtjgbbhfihcmphaaDoorBodies
set_option linter.all false
set_option maxRecDepth 10000
namespace Go.Proofs.YtjgbbhfihcmphaaDoor
open Go Go.Cn Go.RowKit
theorem mixed : Tryd.prog.follows .mixedOrders = true := by kernel_rfl
theorem undef_eq : undef = Value.tuple #[] := _root_.id rfl
theorem wrap64' {n : Int} (h1 : -1000000000000000000 ≤ n) (h2 : n ≤ 1000000000000000000) : IntKind.wrap .i64 n = n := wrap64 (by omega) (by omega)
theorem old_push {σ : H} {k : Blk} : Old σ (σ.push k) := by have := Old.ap (σ := σ) (l := [k]); simpa [ap] using this
def digC (d : List Int) : List Value := d.map (.int .u8)
theorem digC_one {d : List Int} : (digC d).all Value.oneCell' = true := by simp [digC, Value.oneCell']
theorem sets_all : ∀ {l z : List Value} {o : Nat}, o + l.length ≤ z.length → sets z o l = z.take o ++ l ++ z.drop (o + l.length)
 |[], z, o, _ => by simp [sets]
 |v :: l, z, o, h => by
  have h' : o + 1 + l.length ≤ (z.set o v).length := by simp at h ⊢; omega
  rw [sets, sets_all h']
  have hlt : o < z.length := by simp at h; omega
  have e1 : (z.set o v).take (o + 1) = z.take o ++ [v] := by
   rw [List.take_succ_eq_append_getElem (by simpa using hlt)]
   rw [List.take_set_of_le (by omega)]
   simp
  have e2 : (z.set o v).drop (o + 1 + l.length) = z.drop (o + (v :: l).length) := by
   rw [List.drop_set_of_lt (by omega)]
   simp; congr 1; omega
  rw [e1, e2]
  simp
def Byt (b : List Int) : Prop := ∀ x ∈ b, 0 ≤ x ∧ x ≤ 255
set_option maxHeartbeats 4000000
attribute [local irreducible] evL sem onG onI onV
def orW (a b : Int) : Int := IntKind.wrap .u32 (BitVec.ofInt 32 a ||| BitVec.ofInt 32 b).toNat
def xorW (a b : Int) : Int := IntKind.wrap .u32 (BitVec.ofInt 32 a ^^^ BitVec.ofInt 32 b).toNat
def andW (a b : Int) : Int := IntKind.wrap .u32 (BitVec.ofInt 32 a &&& BitVec.ofInt 32 b).toNat
def addW (a b : Int) : Int := IntKind.wrap .u32 (a + b)
def shlW (a : Int) (n : Nat) : Int := IntKind.wrap .u32 (a * 2 ^ (min n 32))
def shrW (a : Int) (n : Nat) : Int := a.fdiv (2 ^ (min n 32))
def rotrF (x : Int) (n : Nat) : Int := orW (shrW x n) (shlW x (32 - n))
theorem or_W {a b : Int} : IntKind.wrap .u32 (BitVec.ofInt (IntKind.bits .u32) a ||| BitVec.ofInt (IntKind.bits .u32) b).toNat = orW a b := rfl
theorem xor_W {a b : Int} : IntKind.wrap .u32 (BitVec.ofInt (IntKind.bits .u32) a ^^^ BitVec.ofInt (IntKind.bits .u32) b).toNat = xorW a b := rfl
theorem and_W {a b : Int} : IntKind.wrap .u32 (BitVec.ofInt (IntKind.bits .u32) a &&& BitVec.ofInt (IntKind.bits .u32) b).toNat = andW a b := rfl
theorem add_W {a b : Int} : IntKind.wrap .u32 (a + b) = addW a b := rfl
theorem shl_W {a : Int} {n : Nat} : IntKind.wrap .u32 (a * 2 ^ (min n (IntKind.bits .u32))) = shlW a n := rfl
theorem shr_W {a : Int} {n : Nat} : a.fdiv (2 ^ (min n (IntKind.bits .u32))) = shrW a n := rfl
def u32C (l : List Int) : List Value := l.map (.int .u32)
theorem u32C_len {l : List Int} : (u32C l).length = l.length := by simp [u32C]
theorem u32C_get {l : List Int} {i : Nat} (h : i < l.length) : (u32C l)[i]? = some (.int .u32 (l.getD i 0)) := by simp [u32C, h]
theorem u32C_set {l : List Int} {i : Nat} {x : Int} : (u32C l).set i (.int .u32 x) = u32C (l.set i x) := by simp [u32C]
theorem u32C_one {l : List Int} : (u32C l).all Value.oneCell' = true := by simp [u32C, Value.oneCell']
theorem u32C_rep {n : Nat} : List.replicate n (Value.int .u32 0) = u32C (List.replicate n 0) := by simp [u32C]
theorem digC_get {l : List Int} {i : Nat} (h : i < l.length) : (digC l)[i]? = some (.int .u8 (l.getD i 0)) := by simp [digC, h]
theorem digC_length {l : List Int} : (digC l).length = l.length := by simp [digC]
theorem digC_set {l : List Int} {i : Nat} {x : Int} : (digC l).set i (.int .u8 x) = digC (l.set i x) := by simp [digC]
theorem digC_rep {n : Nat} : List.replicate n (Value.int .u8 0) = digC (List.replicate n 0) := by simp [digC]
theorem rotr_app {σ : H} {x : Int} {n : Nat} {m : Int} (hm : m = n) (hn : n ≤ 32) : App Tryd.prog (.func 88) #[] #[.int .u32 x, .int .i64 m] σ fun v σ' => σ' = σ ∧ v = .int .u32 (rotrF x n) := by
 subst hm
 refine App.of_sem mixed Tryd.func88 t88 k88 r88 (Nat.le_of_ble_eq_true rfl) ?_
 have h1 : ¬ (n : Int) < 0 := by omega
 have h2 : IntKind.wrap .i64 (32 - (n:Int)) = ((32 - n : Nat) : Int) := by rw [wrap64 (by omega) (by omega)]; omega
 have h3 : ¬ ((32 - n : Nat) : Int) < 0 := by omega
 unfold s88
 simp only [↓eD, eZ, ↓reduceIte, Nat.reduceEqDiff, Nat.reduceAdd, Nat.reduceMul, reduceCtorEq, Nat.reduceLeDiff, Int.reduceLT, Int.reduceLE, Int.reduceToNat, Int.reduceEq, Nat.reduceLT, h1, h2, h3, Int.toNat_natCast, or_W, shl_W, shr_W]
 rfl
def beW (b : List Int) (t : Nat) : Int :=
 orW (orW (orW (shlW (IntKind.wrap .u32 (b.getD (4 * t) 0)) 24) (shlW (IntKind.wrap .u32 (b.getD (4 * t + 1) 0)) 16)) (shlW (IntKind.wrap .u32 (b.getD (4 * t + 2) 0)) 8)) (IntKind.wrap .u32 (b.getD (4 * t + 3) 0))
def w1 (b : List Int) : Nat → List Int
 |0 => List.replicate 64 0
 |t + 1 => (w1 b t).set t (beW b t)
def stepW (w : List Int) (i : Nat) : Int :=
 addW (addW (addW (w.getD i 0) (xorW (xorW (rotrF (w.getD (i + 1) 0) 7) (rotrF (w.getD (i + 1) 0) 18)) (shrW (w.getD (i + 1) 0) 3))) (w.getD (i + 9) 0)) (xorW (xorW (rotrF (w.getD (i + 14) 0) 17) (rotrF (w.getD (i + 14) 0) 19)) (shrW (w.getD (i + 14) 0) 10))
def w2 (w : List Int) : Nat → List Int
 |0 => w
 |t + 1 => (w2 w t).set (t + 16) (stepW (w2 w t) t)
def wordsF (b : List Int) : List Int := w2 (w1 b 16) 48
theorem w1_len {b : List Int} : ∀ {t : Nat}, (w1 b t).length = 64
 |0 => by simp [w1]
 |t + 1 => by rw [w1, List.length_set]; exact w1_len
theorem w2_len {w : List Int} (h : w.length = 64) : ∀ {t : Nat}, (w2 w t).length = 64
 |0 => h
 |t + 1 => by rw [w2, List.length_set]; exact w2_len h
theorem wordsF_len {b : List Int} : (wordsF b).length = 64 := w2_len w1_len
theorem words_app {σ : H} {b : List Int} {sl : Value} (hr : Whl σ 1 sl 64 (digC b)) :
  App Tryd.prog (.func 87) #[] #[sl] σ fun v σ' => σ' = σ ∧ v = .agg (u32C (wordsF b)).toArray := by
 refine App.forget (App.of_sem mixed Tryd.func87 t87 k87 r87 (Nat.le_of_ble_eq_true rfl) ?_)
 have hb : b.length = 64 := by have := hr.1; simpa [digC] using this
 obtain ⟨base, cp, rfl⟩ := hr.slice
 obtain ⟨bk, off, rfl, hr0⟩ := hr.at (by omega)
 have hrd : ∀ l j, j < 64 → rd1 (ap σ l) ⟨bk, off + j, none⟩ = some (.int .u8 (b.getD j 0)) := fun l j hj => by
  exact rd1_row (rdN_old hr0) (digC_get (by omega))
 unfold s87
 have e0 : ap σ [] = σ := ap_nil
 rw [← e0]
 simp only [↓eD, eZ, ↓reduceIte, Nat.reduceEqDiff, Nat.reduceAdd, Nat.reduceMul, reduceCtorEq, Nat.reduceLeDiff, Int.reduceLT, Int.reduceLE, Int.reduceToNat, Int.reduceEq, Nat.reduceLT, u32C_rep]
 refine loop_for (J := fun i e τ => i ≤ 16 ∧ ∃ ver, τ = ap σ [.cells 0 (u32C (List.replicate 64 0)) (0, 0), .cells ver (u32C (w1 b i)) (0, 0)] ∧
  e = [(0, .slice (some ⟨bk, off, none⟩) 64 cp), (2, .pointer (some ⟨σ.size, 0, none⟩)), (3, .pointer (some ⟨σ.size + 1, 0, none⟩)), (4, .int .i64 i)]) 16 ⟨by omega, 0, rfl, rfl⟩ ?_
 rintro i e τ hi ⟨_, ver, rfl, rfl⟩
 simp only [↓eD, eZ, ↓reduceIte, Nat.reduceEqDiff, Nat.reduceAdd, Nat.reduceMul, reduceCtorEq, Nat.reduceLeDiff, Int.reduceLT, Int.reduceLE, Int.reduceToNat, Int.reduceEq, Nat.reduceLT]
 refine onI_dec (fun hlt => ?_) (fun hge => ?_)
 ·have hlt : i < 16 := by omega
  have m0 : IntKind.wrap .i64 (4 * (i:Int)) = ((4 * i : Nat) : Int) := by rw [wrap64 (by omega) (by omega)]; omega
  have m1 : IntKind.wrap .i64 (((4 * i : Nat) : Int) + 1) = ((4 * i + 1 : Nat) : Int) := by rw [wrap64 (by omega) (by omega)]; omega
  have m2 : IntKind.wrap .i64 (((4 * i : Nat) : Int) + 2) = ((4 * i + 2 : Nat) : Int) := by rw [wrap64 (by omega) (by omega)]; omega
  have m3 : IntKind.wrap .i64 (((4 * i : Nat) : Int) + 3) = ((4 * i + 3 : Nat) : Int) := by rw [wrap64 (by omega) (by omega)]; omega
  have hw : IntKind.wrap .i64 ((i:Int) + 1) = ((i + 1 : Nat) : Int) := by rw [wrap64 (by omega) (by omega)]; omega
  have n0 : 4 * i < 64 := by omega
  have n1 : 4 * i + 1 < 64 := by omega
  have n2 : 4 * i + 2 < 64 := by omega
  have n3 : 4 * i + 3 < 64 := by omega
  have n63 : i ≤ 63 := by omega
  have q0 : (0:Int) ≤ ((4 * i : Nat) : Int) ∧ ((4 * i : Nat) : Int) < ((64:Nat):Int) := by omega
  have q1 : (0:Int) ≤ ((4 * i + 1 : Nat) : Int) ∧ ((4 * i + 1 : Nat) : Int) < ((64:Nat):Int) := by omega
  have q2 : (0:Int) ≤ ((4 * i + 2 : Nat) : Int) ∧ ((4 * i + 2 : Nat) : Int) < ((64:Nat):Int) := by omega
  have q3 : (0:Int) ≤ ((4 * i + 3 : Nat) : Int) ∧ ((4 * i + 3 : Nat) : Int) < ((64:Nat):Int) := by omega
  have q : (0:Int) ≤ (i : Int) ∧ (i : Int) < ((64:Nat):Int) := by omega
  simp only [↓eD, eZ, ↓reduceIte, Nat.reduceEqDiff, Nat.reduceAdd, Nat.reduceMul, reduceCtorEq, Nat.reduceLeDiff, Int.reduceLT, Int.reduceLE, Int.reduceToNat, Int.reduceEq, Nat.reduceLT, m0, m1, m2, m3, q0, q1, q2, q3, q, hrd, n0, n1, n2, n3, n63, Int.toNat_natCast, or_W, shl_W, hw, w1_len, u32C_len, u32C_set, Nat.mul_one]
  exact ⟨hlt, by omega, _, rfl⟩
 ·have : i = 16 := by omega
  subst this
  simp only [↓eD, eZ, ↓reduceIte, Nat.reduceEqDiff, Nat.reduceAdd, Nat.reduceMul, reduceCtorEq, Nat.reduceLeDiff, Int.reduceLT, Int.reduceLE, Int.reduceToNat, Int.reduceEq, Nat.reduceLT]
  have hl0 : (w1 b 16).length = 64 := w1_len
  refine loop_for (J := fun i e τ => i ≤ 48 ∧ ∃ ver, τ = ap σ [.cells 0 (u32C (List.replicate 64 0)) (0, 0), .cells ver (u32C (w2 (w1 b 16) i)) (0, 0)] ∧
   e = [(2, .pointer (some ⟨σ.size, 0, none⟩)), (3, .pointer (some ⟨σ.size + 1, 0, none⟩)), (5, .int .i64 (i + 16 : Nat))]) 48 ⟨by omega, ver, rfl, rfl⟩ ?_
  rintro i e τ hi ⟨_, ver, rfl, rfl⟩
  simp only [↓eD, eZ, ↓reduceIte, Nat.reduceEqDiff, Nat.reduceAdd, Nat.reduceMul, reduceCtorEq, Nat.reduceLeDiff, Int.reduceLT, Int.reduceLE, Int.reduceToNat, Int.reduceEq, Nat.reduceLT]
  refine onI_dec (fun hlt => ?_) (fun hge => ?_)
  ·have hlt : i < 48 := by omega
   have m15 : IntKind.wrap .i64 (((i + 16 : Nat) : Int) - 15) = ((i + 1 : Nat) : Int) := by rw [wrap64 (by omega) (by omega)]; omega
   have m2 : IntKind.wrap .i64 (((i + 16 : Nat) : Int) - 2) = ((i + 14 : Nat) : Int) := by rw [wrap64 (by omega) (by omega)]; omega
   have m16 : IntKind.wrap .i64 (((i + 16 : Nat) : Int) - 16) = (i : Int) := by rw [wrap64 (by omega) (by omega)]; omega
   have m7 : IntKind.wrap .i64 (((i + 16 : Nat) : Int) - 7) = ((i + 9 : Nat) : Int) := by rw [wrap64 (by omega) (by omega)]; omega
   have hw : IntKind.wrap .i64 (((i + 16 : Nat) : Int) + 1) = ((i + 1 + 16 : Nat) : Int) := by rw [wrap64 (by omega) (by omega)]; omega
   have q15 : (0:Int) ≤ ((i + 1 : Nat) : Int) ∧ ((i + 1 : Nat) : Int) < ((64:Nat):Int) := by omega
   have q2 : (0:Int) ≤ ((i + 14 : Nat) : Int) ∧ ((i + 14 : Nat) : Int) < ((64:Nat):Int) := by omega
   have q16 : (0:Int) ≤ (i : Int) ∧ (i : Int) < ((64:Nat):Int) := by omega
   have q7 : (0:Int) ≤ ((i + 9 : Nat) : Int) ∧ ((i + 9 : Nat) : Int) < ((64:Nat):Int) := by omega
   have q0 : (0:Int) ≤ ((i + 16 : Nat) : Int) ∧ ((i + 16 : Nat) : Int) < ((64:Nat):Int) := by omega
   have hl : (w2 (w1 b 16) i).length = 64 := w2_len hl0
   have n0 : i + 16 + 1 ≤ 64 := by omega
   generalize hW : w2 (w1 b 16) i = W at hl
   have g1 : (u32C W)[i + 1]? = some (.int .u32 (W.getD (i + 1) 0)) := u32C_get (by omega)
   have g14 : (u32C W)[i + 14]? = some (.int .u32 (W.getD (i + 14) 0)) := u32C_get (by omega)
   have g0 : (u32C W)[i]? = some (.int .u32 (W.getD i 0)) := u32C_get (by omega)
   have g9 : (u32C W)[i + 9]? = some (.int .u32 (W.getD (i + 9) 0)) := u32C_get (by omega)
   simp only [↓eD, eZ, ↓reduceIte, Nat.reduceEqDiff, Nat.reduceAdd, Nat.reduceMul, reduceCtorEq, Nat.reduceLeDiff, Int.reduceLT, Int.reduceLE, Int.reduceToNat, Int.reduceEq, Nat.reduceLT, m15, m2, m16, m7, q15, q2, q16, q7, Int.toNat_natCast, g1, g14, g0, g9, shr_W]
   refine appK_at (rotr_app (n := 7) rfl (by omega)) ?_
   simp only [↓eD, eZ, ↓reduceIte, Nat.reduceEqDiff, Nat.reduceAdd, Nat.reduceMul, reduceCtorEq, Nat.reduceLeDiff, Int.reduceLT, Int.reduceLE, Int.reduceToNat, Int.reduceEq, Nat.reduceLT, m15, m2, m16, m7, q15, q2, q16, q7, Int.toNat_natCast, g1, g14, g0, g9, shr_W]
   refine appK_at (rotr_app (n := 18) rfl (by omega)) ?_
   simp only [↓eD, eZ, ↓reduceIte, Nat.reduceEqDiff, Nat.reduceAdd, Nat.reduceMul, reduceCtorEq, Nat.reduceLeDiff, Int.reduceLT, Int.reduceLE, Int.reduceToNat, Int.reduceEq, Nat.reduceLT, m15, m2, m16, m7, q15, q2, q16, q7, Int.toNat_natCast, g1, g14, g0, g9, shr_W, xor_W]
   refine appK_at (rotr_app (n := 17) rfl (by omega)) ?_
   simp only [↓eD, eZ, ↓reduceIte, Nat.reduceEqDiff, Nat.reduceAdd, Nat.reduceMul, reduceCtorEq, Nat.reduceLeDiff, Int.reduceLT, Int.reduceLE, Int.reduceToNat, Int.reduceEq, Nat.reduceLT, m15, m2, m16, m7, q15, q2, q16, q7, Int.toNat_natCast, g1, g14, g0, g9, shr_W, xor_W]
   refine appK_at (rotr_app (n := 19) rfl (by omega)) ?_
   simp only [↓eD, eZ, ↓reduceIte, Nat.reduceEqDiff, Nat.reduceAdd, Nat.reduceMul, reduceCtorEq, Nat.reduceLeDiff, Int.reduceLT, Int.reduceLE, Int.reduceToNat, Int.reduceEq, Nat.reduceLT, m15, m2, m16, m7, q15, q2, q16, q7, q0, Int.toNat_natCast, g1, g14, g0, g9, shr_W, xor_W, add_W, u32C_len, hl, n0, u32C_set, hw]
   refine ⟨hlt, by omega, ver + 1, ?_⟩
   rw [w2, hW]
   rfl
  ·have : i = 48 := by omega
   subst this
   have hl : (w2 (w1 b 16) 48).length = 64 := w2_len hl0
   have tk : (u32C (w2 (w1 b 16) 48)).take 64 = u32C (w2 (w1 b 16) 48) := List.take_of_length_le (by rw [u32C_len, hl]; omega)
   have st : sets (u32C (List.replicate 64 0)) 0 (u32C (w2 (w1 b 16) 48)) = u32C (w2 (w1 b 16) 48) := by
    rw [sets_all (by simp [u32C_len, hl]), u32C_len, hl]; simp [u32C]
   have ne : (u32C (w2 (w1 b 16) 48) = []) = False := by
    have : (u32C (w2 (w1 b 16) 48)).length = 64 := by rw [u32C_len, hl]
    simp only [eq_iff_iff, iff_false]; intro h; rw [h] at this; simp at this
   simp only [↓eD, eZ, ↓reduceIte, Nat.reduceEqDiff, Nat.reduceAdd, Nat.reduceMul, reduceCtorEq, Nat.reduceLeDiff, Int.reduceLT, Int.reduceLE, Int.reduceToNat, Int.reduceEq, Nat.reduceLT, u32C_len, hl, tk, st, ne, u32C_one, List.length_replicate]
   refine ⟨.ap, ?_, rfl⟩
   simp [flat, u32C, flat.flat1]
theorem digC_app {a b : List Int} : digC (a ++ b) = digC a ++ digC b := by simp [digC]
theorem append_bytes {σ0 σ : H} {v xa : Value} {o new : List Int} (hg : Grown σ0 σ 1 v (digC o) o.length) (h0 : σ0.size ≤ σ.size) (hx : xcells σ 1 xa = some (new.length, digC new)) (hb : o.length + new.length ≤ 140737488355328) :
  ∃ v' σ', append 1 1 v xa σ = some (v', σ') ∧ Ap σ0 σ σ' 1 v v' (digC (o ++ new)) (o ++ new).length := by
 obtain ⟨v', σ', h1, h2⟩ := append_grown hg (by omega) h0 hx (by simp [digC]) digC_one (bytes := 1) (by omega) (by omega)
 refine ⟨v', σ', h1, ?_⟩
 rw [digC_app, List.length_append]
 exact h2
theorem x_one {τ : H} {L : List Blk} {x : Int} {j : Nat} (h : L[j]? = some (.cells 0 [.int .u8 x] (0, 0))) : xcells (ap τ L) 1 (.slice (some ⟨τ.size + j, 0, none⟩) 1 1) = some ([x].length, digC [x]) := by
 simp [xcells, rdN_ap, h, rdcN, digC]
def varF : Nat → Int → List Int
 |0, _ => []
 |f + 1, z => if 128 ≤ z then IntKind.wrap .u8 (IntKind.wrap .u8 (z.tmod 128) + 128) :: varF f (IntKind.wrap .u64 (z.tdiv 128)) else [IntKind.wrap .u8 z]
def zF (n : Int) : Int := if n < 0 then IntKind.wrap .u64 (IntKind.wrap .u64 (IntKind.wrap .u64 (IntKind.wrap .i64 (-1 - n)) * 2) + 1) else IntKind.wrap .u64 (IntKind.wrap .u64 n * 2)
def intF (n : Int) : List Int := varF 10 (zF n)
theorem varF_len : ∀ {f : Nat} {z : Int}, (varF f z).length ≤ f
 |0, _ => by simp [varF]
 |f + 1, z => by
  rw [varF]
  split
  ·have := varF_len (f := f) (z := IntKind.wrap .u64 (z.tdiv 128))
   simp; omega
  ·simp
theorem intF_len {n : Int} : (intF n).length ≤ 10 := varF_len
theorem wrapU64_range {x : Int} : 0 ≤ IntKind.wrap .u64 x ∧ IntKind.wrap .u64 x < 18446744073709551616 := by
 simp only [IntKind.wrap, IntKind.signed, IntKind.bits]
 simp
 omega
theorem wrapU64 {x : Int} (h1 : 0 ≤ x) (h2 : x < 18446744073709551616) : IntKind.wrap .u64 x = x := by
 simp only [IntKind.wrap, IntKind.signed, IntKind.bits]
 simp
 omega
theorem zF_range {n : Int} : 0 ≤ zF n ∧ zF n < 18446744073709551616 := by
 unfold zF
 split <;> exact wrapU64_range
theorem int_app {σ : H} {n : Int} : App Tryd.prog (.func 89) #[] #[.int .i64 n] σ fun v σ' => Old σ σ' ∧ Grown σ σ' 1 v (digC (intF n)) (intF n).length := by
 refine App.of_sem mixed Tryd.func89 t89 k89 r89 (Nat.le_of_ble_eq_true rfl) ?_
 unfold s89
 have e0 : ap σ [] = σ := ap_nil
 rw [← e0]
 by_cases hn : n < 0
 all_goals
  simp only [↓eD, eZ, ↓reduceIte, Nat.reduceEqDiff, Nat.reduceAdd, Nat.reduceMul, reduceCtorEq, Nat.reduceLeDiff, Int.reduceLT, Int.reduceLE, Int.reduceToNat, Int.reduceEq, Nat.reduceLT, hn]
  first
  |rw [show IntKind.wrap .u64 (IntKind.wrap .u64 (IntKind.wrap .u64 (IntKind.wrap .i64 (-1 - n)) * 2) + 1) = zF n by rw [zF, if_pos hn]]
  |rw [show IntKind.wrap .u64 (IntKind.wrap .u64 n * 2) = zF n by rw [zF, if_neg hn]]
  refine loop_of (fun m e τ => ∃ z o v, e = [(3, .int .u64 z), (4, v)] ∧ Old σ τ ∧ 0 ≤ z ∧ z < 128 ^ m ∧ z < 18446744073709551616 ∧ 1 ≤ m ∧ o.length + m = 10 ∧ o ++ varF m z = intF n ∧ Grown σ τ 1 v (digC o) o.length) 10
   ⟨zF n, [], _, rfl, .ap, zF_range.1, Int.lt_trans zF_range.2 (by decide), zF_range.2, by omega, rfl, rfl, .nil⟩ ?_
  rintro m e τ ⟨z, o, v, rfl, ho, z0, zm, z64, hm, hlen, hF, hg⟩
  have e1 : ap τ [] = τ := ap_nil
  obtain ⟨m, rfl⟩ : ∃ m', m = m' + 1 := ⟨m - 1, by omega⟩
  rw [← e1]
  simp only [↓eD, eZ, ↓reduceIte, Nat.reduceEqDiff, Nat.reduceAdd, Nat.reduceMul, reduceCtorEq, Nat.reduceLeDiff, Int.reduceLT, Int.reduceLE, Int.reduceToNat, Int.reduceEq, Nat.reduceLT]
  refine onI_dec (fun hlt => ?_) (fun hge => ?_)
  ·simp only [↓eD, eZ, ↓reduceIte, Nat.reduceEqDiff, Nat.reduceAdd, Nat.reduceMul, reduceCtorEq, Nat.reduceLeDiff, Int.reduceLT, Int.reduceLE, Int.reduceToNat, Int.reduceEq, Nat.reduceLT]
   obtain ⟨v', τ', ha, hA⟩ := append_bytes (σ := ap τ [.cells 0 [.int .u8 (IntKind.wrap .u8 (IntKind.wrap .u8 (z.tmod 128) + 128))] (0, 0)]) (hg.old .ap) (Nat.le_trans ho.1 (Old.ap (l := _)).1) (x_one (j := 0) rfl) (by simp; omega)
   refine onV_of ha ?_
   simp only [↓eD, eZ, ↓reduceIte, Nat.reduceEqDiff, Nat.reduceAdd, Nat.reduceMul, reduceCtorEq, Nat.reduceLeDiff, Int.reduceLT, Int.reduceLE, Int.reduceToNat, Int.reduceEq, Nat.reduceLT]
   have hq : z.tdiv 128 = z / 128 := Int.tdiv_eq_ediv_of_nonneg z0
   have hq2 : IntKind.wrap .u64 (z.tdiv 128) = z / 128 := by rw [hq]; exact wrapU64 (by omega) (by omega)
   have hm1 : 1 ≤ m := by
    rcases Nat.eq_zero_or_pos m with h | h
    ·subst h; simp at zm; omega
    ·exact h
   rw [Int.pow_succ] at zm
   refine ⟨m, by omega, z / 128, o ++ [IntKind.wrap .u8 (IntKind.wrap .u8 (z.tmod 128) + 128)], v', by rw [hq2], hA.Old (hg.old .ap) (ho.trans .ap), by omega, by omega, by omega, hm1, by simp; omega, ?_, hA.grown⟩
   rw [← hF, varF, if_pos hlt, hq2, List.append_assoc]
   rfl
  ·simp only [↓eD, eZ, ↓reduceIte, Nat.reduceEqDiff, Nat.reduceAdd, Nat.reduceMul, reduceCtorEq, Nat.reduceLeDiff, Int.reduceLT, Int.reduceLE, Int.reduceToNat, Int.reduceEq, Nat.reduceLT]
   obtain ⟨v', τ', ha, hA⟩ := append_bytes (σ := ap τ [.cells 0 [.int .u8 (IntKind.wrap .u8 z)] (0, 0)]) (hg.old .ap) (Nat.le_trans ho.1 (Old.ap (l := _)).1) (x_one (j := 0) rfl) (by simp; omega)
   refine onV_of ha ?_
   simp only [↓eD, eZ, ↓reduceIte, Nat.reduceEqDiff, Nat.reduceAdd, Nat.reduceMul, reduceCtorEq, Nat.reduceLeDiff, Int.reduceLT, Int.reduceLE, Int.reduceToNat, Int.reduceEq, Nat.reduceLT]
   rw [varF, if_neg hge] at hF
   exact ⟨hA.Old (hg.old .ap) (ho.trans .ap), hF ▸ hA.grown⟩
theorem flat_take {α β : Type} {f : α → List β} {l : List α} {i : Nat} (h : i < l.length) : (l.take (i + 1)).flatMap f = (l.take i).flatMap f ++ f l[i] := by
 rw [List.take_succ_eq_append_getElem h, List.flatMap_append]; simp
def strI (s : ByteArray) : List Int := s.data.toList.map fun b => (b.toNat : Int)
theorem strI_len {s : ByteArray} : (strI s).length = s.size := by simp [strI]
theorem byteCells_eq {s : ByteArray} : byteCells s = digC (strI s) := by simp [byteCells, digC, strI, Function.comp_def]
def bytesF (s : ByteArray) : List Int := intF s.size ++ strI s
theorem bytes_app {σ : H} {s : ByteArray} (hs : s.size < 100000000000000) : App Tryd.prog (.func 79) #[] #[.string s] σ fun v σ' => Old σ σ' ∧ Grown σ σ' 1 v (digC (bytesF s)) (bytesF s).length := by
 refine App.of_sem mixed Tryd.func79 t79 k79 r79 (Nat.le_of_ble_eq_true rfl) ?_
 unfold s79
 have e0 : ap σ [] = σ := ap_nil
 rw [← e0]
 simp only [↓eD, eZ, ↓reduceIte, Nat.reduceEqDiff, Nat.reduceAdd, Nat.reduceMul, reduceCtorEq, Nat.reduceLeDiff, Int.reduceLT, Int.reduceLE, Int.reduceToNat, Int.reduceEq, Nat.reduceLT]
 refine appK_of int_app ?_
 rintro v σ1 ⟨ho1, hg1⟩
 simp only [↓eD, eZ, ↓reduceIte, Nat.reduceEqDiff, Nat.reduceAdd, Nat.reduceMul, reduceCtorEq, Nat.reduceLeDiff, Int.reduceLT, Int.reduceLE, Int.reduceToNat, Int.reduceEq, Nat.reduceLT]
 have hlen2 : (intF s.size).length ≤ 10 := intF_len
 have hgg := hg1.from (σ0 := σ) (by simp [ap_size])
 have hoo : Old σ σ1 := Old.ap.trans ho1
 obtain ⟨v', τ', ha, hA⟩ := append_bytes (σ := σ1) (xa := .string s) (new := strI s) hgg hoo.1 (by simp [xcells, byteCells_eq, strI_len]) (by rw [strI_len]; omega)
 refine onV_of ha ?_
 simp only [↓eD, eZ, ↓reduceIte, Nat.reduceEqDiff, Nat.reduceAdd, Nat.reduceMul, reduceCtorEq, Nat.reduceLeDiff, Int.reduceLT, Int.reduceLE, Int.reduceToNat, Int.reduceEq, Nat.reduceLT]
 have := hA.Old hgg hoo
 exact ⟨this, hA.grown.from (by simp [ap_size])⟩
def partsF (l : List ByteArray) : List Int := l.flatMap bytesF
def inputF (tag : Int) (l : List ByteArray) : List Int := IntKind.wrap .u8 tag :: partsF l
theorem input_app {σ : H} {sl : Value} {l : List ByteArray} {tag : Int} (hr : Whl σ 1 sl l.length (l.map .string)) (hl : l.length < 100) (hs : ∀ s ∈ l, s.size < 100000000000) :
  App Tryd.prog (.func 66) #[] #[.int .i64 tag, sl] σ fun v σ' => Old σ σ' ∧ Grown σ σ' 1 v (digC (inputF tag l)) (inputF tag l).length := by
 refine App.of_sem mixed Tryd.func66 t66 k66 r66 (Nat.le_of_ble_eq_true rfl) ?_
 obtain ⟨base, cp, rfl⟩ := hr.slice
 unfold s66
 have e0 : ap σ [] = σ := ap_nil
 rw [← e0]
 simp only [↓eD, eZ, ↓reduceIte, Nat.reduceEqDiff, Nat.reduceAdd, Nat.reduceMul, reduceCtorEq, Nat.reduceLeDiff, Int.reduceLT, Int.reduceLE, Int.reduceToNat, Int.reduceEq, Nat.reduceLT]
 refine loop_for (J := fun i e τ => i ≤ l.length ∧ ∃ v, e = [(1, .slice base l.length cp), (5, v), (6, .int .i64 i)] ∧ Old σ τ ∧ ((l.take i).flatMap bytesF).length ≤ i * 100000000010 ∧ Grown σ τ 1 v (digC (inputF tag (l.take i))) (inputF tag (l.take i)).length) l.length
  ⟨by omega, _, rfl, .ap, by simp, Grown.lit (ver := 0) (by simp [inputF, partsF, digC]) (by decide) (Nat.le_refl _) (by rw [ap_new0]; rfl)⟩ ?_
 rintro i e τ hi ⟨_, v, rfl, ho, hlen, hg⟩
 have e1 : ap τ [] = τ := ap_nil
 rw [← e1]
 simp only [↓eD, eZ, ↓reduceIte, Nat.reduceEqDiff, Nat.reduceAdd, Nat.reduceMul, reduceCtorEq, Nat.reduceLeDiff, Int.reduceLT, Int.reduceLE, Int.reduceToNat, Int.reduceEq, Nat.reduceLT]
 refine onI_dec (fun hlt => ?_) (fun hge => ?_)
 ·have hlt : i < l.length := by omega
  obtain ⟨b, off, rfl, h1⟩ := hr.at (by omega)
  have hrd : ∀ L, rd1 (ap τ L) ⟨b, off + i, none⟩ = some (.string l[i]) := fun L => rd1_Old (ho.trans .ap) (rd1_row h1 (by simp [hlt]))
  have hb : (0:Int) ≤ (i:Int) ∧ (i:Int) < (l.length : Int) := by omega
  have hw : IntKind.wrap .i64 ((i:Int) + 1) = ((i + 1 : Nat) : Int) := by rw [wrap64 (by omega) (by omega)]; omega
  have hsi := hs l[i] (by simp)
  simp only [↓eD, eZ, ↓reduceIte, Nat.reduceEqDiff, Nat.reduceAdd, Nat.reduceMul, reduceCtorEq, Nat.reduceLeDiff, Int.reduceLT, Int.reduceLE, Int.reduceToNat, Int.reduceEq, Nat.reduceLT, hb, Int.toNat_natCast, hrd]
  refine appK_of (bytes_app (by omega)) ?_
  rintro w τ2 ⟨ho2, hg2⟩
  simp only [↓eD, eZ, ↓reduceIte, Nat.reduceEqDiff, Nat.reduceAdd, Nat.reduceMul, reduceCtorEq, Nat.reduceLeDiff, Int.reduceLT, Int.reduceLE, Int.reduceToNat, Int.reduceEq, Nat.reduceLT]
  have hlen3 : (bytesF l[i]).length ≤ 100000000010 := by
   have : (intF l[i].size).length ≤ 10 := intF_len
   rw [bytesF, List.length_append, strI_len]; omega
  have hoo : Old σ τ2 := (ho.trans .ap).trans ho2
  have hgg := (hg.old (Old.ap (l := []))).old ho2
  obtain ⟨v', τ', ha, hA⟩ := append_bytes (new := bytesF l[i]) hgg hoo.1 hg2.whl.x (by simp only [inputF, partsF, List.length_cons]; omega)
  refine onV_of ha ?_
  simp only [↓eD, eZ, ↓reduceIte, Nat.reduceEqDiff, Nat.reduceAdd, Nat.reduceMul, reduceCtorEq, Nat.reduceLeDiff, Int.reduceLT, Int.reduceLE, Int.reduceToNat, Int.reduceEq, Nat.reduceLT, hw]
  refine ⟨hlt, by omega, v', rfl, hA.Old hgg hoo, by rw [flat_take hlt, List.length_append]; omega, ?_⟩
  have : inputF tag (l.take (i + 1)) = inputF tag (l.take i) ++ bytesF l[i] := by
   rw [inputF, inputF, partsF, partsF, flat_take hlt]; rfl
  rw [this]
  exact hA.grown
 ·have : i = l.length := by omega
  subst this
  simp only [↓eD, eZ, ↓reduceIte, Nat.reduceEqDiff, Nat.reduceAdd, Nat.reduceMul, reduceCtorEq, Nat.reduceLeDiff, Int.reduceLT, Int.reduceLE, Int.reduceToNat, Int.reduceEq, Nat.reduceLT]
  rw [List.take_length] at hg
  exact ⟨ho.trans .ap, hg.old .ap⟩
def bytesS (d : List Int) : ByteArray := ⟨(d.map fun x => UInt8.ofNat x.toNat).toArray⟩
theorem bytesOf_dig : ∀ {d : List Int}, bytesOf (digC d) = some (d.map fun x => UInt8.ofNat x.toNat)
 |[] => rfl
 |x :: d => by
  have := bytesOf_dig (d := d)
  unfold digC at this ⊢
  simp [bytesOf, this]
def be8 (n : Int) : List Int := (List.range 8).map fun i => IntKind.wrap .u8 (n.fdiv (2 ^ (min (56 - 8 * i) 64)))
def padN (n : Nat) : Nat := (119 - n % 64) % 64
def paddedF (b : List Int) : List Int := b ++ [128] ++ List.replicate (padN b.length) 0 ++ be8 (IntKind.wrap .u64 (8 * IntKind.wrap .u64 b.length))
theorem padded_len {b : List Int} : (paddedF b).length = b.length + 9 + padN b.length := by simp [paddedF, be8]; omega
theorem padded_64 {b : List Int} : (paddedF b).length % 64 = 0 := by rw [padded_len, padN]; omega
theorem padded_app {σ : H} {sl : Value} {b : List Int} (hr : Whl σ 1 sl b.length (digC b)) (hl : b.length < 100000000000000) :
  App Tryd.prog (.func 86) #[] #[sl] σ fun v σ' => Old σ σ' ∧ Grown σ σ' 1 v (digC (paddedF b)) (paddedF b).length := by
 refine App.of_sem mixed Tryd.func86 t86 k86 r86 (Nat.le_of_ble_eq_true rfl) ?_
 obtain ⟨base, cp, rfl⟩ := hr.slice
 unfold s86
 have e0 : ap σ [] = σ := ap_nil
 rw [← e0]
 simp only [↓eD, eZ, ↓reduceIte, Nat.reduceEqDiff, Nat.reduceAdd, Nat.reduceMul, reduceCtorEq, Nat.reduceLeDiff, Int.reduceLT, Int.reduceLE, Int.reduceToNat, Int.reduceEq, Nat.reduceLT]
 obtain ⟨v1, τ1, ha1, hA1⟩ := append_bytes (σ0 := σ) (σ := ap σ [.cells 0 [] (0, 0)]) (v := .slice (some ⟨σ.size, 0, none⟩) 0 0) (o := []) (new := b) (Grown.lit (ver := 0) rfl (by decide) (Nat.le_refl _) (by rw [ap_new0]; rfl)) Old.ap.1 (hr.Old .ap).x (by simp; omega)
 have ho1 := hA1.Old (Grown.lit (ver := 0) rfl (by decide) (Nat.le_refl _) (by rw [ap_new0]; rfl)) .ap
 refine onV_of ha1 ?_
 have e1 : ap τ1 [] = τ1 := ap_nil
 rw [← e1]
 simp only [↓eD, eZ, ↓reduceIte, Nat.reduceEqDiff, Nat.reduceAdd, Nat.reduceMul, reduceCtorEq, Nat.reduceLeDiff, Int.reduceLT, Int.reduceLE, Int.reduceToNat, Int.reduceEq, Nat.reduceLT]
 obtain ⟨v2, τ2, ha2, hA2⟩ := append_bytes (σ := ap τ1 [.cells 0 [.int .u8 128] (0, 0)]) (hA1.grown.old .ap) (Nat.le_trans ho1.1 (Old.ap (l := _)).1) (x_one (j := 0) rfl) (by simp; omega)
 refine onV_of ha2 ?_
 have ho2 := hA2.Old (hA1.grown.old .ap) (ho1.trans .ap)
 simp only [↓eD, eZ, ↓reduceIte, Nat.reduceEqDiff, Nat.reduceAdd, Nat.reduceMul, reduceCtorEq, Nat.reduceLeDiff, Int.reduceLT, Int.reduceLE, Int.reduceToNat, Int.reduceEq, Nat.reduceLT]
 refine loop_for (J := fun i e τ => i ≤ padN b.length ∧ ∃ v, e = [(0, .slice base b.length cp), (3, v)] ∧ Old σ τ ∧ Grown σ τ 1 v (digC (b ++ [128] ++ List.replicate i 0)) (b ++ [128] ++ List.replicate i 0).length) (padN b.length)
  ⟨by omega, _, rfl, ho2, by simpa using hA2.grown⟩ ?_
 clear ha1 hA1 ho1 e1 ha2 hA2 ho2
 rintro i e τ hi ⟨_, v, rfl, ho, hg⟩
 have e1 : ap τ [] = τ := ap_nil
 rw [← e1]
 obtain ⟨bs, cc, rfl⟩ := hg.slice
 have hlen : (b ++ [128] ++ List.replicate i (0:Int)).length = b.length + 1 + i := by simp; omega
 have hpn : padN b.length < 64 := by unfold padN; omega
 have ht : (((b.length + 1 + i : Nat) : Int).tmod 64) = (((b.length + 1 + i) % 64 : Nat) : Int) := by
  rw [Int.tmod_eq_emod_of_nonneg (by omega)]; omega
 simp only [↓eD, eZ, ↓reduceIte, Nat.reduceEqDiff, Nat.reduceAdd, Nat.reduceMul, reduceCtorEq, Nat.reduceLeDiff, Int.reduceLT, Int.reduceLE, Int.reduceToNat, Int.reduceEq, Nat.reduceLT, hlen, ht]
 by_cases h56 : (b.length + 1 + i) % 64 = 56
 ·have hi2 : i = padN b.length := by unfold padN at hi ⊢; omega
  have hd : decide ((((b.length + 1 + i) % 64 : Nat) : Int) = 56) = true := by rw [h56]; rfl
  simp only [↓eD, eZ, ↓reduceIte, Nat.reduceEqDiff, Nat.reduceAdd, Nat.reduceMul, reduceCtorEq, Nat.reduceLeDiff, Int.reduceLT, Int.reduceLE, Int.reduceToNat, Int.reduceEq, Nat.reduceLT, hd]
  have hlw : IntKind.wrap .i64 (b.length : Int) = b.length := wrap64 (by omega) (by omega)
  rw [hi2] at hg
  have hgl := hg.slice
  refine loop_for (J := fun i e τ => i ≤ 8 ∧ ∃ v, e = [(3, v), (4, .int .u64 (IntKind.wrap .u64 (8 * IntKind.wrap .u64 b.length))), (5, .int .i64 i)] ∧ Old σ τ ∧ Grown σ τ 1 v (digC (b ++ [128] ++ List.replicate (padN b.length) 0 ++ (be8 (IntKind.wrap .u64 (8 * IntKind.wrap .u64 b.length))).take i)) (b ++ [128] ++ List.replicate (padN b.length) 0 ++ (be8 (IntKind.wrap .u64 (8 * IntKind.wrap .u64 b.length))).take i).length) 8
   ⟨by omega, _, rfl, ho.trans .ap, ?_⟩ ?_
  ·have := hg.old (Old.ap (l := []))
   subst hi2
   simpa using this
  ·clear hg hgl
   rintro i e τ hi ⟨_, v, rfl, ho, hg⟩
   have e1 : ap τ [] = τ := ap_nil
   rw [← e1]
   simp only [↓eD, eZ, ↓reduceIte, Nat.reduceEqDiff, Nat.reduceAdd, Nat.reduceMul, reduceCtorEq, Nat.reduceLeDiff, Int.reduceLT, Int.reduceLE, Int.reduceToNat, Int.reduceEq, Nat.reduceLT]
   refine onI_dec (fun hlt => ?_) (fun hge => ?_)
   ·have hlt : i < 8 := by omega
    have q1 : IntKind.wrap .i64 (8 * (i:Int)) = ((8 * i : Nat) : Int) := by rw [wrap64 (by omega) (by omega)]; omega
    have q2 : IntKind.wrap .i64 (56 - ((8 * i : Nat) : Int)) = ((56 - 8 * i : Nat) : Int) := by rw [wrap64 (by omega) (by omega)]; omega
    have q3 : ¬ ((56 - 8 * i : Nat) : Int) < 0 := by omega
    have hw : IntKind.wrap .i64 ((i:Int) + 1) = ((i + 1 : Nat) : Int) := by rw [wrap64 (by omega) (by omega)]; omega
    simp only [↓eD, eZ, ↓reduceIte, Nat.reduceEqDiff, Nat.reduceAdd, Nat.reduceMul, reduceCtorEq, Nat.reduceLeDiff, Int.reduceLT, Int.reduceLE, Int.reduceToNat, Int.reduceEq, Nat.reduceLT, q1, q2, q3, Int.toNat_natCast]
    have hbl : (be8 (IntKind.wrap .u64 (8 * IntKind.wrap .u64 b.length))).length = 8 := by simp [be8]
    have hbe : (be8 (IntKind.wrap .u64 (8 * IntKind.wrap .u64 b.length)))[i]? = some (IntKind.wrap .u8 ((IntKind.wrap .u64 (8 * IntKind.wrap .u64 b.length)).fdiv (2 ^ (min (56 - 8 * i) (IntKind.bits .u64))))) := by
     simp [be8, hlt, IntKind.bits]
    obtain ⟨v', τ', ha, hA⟩ := append_bytes (σ := ap τ [.cells 0 [.int .u8 (IntKind.wrap .u8 ((IntKind.wrap .u64 (8 * IntKind.wrap .u64 b.length)).fdiv (2 ^ (min (56 - 8 * i) (IntKind.bits .u64)))))] (0, 0)]) (hg.old .ap) (Nat.le_trans ho.1 (Old.ap (l := _)).1) (x_one (j := 0) rfl) (by simp; omega)
    refine onV_of ha ?_
    simp only [↓eD, eZ, ↓reduceIte, Nat.reduceEqDiff, Nat.reduceAdd, Nat.reduceMul, reduceCtorEq, Nat.reduceLeDiff, Int.reduceLT, Int.reduceLE, Int.reduceToNat, Int.reduceEq, Nat.reduceLT, hw]
    refine ⟨hlt, by omega, v', rfl, hA.Old (hg.old .ap) (ho.trans .ap), ?_⟩
    have := @List.take_add_one _ (be8 (IntKind.wrap .u64 (8 * IntKind.wrap .u64 b.length))) i
    rw [hbe] at this
    rw [this, ← List.append_assoc]
    exact hA.grown
   ·have : i = 8 := by omega
    subst this
    rw [List.take_of_length_le (by simp [be8])] at hg
    simp only [↓eD, eZ, ↓reduceIte, Nat.reduceEqDiff, Nat.reduceAdd, Nat.reduceMul, reduceCtorEq, Nat.reduceLeDiff, Int.reduceLT, Int.reduceLE, Int.reduceToNat, Int.reduceEq, Nat.reduceLT]
    exact ⟨ho.trans .ap, hg.old .ap⟩
 ·have hd : decide ((((b.length + 1 + i) % 64 : Nat) : Int) = 56) = false := by simp; omega
  simp only [↓eD, eZ, ↓reduceIte, Nat.reduceEqDiff, Nat.reduceAdd, Nat.reduceMul, reduceCtorEq, Nat.reduceLeDiff, Int.reduceLT, Int.reduceLE, Int.reduceToNat, Int.reduceEq, Nat.reduceLT, hd]
  have hi2 : i < padN b.length := by unfold padN at hi ⊢; omega
  rw [← hlen]
  obtain ⟨v', τ', ha, hA⟩ := append_bytes (σ := ap τ [.cells 0 [.int .u8 0] (0, 0)]) (hg.old .ap) (Nat.le_trans ho.1 (Old.ap (l := _)).1) (x_one (j := 0) rfl) (by simp; omega)
  refine onV_of ha ?_
  simp only [↓eD, eZ, ↓reduceIte, Nat.reduceEqDiff, Nat.reduceAdd, Nat.reduceMul, reduceCtorEq, Nat.reduceLeDiff, Int.reduceLT, Int.reduceLE, Int.reduceToNat, Int.reduceEq, Nat.reduceLT]
  refine ⟨hi2, by omega, v', rfl, hA.Old (hg.old .ap) (ho.trans .ap), ?_⟩
  have : b ++ [128] ++ List.replicate (i + 1) (0:Int) = b ++ [128] ++ List.replicate i 0 ++ [0] := by rw [List.replicate_succ', ← List.append_assoc]
  rw [this]
  exact hA.grown
end Go.Proofs.YtjgbbhfihcmphaaDoor
