/- Walks of the functions that the claim reaches. Conditions: none. -/
import Derived.Test.YtajchhghjjlahaaDoorBodiesa
set_option linter.all false
set_option maxRecDepth 10000
namespace Go.Proofs.YtajchhghjjlahaaDoor
open Go Go.Cn Go.RowKit
theorem mixed : Tryd.prog.follows .mixedOrders = true := by kernel_rfl
theorem undef_eq : undef = Value.tuple #[] := _root_.id rfl
theorem wrap64' {n : Int} (h1 : -1000000000000000000 ≤ n) (h2 : n ≤ 1000000000000000000) : IntKind.wrap .i64 n = n := wrap64 (by omega) (by omega)
theorem old_push {σ : H} {k : Blk} : Old σ (σ.push k) := by have := Old.ap (σ := σ) (l := [k]); simpa [ap] using this
def digC (d : List Int) : List Value := d.map (.int .u8)
theorem digC_one {d : List Int} : (digC d).all Value.oneCell' = true := by simp [digC, Value.oneCell']
theorem sets_all : ∀ {l z : List Value} {o : Nat}, o + l.length ≤ z.length → sets z o l = z.take o ++ l ++ z.drop (o + l.length)
 |[], z, o, _ => by simp [sets]
 |v :: l, z, o, h => by
  have h' : o + 1 + l.length ≤ (z.set o v).length := by simp at h ⊢; omega
  rw [sets, sets_all h']
  have hlt : o < z.length := by simp at h; omega
  have e1 : (z.set o v).take (o + 1) = z.take o ++ [v] := by
   rw [List.take_succ_eq_append_getElem (by simpa using hlt)]
   rw [List.take_set_of_le (by omega)]
   simp
  have e2 : (z.set o v).drop (o + 1 + l.length) = z.drop (o + (v :: l).length) := by
   rw [List.drop_set_of_lt (by omega)]
   simp; congr 1; omega
  rw [e1, e2]
  simp
def Byt (b : List Int) : Prop := ∀ x ∈ b, 0 ≤ x ∧ x ≤ 255
set_option maxHeartbeats 4000000
attribute [local irreducible] evL sem onG onI onV
def orW (a b : Int) : Int := IntKind.wrap .u32 (BitVec.ofInt 32 a ||| BitVec.ofInt 32 b).toNat
def xorW (a b : Int) : Int := IntKind.wrap .u32 (BitVec.ofInt 32 a ^^^ BitVec.ofInt 32 b).toNat
def andW (a b : Int) : Int := IntKind.wrap .u32 (BitVec.ofInt 32 a &&& BitVec.ofInt 32 b).toNat
def addW (a b : Int) : Int := IntKind.wrap .u32 (a + b)
def shlW (a : Int) (n : Nat) : Int := IntKind.wrap .u32 (a * 2 ^ (min n 32))
def shrW (a : Int) (n : Nat) : Int := a.fdiv (2 ^ (min n 32))
def rotrF (x : Int) (n : Nat) : Int := orW (shrW x n) (shlW x (32 - n))
theorem or_W {a b : Int} : IntKind.wrap .u32 (BitVec.ofInt (IntKind.bits .u32) a ||| BitVec.ofInt (IntKind.bits .u32) b).toNat = orW a b := rfl
theorem xor_W {a b : Int} : IntKind.wrap .u32 (BitVec.ofInt (IntKind.bits .u32) a ^^^ BitVec.ofInt (IntKind.bits .u32) b).toNat = xorW a b := rfl
theorem and_W {a b : Int} : IntKind.wrap .u32 (BitVec.ofInt (IntKind.bits .u32) a &&& BitVec.ofInt (IntKind.bits .u32) b).toNat = andW a b := rfl
theorem add_W {a b : Int} : IntKind.wrap .u32 (a + b) = addW a b := rfl
theorem shl_W {a : Int} {n : Nat} : IntKind.wrap .u32 (a * 2 ^ (min n (IntKind.bits .u32))) = shlW a n := rfl
theorem shr_W {a : Int} {n : Nat} : a.fdiv (2 ^ (min n (IntKind.bits .u32))) = shrW a n := rfl
def u32C (l : List Int) : List Value := l.map (.int .u32)
theorem u32C_len {l : List Int} : (u32C l).length = l.length := by simp [u32C]
theorem u32C_get {l : List Int} {i : Nat} (h : i < l.length) : (u32C l)[i]? = some (.int .u32 (l.getD i 0)) := by simp [u32C, h]
theorem u32C_set {l : List Int} {i : Nat} {x : Int} : (u32C l).set i (.int .u32 x) = u32C (l.set i x) := by simp [u32C]
theorem u32C_one {l : List Int} : (u32C l).all Value.oneCell' = true := by simp [u32C, Value.oneCell']
theorem u32C_rep {n : Nat} : List.replicate n (Value.int .u32 0) = u32C (List.replicate n 0) := by simp [u32C]
theorem digC_get {l : List Int} {i : Nat} (h : i < l.length) : (digC l)[i]? = some (.int .u8 (l.getD i 0)) := by simp [digC, h]
theorem digC_length {l : List Int} : (digC l).length = l.length := by simp [digC]
theorem digC_set {l : List Int} {i : Nat} {x : Int} : (digC l).set i (.int .u8 x) = digC (l.set i x) := by simp [digC]
theorem digC_rep {n : Nat} : List.replicate n (Value.int .u8 0) = digC (List.replicate n 0) := by simp [digC]
def beW (b : List Int) (t : Nat) : Int :=
 orW (orW (orW (shlW (IntKind.wrap .u32 (b.getD (4 * t) 0)) 24) (shlW (IntKind.wrap .u32 (b.getD (4 * t + 1) 0)) 16)) (shlW (IntKind.wrap .u32 (b.getD (4 * t + 2) 0)) 8)) (IntKind.wrap .u32 (b.getD (4 * t + 3) 0))
def w1 (b : List Int) : Nat → List Int
 |0 => List.replicate 64 0
 |t + 1 => (w1 b t).set t (beW b t)
def stepW (w : List Int) (i : Nat) : Int :=
 addW (addW (addW (w.getD i 0) (xorW (xorW (rotrF (w.getD (i + 1) 0) 7) (rotrF (w.getD (i + 1) 0) 18)) (shrW (w.getD (i + 1) 0) 3))) (w.getD (i + 9) 0)) (xorW (xorW (rotrF (w.getD (i + 14) 0) 17) (rotrF (w.getD (i + 14) 0) 19)) (shrW (w.getD (i + 14) 0) 10))
def w2 (w : List Int) : Nat → List Int
 |0 => w
 |t + 1 => (w2 w t).set (t + 16) (stepW (w2 w t) t)
def wordsF (b : List Int) : List Int := w2 (w1 b 16) 48
theorem w1_len {b : List Int} : ∀ {t : Nat}, (w1 b t).length = 64
 |0 => by simp [w1]
 |t + 1 => by rw [w1, List.length_set]; exact w1_len
theorem w2_len {w : List Int} (h : w.length = 64) : ∀ {t : Nat}, (w2 w t).length = 64
 |0 => h
 |t + 1 => by rw [w2, List.length_set]; exact w2_len h
theorem wordsF_len {b : List Int} : (wordsF b).length = 64 := w2_len w1_len
theorem digC_app {a b : List Int} : digC (a ++ b) = digC a ++ digC b := by simp [digC]
theorem append_bytes {σ0 σ : H} {v xa : Value} {o new : List Int} (hg : Grown σ0 σ 1 v (digC o) o.length) (h0 : σ0.size ≤ σ.size) (hx : xcells σ 1 xa = some (new.length, digC new)) (hb : o.length + new.length ≤ 140737488355328) :
  ∃ v' σ', append 1 1 v xa σ = some (v', σ') ∧ Ap σ0 σ σ' 1 v v' (digC (o ++ new)) (o ++ new).length := by
 obtain ⟨v', σ', h1, h2⟩ := append_grown hg (by omega) h0 hx (by simp [digC]) digC_one (bytes := 1) (by omega) (by omega)
 refine ⟨v', σ', h1, ?_⟩
 rw [digC_app, List.length_append]
 exact h2
theorem x_one {τ : H} {L : List Blk} {x : Int} {j : Nat} (h : L[j]? = some (.cells 0 [.int .u8 x] (0, 0))) : xcells (ap τ L) 1 (.slice (some ⟨τ.size + j, 0, none⟩) 1 1) = some ([x].length, digC [x]) := by
 simp [xcells, rdN_ap, h, rdcN, digC]
def varF : Nat → Int → List Int
 |0, _ => []
 |f + 1, z => if 128 ≤ z then IntKind.wrap .u8 (IntKind.wrap .u8 (z.tmod 128) + 128) :: varF f (IntKind.wrap .u64 (z.tdiv 128)) else [IntKind.wrap .u8 z]
def zF (n : Int) : Int := if n < 0 then IntKind.wrap .u64 (IntKind.wrap .u64 (IntKind.wrap .u64 (IntKind.wrap .i64 (-1 - n)) * 2) + 1) else IntKind.wrap .u64 (IntKind.wrap .u64 n * 2)
def intF (n : Int) : List Int := varF 10 (zF n)
theorem varF_len : ∀ {f : Nat} {z : Int}, (varF f z).length ≤ f
 |0, _ => by simp [varF]
 |f + 1, z => by
  rw [varF]
  split
  ·have := varF_len (f := f) (z := IntKind.wrap .u64 (z.tdiv 128))
   simp; omega
  ·simp
theorem intF_len {n : Int} : (intF n).length ≤ 10 := varF_len
theorem wrapU64_range {x : Int} : 0 ≤ IntKind.wrap .u64 x ∧ IntKind.wrap .u64 x < 18446744073709551616 := by
 simp only [IntKind.wrap, IntKind.signed, IntKind.bits]
 simp
 omega
theorem wrapU64 {x : Int} (h1 : 0 ≤ x) (h2 : x < 18446744073709551616) : IntKind.wrap .u64 x = x := by
 simp only [IntKind.wrap, IntKind.signed, IntKind.bits]
 simp
 omega
theorem zF_range {n : Int} : 0 ≤ zF n ∧ zF n < 18446744073709551616 := by
 unfold zF
 split <;> exact wrapU64_range
theorem int_app {σ : H} {n : Int} : App Tryd.prog (.func 64) #[] #[.int .i64 n] σ fun v σ' => Old σ σ' ∧ Grown σ σ' 1 v (digC (intF n)) (intF n).length := by
 refine App.of_sem mixed Tryd.func64 t64 k64 r64 (Nat.le_of_ble_eq_true rfl) ?_
 unfold s64
 have e0 : ap σ [] = σ := ap_nil
 rw [← e0]
 by_cases hn : n < 0
 all_goals
  simp only [↓eD, eZ, ↓reduceIte, Nat.reduceEqDiff, Nat.reduceAdd, Nat.reduceMul, reduceCtorEq, Nat.reduceLeDiff, Int.reduceLT, Int.reduceLE, Int.reduceToNat, Int.reduceEq, Nat.reduceLT, hn]
  first
  |rw [show IntKind.wrap .u64 (IntKind.wrap .u64 (IntKind.wrap .u64 (IntKind.wrap .i64 (-1 - n)) * 2) + 1) = zF n by rw [zF, if_pos hn]]
  |rw [show IntKind.wrap .u64 (IntKind.wrap .u64 n * 2) = zF n by rw [zF, if_neg hn]]
  refine loop_of (fun m e τ => ∃ z o v, e = [(3, .int .u64 z), (4, v)] ∧ Old σ τ ∧ 0 ≤ z ∧ z < 128 ^ m ∧ z < 18446744073709551616 ∧ 1 ≤ m ∧ o.length + m = 10 ∧ o ++ varF m z = intF n ∧ Grown σ τ 1 v (digC o) o.length) 10
   ⟨zF n, [], _, rfl, .ap, zF_range.1, Int.lt_trans zF_range.2 (by decide), zF_range.2, by omega, rfl, rfl, .nil⟩ ?_
  rintro m e τ ⟨z, o, v, rfl, ho, z0, zm, z64, hm, hlen, hF, hg⟩
  have e1 : ap τ [] = τ := ap_nil
  obtain ⟨m, rfl⟩ : ∃ m', m = m' + 1 := ⟨m - 1, by omega⟩
  rw [← e1]
  simp only [↓eD, eZ, ↓reduceIte, Nat.reduceEqDiff, Nat.reduceAdd, Nat.reduceMul, reduceCtorEq, Nat.reduceLeDiff, Int.reduceLT, Int.reduceLE, Int.reduceToNat, Int.reduceEq, Nat.reduceLT]
  refine onI_dec (fun hlt => ?_) (fun hge => ?_)
  ·simp only [↓eD, eZ, ↓reduceIte, Nat.reduceEqDiff, Nat.reduceAdd, Nat.reduceMul, reduceCtorEq, Nat.reduceLeDiff, Int.reduceLT, Int.reduceLE, Int.reduceToNat, Int.reduceEq, Nat.reduceLT]
   obtain ⟨v', τ', ha, hA⟩ := append_bytes (σ := ap τ [.cells 0 [.int .u8 (IntKind.wrap .u8 (IntKind.wrap .u8 (z.tmod 128) + 128))] (0, 0)]) (hg.old .ap) (Nat.le_trans ho.1 (Old.ap (l := _)).1) (x_one (j := 0) rfl) (by simp; omega)
   refine onV_of ha ?_
   simp only [↓eD, eZ, ↓reduceIte, Nat.reduceEqDiff, Nat.reduceAdd, Nat.reduceMul, reduceCtorEq, Nat.reduceLeDiff, Int.reduceLT, Int.reduceLE, Int.reduceToNat, Int.reduceEq, Nat.reduceLT]
   have hq : z.tdiv 128 = z / 128 := Int.tdiv_eq_ediv_of_nonneg z0
   have hq2 : IntKind.wrap .u64 (z.tdiv 128) = z / 128 := by rw [hq]; exact wrapU64 (by omega) (by omega)
   have hm1 : 1 ≤ m := by
    rcases Nat.eq_zero_or_pos m with h | h
    ·subst h; simp at zm; omega
    ·exact h
   rw [Int.pow_succ] at zm
   refine ⟨m, by omega, z / 128, o ++ [IntKind.wrap .u8 (IntKind.wrap .u8 (z.tmod 128) + 128)], v', by rw [hq2], hA.Old (hg.old .ap) (ho.trans .ap), by omega, by omega, by omega, hm1, by simp; omega, ?_, hA.grown⟩
   rw [← hF, varF, if_pos hlt, hq2, List.append_assoc]
   rfl
  ·simp only [↓eD, eZ, ↓reduceIte, Nat.reduceEqDiff, Nat.reduceAdd, Nat.reduceMul, reduceCtorEq, Nat.reduceLeDiff, Int.reduceLT, Int.reduceLE, Int.reduceToNat, Int.reduceEq, Nat.reduceLT]
   obtain ⟨v', τ', ha, hA⟩ := append_bytes (σ := ap τ [.cells 0 [.int .u8 (IntKind.wrap .u8 z)] (0, 0)]) (hg.old .ap) (Nat.le_trans ho.1 (Old.ap (l := _)).1) (x_one (j := 0) rfl) (by simp; omega)
   refine onV_of ha ?_
   simp only [↓eD, eZ, ↓reduceIte, Nat.reduceEqDiff, Nat.reduceAdd, Nat.reduceMul, reduceCtorEq, Nat.reduceLeDiff, Int.reduceLT, Int.reduceLE, Int.reduceToNat, Int.reduceEq, Nat.reduceLT]
   rw [varF, if_neg hge] at hF
   exact ⟨hA.Old (hg.old .ap) (ho.trans .ap), hF ▸ hA.grown⟩
def i64C (l : List Int) : List Value := l.map (.int .i64)
theorem flat_take {α β : Type} {f : α → List β} {l : List α} {i : Nat} (h : i < l.length) : (l.take (i + 1)).flatMap f = (l.take i).flatMap f ++ f l[i] := by
 rw [List.take_succ_eq_append_getElem h, List.flatMap_append]; simp
theorem flat_len {α β : Type} {f : α → List β} {l : List α} {n i : Nat} (h : ∀ x, (f x).length ≤ n) : ((l.take i).flatMap f).length ≤ i * n := by
 induction i with
 |zero => simp
 |succ i ih =>
  by_cases hi : i < l.length
  ·rw [flat_take hi, List.length_append, Nat.add_mul]
   have := h l[i]
   omega
  ·rw [List.take_of_length_le (by omega)]
   rw [List.take_of_length_le (by omega)] at ih
   rw [Nat.add_mul]; omega
def strI (s : ByteArray) : List Int := s.data.toList.map fun b => (b.toNat : Int)
theorem strI_len {s : ByteArray} : (strI s).length = s.size := by simp [strI]
theorem byteCells_eq {s : ByteArray} : byteCells s = digC (strI s) := by simp [byteCells, digC, strI, Function.comp_def]
def bytesF (s : ByteArray) : List Int := intF s.size ++ strI s
theorem bytes_app {σ : H} {s : ByteArray} (hs : s.size < 100000000000000) : App Tryd.prog (.func 65) #[] #[.string s] σ fun v σ' => Old σ σ' ∧ Grown σ σ' 1 v (digC (bytesF s)) (bytesF s).length := by
 refine App.of_sem mixed Tryd.func65 t65 k65 r65 (Nat.le_of_ble_eq_true rfl) ?_
 unfold s65
 have e0 : ap σ [] = σ := ap_nil
 rw [← e0]
 simp only [↓eD, eZ, ↓reduceIte, Nat.reduceEqDiff, Nat.reduceAdd, Nat.reduceMul, reduceCtorEq, Nat.reduceLeDiff, Int.reduceLT, Int.reduceLE, Int.reduceToNat, Int.reduceEq, Nat.reduceLT]
 refine appK_of int_app ?_
 rintro v σ1 ⟨ho1, hg1⟩
 simp only [↓eD, eZ, ↓reduceIte, Nat.reduceEqDiff, Nat.reduceAdd, Nat.reduceMul, reduceCtorEq, Nat.reduceLeDiff, Int.reduceLT, Int.reduceLE, Int.reduceToNat, Int.reduceEq, Nat.reduceLT]
 have hlen2 : (intF s.size).length ≤ 10 := intF_len
 have hgg := hg1.from (σ0 := σ) (by simp [ap_size])
 have hoo : Old σ σ1 := Old.ap.trans ho1
 obtain ⟨v', τ', ha, hA⟩ := append_bytes (σ := σ1) (xa := .string s) (new := strI s) hgg hoo.1 (by simp [xcells, byteCells_eq, strI_len]) (by rw [strI_len]; omega)
 refine onV_of ha ?_
 simp only [↓eD, eZ, ↓reduceIte, Nat.reduceEqDiff, Nat.reduceAdd, Nat.reduceMul, reduceCtorEq, Nat.reduceLeDiff, Int.reduceLT, Int.reduceLE, Int.reduceToNat, Int.reduceEq, Nat.reduceLT]
 have := hA.Old hgg hoo
 exact ⟨this, hA.grown.from (by simp [ap_size])⟩
def partsF (l : List ByteArray) : List Int := l.flatMap bytesF
def inputF (tag : Int) (l : List ByteArray) : List Int := IntKind.wrap .u8 tag :: partsF l
def bytesS (d : List Int) : ByteArray := ⟨(d.map fun x => UInt8.ofNat x.toNat).toArray⟩
theorem bytesOf_dig : ∀ {d : List Int}, bytesOf (digC d) = some (d.map fun x => UInt8.ofNat x.toNat)
 |[] => rfl
 |x :: d => by
  have := bytesOf_dig (d := d)
  unfold digC at this ⊢
  simp [bytesOf, this]
def be8 (n : Int) : List Int := (List.range 8).map fun i => IntKind.wrap .u8 (n.fdiv (2 ^ (min (56 - 8 * i) 64)))
def padN (n : Nat) : Nat := (119 - n % 64) % 64
def paddedF (b : List Int) : List Int := b ++ [128] ++ List.replicate (padN b.length) 0 ++ be8 (IntKind.wrap .u64 (8 * IntKind.wrap .u64 b.length))
end Go.Proofs.YtajchhghjjlahaaDoor
