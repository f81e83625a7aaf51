/- Walks of the functions that the claim reaches. Conditions: none. -/
import Derived.Test.YtoegoigfbldkoaaDoorBodies
set_option linter.all false
set_option linter.unusedSimpArgs false
set_option linter.unusedVariables false
set_option maxRecDepth 10000
namespace Go.Proofs.YtoegoigfbldkoaaDoor
open Go Go.Cn Go.RowKit

theorem mixed : Tryd.prog.follows .mixedOrders = true := by kernel_rfl
theorem undef_eq : undef = Value.tuple #[] := _root_.id rfl
theorem wrap64' {n : Int} (h1 : -1000000000000000000 ≤ n) (h2 : n ≤ 1000000000000000000) : IntKind.wrap .i64 n = n := wrap64 (by omega) (by omega)
theorem old_push {σ : H} {k : Blk} : Old σ (σ.push k) := by have := Old.ap (σ := σ) (l := [k]); simpa [ap] using this
/-- Cells of bytes, and of words. -/
def digC (d : List Int) : List Value := d.map (.int .u8)
theorem digC_one {d : List Int} : (digC d).all Value.oneCell' = true := by simp [digC, Value.oneCell']
theorem sets_all : ∀ {l z : List Value} {o : Nat}, o + l.length ≤ z.length → sets z o l = z.take o ++ l ++ z.drop (o + l.length)
  | [], z, o, _ => by simp [sets]
  | v :: l, z, o, h => by
    have h' : o + 1 + l.length ≤ (z.set o v).length := by simp at h ⊢; omega
    rw [sets, sets_all h']
    have hlt : o < z.length := by simp at h; omega
    have e1 : (z.set o v).take (o + 1) = z.take o ++ [v] := by
      rw [List.take_succ_eq_append_getElem (by simpa using hlt)]
      rw [List.take_set_of_le (by omega)]
      simp
    have e2 : (z.set o v).drop (o + 1 + l.length) = z.drop (o + (v :: l).length) := by
      rw [List.drop_set_of_lt (by omega)]
      simp; congr 1; omega
    rw [e1, e2]
    simp
/-- Integers that are bytes. -/
def Byt (b : List Int) : Prop := ∀ x ∈ b, 0 ≤ x ∧ x ≤ 255
/-- The bytes of a string. -/
def natL (s : ByteArray) : List Nat := s.data.toList.map UInt8.toNat
theorem natL_len {s : ByteArray} : (natL s).length = s.size := by simp [natL]
theorem natL_lt {s : ByteArray} : ∀ x ∈ natL s, x < 256 := by
  intro x hx
  obtain ⟨b, _, rfl⟩ := List.mem_map.1 hx
  exact b.toNat_lt
theorem str_get {s : ByteArray} {i : Nat} (h : i < s.size) : s[i]? = some (s.data[i]'h) := by
  show (if h : i < s.size then some (s[i]'h) else none) = _
  rw [dif_pos h]; rfl
theorem natL_get {s : ByteArray} {i : Nat} (h : i < s.size) : (s.data[i]'h).toNat = (natL s)[i]'(by rw [natL_len]; exact h) := by simp [natL]
end Go.Proofs.YtoegoigfbldkoaaDoor

set_option linter.unusedSimpArgs false
set_option linter.unusedVariables false
set_option maxRecDepth 10000
namespace Go.Proofs.YtoegoigfbldkoaaDoor
open Go Go.Cn

/-! ### The check of 40 bits: plain laws -/
abbrev V40 := BitVec 40
def pol : V40 := 0x0004820009#40
def sel (b : Bool) (v : V40) : V40 := if b then v else 0#40
theorem sel_xor {b : Bool} {v w : V40} : sel b (v ^^^ w) = sel b v ^^^ sel b w := by cases b <;> simp [sel]
theorem sel_bxor {b c : Bool} {v : V40} : sel (b ^^ c) v = sel b v ^^^ sel c v := by cases b <;> cases c <;> simp [sel]
theorem sel_zero {b : Bool} : sel b 0#40 = 0#40 := by cases b <;> rfl
/-- One zero bit more. -/
def shS (r : V40) : V40 := (r <<< 1) ^^^ sel r.msb pol
theorem xor4 {a b c d : V40} : (a ^^^ b) ^^^ (c ^^^ d) = (a ^^^ c) ^^^ (b ^^^ d) := by ac_rfl
theorem shS_xor {a b : V40} : shS (a ^^^ b) = shS a ^^^ shS b := by
  unfold shS
  rw [BitVec.shiftLeft_xor_distrib, BitVec.msb_xor, sel_bxor]
  exact xor4
theorem shS_zero : shS 0#40 = 0#40 := by decide
theorem shS_sel {b : Bool} {v : V40} : shS (sel b v) = sel b (shS v) := by cases b <;> simp [sel, shS_zero]
def shN : Nat → V40 → V40
  | 0, r => r
  | n + 1, r => shN n (shS r)
theorem shN_add {n m : Nat} {r : V40} : shN (n + m) r = shN m (shN n r) := by
  induction n generalizing r with
  | zero => simp [shN]
  | succ n ih => rw [Nat.succ_add]; exact ih
theorem shN_xor {n : Nat} {a b : V40} : shN n (a ^^^ b) = shN n a ^^^ shN n b := by
  induction n generalizing a b with
  | zero => rfl
  | succ n ih => simp only [shN, shS_xor, ih]
theorem shN_zero {n : Nat} : shN n 0#40 = 0#40 := by
  induction n with
  | zero => rfl
  | succ n ih => simp only [shN, shS_zero, ih]
theorem shN_shS {n : Nat} {r : V40} : shN n (shS r) = shS (shN n r) := by
  induction n generalizing r with
  | zero => rfl
  | succ n ih => simp only [shN, ih]
/-- One bit of a message. -/
def stp (r : V40) (b : Bool) : V40 := shS r ^^^ sel b pol
def runB (r : V40) (l : List Bool) : V40 := l.foldl stp r
theorem runB_app {r : V40} {l m : List Bool} : runB r (l ++ m) = runB (runB r l) m := by simp [runB]
theorem runB_lin {l : List Bool} {a b : V40} : runB (a ^^^ b) l = shN l.length a ^^^ runB b l := by
  induction l generalizing a b with
  | nil => rfl
  | cons c l ih =>
    show runB (stp (a ^^^ b) c) l = _
    rw [show stp (a ^^^ b) c = shS a ^^^ stp b c by unfold stp; rw [shS_xor, BitVec.xor_assoc], ih]
    rfl
theorem runB_zero {l : List Bool} {a : V40} : runB a l = shN l.length a ^^^ runB 0#40 l := by
  have := runB_lin (l := l) (a := a) (b := 0#40)
  simpa using this
/-- Messages of one length are combined. -/
theorem runB_zip {l m : List Bool} (h : l.length = m.length) {a b : V40} : runB (a ^^^ b) (List.zipWith (· ^^ ·) l m) = runB a l ^^^ runB b m := by
  induction l generalizing m a b with
  | nil => cases m with
    | nil => rfl
    | cons => simp at h
  | cons c l ih => cases m with
    | nil => simp at h
    | cons d m =>
      show runB (stp (a ^^^ b) (c ^^ d)) _ = _
      rw [show stp (a ^^^ b) (c ^^ d) = stp a c ^^^ stp b d by unfold stp; rw [shS_xor, sel_bxor]; exact xor4]
      exact ih (by simpa using h)
theorem runB_zeros {n : Nat} {r : V40} : runB r (List.replicate n false) = shN n r := by
  induction n generalizing r with
  | zero => rfl
  | succ n ih =>
    rw [List.replicate_succ]
    show runB (stp r false) _ = _
    rw [show stp r false = shS r by simp [stp, sel], ih]
    rfl

/-! ### Products -/
def hsF (o : V40) (l : List Bool) (a : V40) : V40 := l.foldl (fun o c => shS o ^^^ sel c a) o
theorem hsF_xor {l : List Bool} {o o' a a' : V40} : hsF (o ^^^ o') l (a ^^^ a') = hsF o l a ^^^ hsF o' l a' := by
  induction l generalizing o o' with
  | nil => rfl
  | cons c l ih =>
    show hsF (shS (o ^^^ o') ^^^ sel c (a ^^^ a')) l (a ^^^ a') = _
    rw [shS_xor, sel_xor, xor4]
    exact ih
theorem hsF_map {X : V40 → V40} (hx : ∀ a b, X (a ^^^ b) = X a ^^^ X b) (h0 : X 0#40 = 0#40) (hs : ∀ a, X (shS a) = shS (X a)) {l : List Bool} {o a : V40} : hsF (X o) l (X a) = X (hsF o l a) := by
  induction l generalizing o with
  | nil => rfl
  | cons c l ih =>
    show hsF (shS (X o) ^^^ sel c (X a)) l (X a) = X (hsF (shS o ^^^ sel c a) l a)
    rw [← ih, hx, hs]
    congr 2
    cases c <;> simp [sel, h0]
theorem hsF_zero {l : List Bool} : hsF 0#40 l 0#40 = 0#40 := by
  induction l with
  | nil => rfl
  | cons c l ih =>
    show hsF (shS 0#40 ^^^ sel c 0#40) l 0#40 = 0#40
    rw [shS_zero, sel_zero]
    exact ih
theorem hsF_shS {l : List Bool} {o a : V40} : hsF (shS o) l (shS a) = shS (hsF o l a) := hsF_map (fun _ _ => shS_xor) shS_zero (fun _ => rfl)
theorem hsF_comm {l m : List Bool} {a : V40} : hsF 0#40 l (hsF 0#40 m a) = hsF 0#40 m (hsF 0#40 l a) := by
  have := hsF_map (X := fun v => hsF 0#40 m v) (l := l) (o := 0#40) (a := a) (fun a b => by have := hsF_xor (l := m) (o := 0#40) (o' := 0#40) (a := a) (a' := b); simpa using this) hsF_zero
    (fun a => by have := hsF_shS (l := m) (o := 0#40) (a := a); rw [shS_zero] at this; exact this)
  rw [hsF_zero] at this
  exact this
def bitsM (b : V40) (t : Nat) : List Bool := (List.range t).map fun i => b.getLsbD (39 - i)
theorem bitsM_succ {b : V40} {t : Nat} : bitsM b (t + 1) = bitsM b t ++ [b.getLsbD (39 - t)] := by simp [bitsM, List.range_succ]
theorem hsF_app {l m : List Bool} {o a : V40} : hsF o (l ++ m) a = hsF (hsF o l a) m a := by simp [hsF]
theorem sel_bit {c : Bool} {i : Nat} : (sel c 1#40).getLsbD i = (c && decide (i = 0)) := by
  cases c
  · simp [sel]
  · simp only [sel, if_true, Bool.true_and]
    by_cases h : i = 0
    · subst h; decide
    · simp [h]
theorem hsF_one {b : V40} : ∀ t, t ≤ 40 → hsF 0#40 (bitsM b t) 1#40 = b >>> (40 - t)
  | 0, _ => by
    apply BitVec.eq_of_getLsbD_eq
    intro i hi
    simp [bitsM, hsF]
  | t + 1, h => by
    rw [bitsM_succ, hsF_app, hsF_one t (by omega)]
    show shS (b >>> (40 - t)) ^^^ sel (b.getLsbD (39 - t)) 1#40 = b >>> (40 - (t + 1))
    have hm : (b >>> (40 - t)).msb = false := by
      rw [BitVec.msb_eq_getLsbD_last, BitVec.getLsbD_ushiftRight]
      exact BitVec.getLsbD_of_ge _ _ (by omega)
    unfold shS
    rw [hm]
    apply BitVec.eq_of_getLsbD_eq
    intro i hi
    rw [BitVec.getLsbD_xor, sel_bit]
    simp only [sel, Bool.false_eq_true, if_false, BitVec.xor_zero, BitVec.getLsbD_shiftLeft, BitVec.getLsbD_ushiftRight, hi, decide_true, Bool.true_and]
    by_cases h0 : i = 0
    · subst h0
      simp
    · have : ¬ i < 1 := by omega
      simp only [this, decide_false, Bool.not_false, Bool.true_and, h0, Bool.and_false, Bool.xor_false]
      congr 1
      omega
/-- The product of two polynomials. -/
def act (p v : V40) : V40 := hsF 0#40 (bitsM p 40) v
theorem act_one {p : V40} : act p 1#40 = p := by
  have := hsF_one (b := p) 40 (by omega)
  simpa [act] using this
theorem act_comm {p v : V40} : act p v = act v p := by
  have h1 : act p (act v 1#40) = act v (act p 1#40) := hsF_comm
  rwa [act_one, act_one] at h1
theorem act_act {p q v : V40} : act (act p q) v = act p (act q v) := by
  rw [act_comm (p := act p q)]
  have h1 : act v (act p q) = act p (act v q) := hsF_comm
  rw [h1, act_comm (p := v)]
theorem act_shS {p v : V40} : act p (shS v) = shS (act p v) := by
  have := hsF_shS (l := bitsM p 40) (o := 0#40) (a := v)
  rw [shS_zero] at this
  exact this
theorem act_xor {p v w : V40} : act p (v ^^^ w) = act p v ^^^ act p w := by
  have := hsF_xor (l := bitsM p 40) (o := 0#40) (o' := 0#40) (a := v) (a' := w)
  simpa [act] using this
theorem act_shN {p : V40} {n : Nat} {v : V40} : act p (shN n v) = shN n (act p v) := by
  induction n generalizing v with
  | zero => rfl
  | succ n ih => simp only [shN, ih, act_shS]
/-- A number that works as so many zero bits. -/
def Pow (p : V40) (n : Nat) : Prop := ∀ v, act p v = shN n v
theorem pow_start : Pow 256#40 8 := by
  intro v
  have h : shN 8 1#40 = 256#40 := by decide
  rw [← h, act_comm, act_shN, act_one]
theorem Pow.mul {p q : V40} {n m : Nat} (h1 : Pow p n) (h2 : Pow q m) : Pow (act p q) (m + n) := by
  intro v
  rw [act_act, h1, h2, shN_add]

/-! ### Four bits at once -/
def nib : List V40 := [0x00000000#40, 0x04820009#40, 0x09040012#40, 0x0d86001b#40, 0x12080024#40, 0x168a002d#40, 0x1b0c0036#40, 0x1f8e003f#40, 0x24100048#40, 0x20920041#40, 0x2d14005a#40, 0x29960053#40, 0x3618006c#40, 0x329a0065#40, 0x3f1c007e#40, 0x3b9e0077#40]
theorem nib_bits : ∀ i, i < 16 → nib.getD i 0#40 = sel (i.testBit 3) (shN 3 pol) ^^^ (sel (i.testBit 2) (shN 2 pol) ^^^ (sel (i.testBit 1) (shN 1 pol) ^^^ sel (i.testBit 0) pol)) := by decide
def four (n : Nat) : List Bool := [n.testBit 3, n.testBit 2, n.testBit 1, n.testBit 0]
def nibF (r : V40) (n : Nat) : V40 := (r <<< 4) ^^^ nib.getD (((r.toNat >>> 36) ^^^ n) &&& 15) 0#40
theorem shN4 {r : V40} : shN 4 r = (r <<< 4) ^^^ (sel (r.toNat.testBit 39) (shN 3 pol) ^^^ (sel (r.toNat.testBit 38) (shN 2 pol) ^^^ (sel (r.toNat.testBit 37) (shN 1 pol) ^^^ sel (r.toNat.testBit 36) pol))) := by
  have e : ∀ k, k ≤ 3 → shS (r <<< k) = (r <<< (k + 1)) ^^^ sel (r.toNat.testBit (39 - k)) pol := by
    intro k hk
    unfold shS
    rw [BitVec.shiftLeft_add, BitVec.msb_eq_getLsbD_last, BitVec.getLsbD_shiftLeft]
    congr 2
    rw [BitVec.testBit_toNat]
    have h1 : ¬ 39 < k := by omega
    simp [h1]
  have e0 : shS r = (r <<< 1) ^^^ sel (r.toNat.testBit 39) pol := by simpa using e 0 (by omega)
  have e1 : shS (r <<< 1) = (r <<< 2) ^^^ sel (r.toNat.testBit 38) pol := e 1 (by omega)
  have e2 : shS (r <<< 2) = (r <<< 3) ^^^ sel (r.toNat.testBit 37) pol := e 2 (by omega)
  have e3 : shS (r <<< 3) = (r <<< 4) ^^^ sel (r.toNat.testBit 36) pol := e 3 (by omega)
  simp only [shN, e0, shS_xor, shS_sel, e1, e2, e3]
  ac_rfl
theorem runB_four {r : V40} {n : Nat} : runB r (four n) = nibF r n := by
  have hi : ((r.toNat >>> 36) ^^^ n) &&& 15 < 16 := Nat.lt_of_le_of_lt Nat.and_le_right (by decide)
  have hb : ∀ j, j < 4 → (((r.toNat >>> 36) ^^^ n) &&& 15).testBit j = (r.toNat.testBit (36 + j) ^^ n.testBit j) := by
    intro j hj
    rw [Nat.testBit_and, Nat.testBit_xor, Nat.testBit_shiftRight]
    have : ∀ j, j < 4 → (15 : Nat).testBit j = true := by decide
    rw [this j hj, Bool.and_true]
  unfold nibF
  rw [nib_bits _ hi, hb 3 (by omega), hb 2 (by omega), hb 1 (by omega), hb 0 (by omega), runB_zero]
  show shN 4 r ^^^ _ = _
  rw [shN4]
  have hall : ∀ b3 b2 b1 b0 : Bool, runB 0#40 [b3, b2, b1, b0] = sel b3 (shN 3 pol) ^^^ (sel b2 (shN 2 pol) ^^^ (sel b1 (shN 1 pol) ^^^ sel b0 pol)) := by decide
  have h0 : runB 0#40 (four n) = sel (n.testBit 3) (shN 3 pol) ^^^ (sel (n.testBit 2) (shN 2 pol) ^^^ (sel (n.testBit 1) (shN 1 pol) ^^^ sel (n.testBit 0) pol)) := hall _ _ _ _
  rw [h0]
  simp only [sel_bxor]
  ac_rfl
end Go.Proofs.YtoegoigfbldkoaaDoor

set_option linter.unusedSimpArgs false
set_option linter.unusedVariables false
set_option maxRecDepth 10000
set_option maxHeartbeats 1000000
namespace Go.Proofs.YtoegoigfbldkoaaDoor
open Go Go.Cn Go.RowKit
attribute [local irreducible] evL sem onG onI onV

def nibC : List Value := nib.map fun x => .int .u64 (x.toNat : Int)
/-- The table lies in its place. -/
def NGlob (σ : H) : Prop := rdN σ ⟨1, 0, none⟩ 16 = some nibC
theorem NGlob.Old {σ τ : H} (h : NGlob σ) (ho : Old σ τ) : NGlob τ := rdN_Old ho h
theorem NGlob.get {σ : H} (h : NGlob σ) {i : Nat} (hi : i < 16) : rd1 σ ⟨1, i, none⟩ = some (.int .u64 ((nib.getD i 0#40).toNat : Int)) := by
  have hl : i < nib.length := hi
  have := rd1_row h (j := i) (v := .int .u64 ((nib.getD i 0#40).toNat : Int)) (by simp [nibC, hl])
  simpa using this
def crcV (r : V40) : Value := .agg #[.int .u64 (r.toNat : Int)]
theorem ones_nat : (BitVec.allOnes 40).toNat = 1099511627775 := by decide

theorem nibble_app {r : V40} {n : Nat} {σ : H} (hn : n < 256) (hG : NGlob σ) : App Tryd.prog (.func 41) #[] #[.agg #[.int .u64 (r.toNat : Int)], .int .u8 (n : Int)] σ fun v σ' => σ' = σ ∧ v = .agg #[.int .u64 ((nibF r n).toNat : Int)] := by
  refine App.forget (App.of_sem mixed Tryd.func41 t41 k41 r41 (Nat.le_of_ble_eq_true rfl) ?_)
  rw [← ap_nil (σ := σ)]
  unfold s41
  have hr : r.toNat < 1099511627776 := r.isLt
  have h36 : r.toNat >>> 36 < 16 := by rw [Nat.shiftRight_eq_div_pow]; omega
  have w1 : ((r.toNat : Int)).fdiv (2 ^ min 36 (IntKind.bits .u64)) = ((r.toNat >>> 36 : Nat) : Int) := shr_nat (by decide)
  have w2 : IntKind.wrap .u8 ((r.toNat >>> 36 : Nat) : Int) = ((r.toNat >>> 36 : Nat) : Int) := wrap_u8 (by omega) (by omega)
  have w3 : IntKind.wrap .u8 (BitVec.ofInt (IntKind.bits .u8) ((r.toNat >>> 36 : Nat) : Int) ^^^ BitVec.ofInt (IntKind.bits .u8) (n : Int)).toNat = (((r.toNat >>> 36) ^^^ n : Nat) : Int) := xor_u8 (by omega) hn
  have hx : (r.toNat >>> 36) ^^^ n < 2 ^ 8 := Nat.xor_lt_two_pow (by omega) hn
  have w4 : IntKind.wrap .u8 (BitVec.ofInt (IntKind.bits .u8) (((r.toNat >>> 36) ^^^ n : Nat) : Int) &&& BitVec.ofInt (IntKind.bits .u8) 15).toNat = ((((r.toNat >>> 36) ^^^ n) &&& 15 : Nat) : Int) := and_u8 (b := 15) (by omega) (by omega)
  have w5 : IntKind.wrap .u64 ((r.toNat : Int) * 2 ^ min 4 (IntKind.bits .u64)) = ((r.toNat <<< 4 : Nat) : Int) := shl_u64 (by omega) (by omega)
  have hs : r.toNat <<< 4 < 18446744073709551616 := by rw [Nat.shiftLeft_eq]; omega
  have w6 : IntKind.wrap .u64 (BitVec.ofInt (IntKind.bits .u64) ((r.toNat <<< 4 : Nat) : Int) &&& BitVec.ofInt (IntKind.bits .u64) 1099511627775).toNat = (((r <<< 4).toNat : Nat) : Int) := by
    rw [show ((r <<< 4).toNat) = (r.toNat <<< 4) &&& 1099511627775 by rw [BitVec.toNat_shiftLeft, Nat.and_two_pow_sub_one_eq_mod (n := 40)]]
    exact and_u64 (b := 1099511627775) hs (by omega)
  generalize hi : ((r.toNat >>> 36) ^^^ n) &&& 15 = i at w4
  have hi16 : i < 16 := hi ▸ Nat.lt_of_le_of_lt Nat.and_le_right (by decide)
  have hb : (0:Int) ≤ (i : Int) ∧ (i : Int) < ((16 : Nat) : Int) := by omega
  have hg : ∀ l, rd1 (ap σ l) ⟨1, i, none⟩ = some (.int .u64 ((nib.getD i 0#40).toNat : Int)) := fun l => (hG.Old .ap).get hi16
  have e1 : (r <<< 4).toNat < 1099511627776 := (r <<< 4).isLt
  have e2 : (nib.getD i 0#40).toNat < 1099511627776 := (nib.getD i 0#40).isLt
  have w7 : IntKind.wrap .u64 (BitVec.ofInt (IntKind.bits .u64) ((r <<< 4).toNat : Int) ^^^ BitVec.ofInt (IntKind.bits .u64) ((nib.getD i 0#40).toNat : Int)).toNat = ((nibF r n).toNat : Int) := by
    rw [xor_u64 (by omega) (by omega)]
    unfold nibF
    rw [hi, BitVec.toNat_xor]
  simp only [↓eD0, ↓eD1, eC0, eC1, eC2, eC3, eC4, eC5, eC6, wantedE, ↓reduceIte, Nat.reduceEqDiff, Option.map_some, Option.map_none, reread, List.nil_append, List.cons_append, List.map_cons, List.map_nil, List.length_nil, List.length_cons, Value.cells, List.getElem?_cons_zero, List.getElem?_cons_succ, outE, lks, lkR, rdV, neg1, evs, opt, Nat.reduceAdd, Nat.reduceMul, and_self, reduceCtorEq, List.size_toArray, List.all_cons, List.all_nil, Value.oneCell', List.set_cons_zero, List.set_cons_succ, sets, fillL, Nat.reduceLeDiff, List.drop_succ_cons, List.drop_zero, List.take_succ_cons, List.take_zero, List.toList_toArray, argsE, Array.append_empty, Array.empty_append, List.getElem?_toArray, Int.reduceLT, Int.reduceLE, Int.reduceToNat, Int.reduceEq, Nat.reduceLT, w1, w2, w3, w4, w5, w6, hb, Int.toNat_natCast, Nat.mul_one, Nat.one_mul, hg, w7]
  exact ⟨.ap, by simp [flat, flat.flat1]⟩

theorem begin_crc_app {σ : H} : App Tryd.prog (.func 19) #[] #[] σ fun v σ' => σ' = σ ∧ v = .agg #[.int .u64 ((BitVec.allOnes 40).toNat : Int)] := by
  refine App.forget (App.of_sem mixed Tryd.func19 t19 k19 r19 (Nat.le_of_ble_eq_true rfl) ?_)
  rw [← ap_nil (σ := σ)]
  unfold s19
  simp only [↓eD0, ↓eD1, eC0, eC1, eC2, eC3, eC4, eC5, eC6, wantedE, ↓reduceIte, Nat.reduceEqDiff, Option.map_some, Option.map_none, reread, List.nil_append, List.cons_append, List.map_cons, List.map_nil, List.length_nil, List.length_cons, Value.cells, List.getElem?_cons_zero, List.getElem?_cons_succ, outE, lks, lkR, rdV, neg1, evs, opt, Nat.reduceAdd, Nat.reduceMul, and_self, reduceCtorEq, List.size_toArray, List.all_cons, List.all_nil, Value.oneCell', List.set_cons_zero, List.set_cons_succ, sets, fillL, Nat.reduceLeDiff, List.drop_succ_cons, List.drop_zero, List.take_succ_cons, List.take_zero, List.toList_toArray, argsE, Array.append_empty, Array.empty_append, List.getElem?_toArray, Int.reduceLT, Int.reduceLE, Int.reduceToNat, Int.reduceEq, Nat.reduceLT]
  exact ⟨.ap, by simp [flat, flat.flat1], by rw [ones_nat]; rfl⟩

def valF (r : V40) : Int := ((r ^^^ BitVec.allOnes 40).toNat : Int)
theorem valF_range {r : V40} : 0 ≤ valF r ∧ valF r < 1099511627776 := by
  have := (r ^^^ BitVec.allOnes 40).isLt
  unfold valF; omega
theorem value_app {r : V40} {σ : H} : App Tryd.prog (.func 22) #[] #[.agg #[.int .u64 (r.toNat : Int)]] σ fun v σ' => σ' = σ ∧ v = .int .i64 (valF r) := by
  refine App.forget (App.of_sem mixed Tryd.func22 t22 k22 r22 (Nat.le_of_ble_eq_true rfl) ?_)
  rw [← ap_nil (σ := σ)]
  unfold s22
  have hr : r.toNat < 1099511627776 := r.isLt
  have w1 : IntKind.wrap .u64 (BitVec.ofInt (IntKind.bits .u64) (r.toNat : Int) ^^^ BitVec.ofInt (IntKind.bits .u64) 1099511627775).toNat = valF r := by
    rw [show BitVec.ofInt (IntKind.bits .u64) 1099511627775 = BitVec.ofInt (IntKind.bits .u64) ((1099511627775 : Nat) : Int) from rfl, xor_u64 (by omega) (by omega)]
    unfold valF
    rw [BitVec.toNat_xor, ones_nat]
  have w2 : IntKind.wrap .i64 (valF r) = valF r := wrap64' (by have := valF_range (r := r); omega) (by have := valF_range (r := r); omega)
  simp only [↓eD0, ↓eD1, eC0, eC1, eC2, eC3, eC4, eC5, eC6, wantedE, ↓reduceIte, Nat.reduceEqDiff, Option.map_some, Option.map_none, reread, List.nil_append, List.cons_append, List.map_cons, List.map_nil, List.length_nil, List.length_cons, Value.cells, List.getElem?_cons_zero, List.getElem?_cons_succ, outE, lks, lkR, rdV, neg1, evs, opt, Nat.reduceAdd, Nat.reduceMul, and_self, reduceCtorEq, List.size_toArray, List.all_cons, List.all_nil, Value.oneCell', List.set_cons_zero, List.set_cons_succ, sets, fillL, Nat.reduceLeDiff, List.drop_succ_cons, List.drop_zero, List.take_succ_cons, List.take_zero, List.toList_toArray, argsE, Array.append_empty, Array.empty_append, List.getElem?_toArray, Int.reduceLT, Int.reduceLE, Int.reduceToNat, Int.reduceEq, Nat.reduceLT, w1, w2]
  exact ⟨.ap, rfl⟩

def bits8 (x : Nat) : List Bool := four (x >>> 4) ++ four x
def bitsY (l : List Nat) : List Bool := l.flatMap bits8
def runY (r : V40) (l : List Nat) : V40 := runB r (bitsY l)
theorem runY_take {r : V40} {l : List Nat} {i : Nat} (h : i < l.length) : runY r (l.take (i + 1)) = nibF (nibF (runY r (l.take i)) (l[i] >>> 4)) l[i] := by
  rw [List.take_succ_eq_append_getElem h]
  unfold runY bitsY
  rw [List.flatMap_append, runB_app]
  simp only [List.flatMap_cons, List.flatMap_nil, List.append_nil, bits8]
  rw [runB_app, runB_four, runB_four]

theorem add_crc_app {r : V40} {s : ByteArray} {σ : H} (hs : s.size < 1000000000000000) (hG : NGlob σ) : App Tryd.prog (.func 20) #[] #[.agg #[.int .u64 (r.toNat : Int)], .string s] σ fun v σ' => σ' = σ ∧ v = .agg #[.int .u64 ((runY r (natL s)).toNat : Int)] := by
  refine App.forget (App.of_sem mixed Tryd.func20 t20 k20 r20 (Nat.le_of_ble_eq_true rfl) ?_)
  rw [← ap_nil (σ := σ)]
  unfold s20
  simp only [↓eD0, ↓eD1, eC0, eC1, eC2, eC3, eC4, eC5, eC6, wantedE, ↓reduceIte, Nat.reduceEqDiff, Option.map_some, Option.map_none, reread, List.nil_append, List.cons_append, List.map_cons, List.map_nil, List.length_nil, List.length_cons, Value.cells, List.getElem?_cons_zero, List.getElem?_cons_succ, outE, lks, lkR, rdV, neg1, evs, opt, Nat.reduceAdd, Nat.reduceMul, and_self, reduceCtorEq, List.size_toArray, List.all_cons, List.all_nil, Value.oneCell', List.set_cons_zero, List.set_cons_succ, sets, fillL, Nat.reduceLeDiff, List.drop_succ_cons, List.drop_zero, List.take_succ_cons, List.take_zero, List.toList_toArray, argsE, Array.append_empty, Array.empty_append, List.getElem?_toArray, Int.reduceLT, Int.reduceLE, Int.reduceToNat, Int.reduceEq, Nat.reduceLT]
  refine loop_for (J := fun i e τ => i ≤ s.size ∧ ∃ ver, e = [(1, .string s), (2, .pointer (some ⟨σ.size, 0, none⟩)), (4, .pointer (some ⟨σ.size + 1, 0, none⟩)), (7, .int .i64 (s.size : Int)), (8, .int .i64 (i : Int))] ∧
      τ = ap σ [.cells ver [.int .u64 ((runY r ((natL s).take i)).toNat : Int)] (0, 0), .cells 0 [.int .u64 0] (0, 0)]) s.size ⟨by omega, 0, rfl, by simp [runY, bitsY, runB]⟩ ?_
  rintro i e τ hi ⟨_, ver, rfl, rfl⟩
  by_cases hlt : i < s.size
  · have dl : decide ((i : Int) < (s.size : Int)) = true := by rw [decide_eq_true]; omega
    have hb : (0:Int) ≤ (i : Int) := by omega
    have hg := str_get hlt
    have hn := natL_get hlt
    have hlt' : i < (natL s).length := by rw [natL_len]; exact hlt
    have hx : (natL s)[i] < 256 := natL_lt _ (List.getElem_mem _)
    have hstep := runY_take (r := r) hlt'
    have hw : IntKind.wrap .i64 ((i : Int) + 1) = ((i + 1 : Nat) : Int) := by rw [wrap64' (by omega) (by omega)]; omega
    generalize runY r (List.take i (natL s)) = R at hstep ⊢
    generalize (natL s)[i] = x at hn hx hstep
    have w1 : ((x : Int)).fdiv (2 ^ min 4 (IntKind.bits .u8)) = ((x >>> 4 : Nat) : Int) := shr_nat (by decide)
    simp only [↓eD0, ↓eD1, eC0, eC1, eC2, eC3, eC4, eC5, eC6, wantedE, ↓reduceIte, Nat.reduceEqDiff, Option.map_some, Option.map_none, reread, List.nil_append, List.cons_append, List.map_cons, List.map_nil, List.length_nil, List.length_cons, Value.cells, List.getElem?_cons_zero, List.getElem?_cons_succ, outE, lks, lkR, rdV, neg1, evs, opt, Nat.reduceAdd, Nat.reduceMul, and_self, reduceCtorEq, List.size_toArray, List.all_cons, List.all_nil, Value.oneCell', List.set_cons_zero, List.set_cons_succ, sets, fillL, Nat.reduceLeDiff, List.drop_succ_cons, List.drop_zero, List.take_succ_cons, List.take_zero, List.toList_toArray, argsE, Array.append_empty, Array.empty_append, List.getElem?_toArray, Int.reduceLT, Int.reduceLE, Int.reduceToNat, Int.reduceEq, Nat.reduceLT, dl, hb, Int.toNat_natCast, hg, hn, w1]
    refine appK_of (nibble_app (r := R) (n := x >>> 4) (by rw [Nat.shiftRight_eq_div_pow]; omega) (hG.Old .ap)) ?_
    rintro _ _ ⟨e2, rfl⟩
    rw [e2]
    clear e2
    simp only [↓eD0, ↓eD1, eC0, eC1, eC2, eC3, eC4, eC5, eC6, wantedE, ↓reduceIte, Nat.reduceEqDiff, Option.map_some, Option.map_none, reread, List.nil_append, List.cons_append, List.map_cons, List.map_nil, List.length_nil, List.length_cons, Value.cells, List.getElem?_cons_zero, List.getElem?_cons_succ, outE, lks, lkR, rdV, neg1, evs, opt, Nat.reduceAdd, Nat.reduceMul, and_self, reduceCtorEq, List.size_toArray, List.all_cons, List.all_nil, Value.oneCell', List.set_cons_zero, List.set_cons_succ, sets, fillL, Nat.reduceLeDiff, List.drop_succ_cons, List.drop_zero, List.take_succ_cons, List.take_zero, List.toList_toArray, argsE, Array.append_empty, Array.empty_append, List.getElem?_toArray, Int.reduceLT, Int.reduceLE, Int.reduceToNat, Int.reduceEq, Nat.reduceLT, hb, Int.toNat_natCast, hg, hn]
    refine appK_of (nibble_app (r := nibF R (x >>> 4)) (n := x) hx (hG.Old .ap)) ?_
    rintro _ _ ⟨e2, rfl⟩
    rw [e2]
    clear e2
    simp only [↓eD0, ↓eD1, eC0, eC1, eC2, eC3, eC4, eC5, eC6, wantedE, ↓reduceIte, Nat.reduceEqDiff, Option.map_some, Option.map_none, reread, List.nil_append, List.cons_append, List.map_cons, List.map_nil, List.length_nil, List.length_cons, Value.cells, List.getElem?_cons_zero, List.getElem?_cons_succ, outE, lks, lkR, rdV, neg1, evs, opt, Nat.reduceAdd, Nat.reduceMul, and_self, reduceCtorEq, List.size_toArray, List.all_cons, List.all_nil, Value.oneCell', List.set_cons_zero, List.set_cons_succ, sets, fillL, Nat.reduceLeDiff, List.drop_succ_cons, List.drop_zero, List.take_succ_cons, List.take_zero, List.toList_toArray, argsE, Array.append_empty, Array.empty_append, List.getElem?_toArray, Int.reduceLT, Int.reduceLE, Int.reduceToNat, Int.reduceEq, Nat.reduceLT, hw]
    refine ⟨hlt, by omega, ver + 1, ?_⟩
    rw [hstep]
  · have hie : i = s.size := by omega
    subst hie
    have dl : decide ((s.size : Int) < (s.size : Int)) = false := by rw [decide_eq_false]; omega
    rw [List.take_of_length_le (by rw [natL_len]; omega)]
    simp only [↓eD0, ↓eD1, eC0, eC1, eC2, eC3, eC4, eC5, eC6, wantedE, ↓reduceIte, Nat.reduceEqDiff, Option.map_some, Option.map_none, reread, List.nil_append, List.cons_append, List.map_cons, List.map_nil, List.length_nil, List.length_cons, Value.cells, List.getElem?_cons_zero, List.getElem?_cons_succ, outE, lks, lkR, rdV, neg1, evs, opt, Nat.reduceAdd, Nat.reduceMul, and_self, reduceCtorEq, List.size_toArray, List.all_cons, List.all_nil, Value.oneCell', List.set_cons_zero, List.set_cons_succ, sets, fillL, Nat.reduceLeDiff, List.drop_succ_cons, List.drop_zero, List.take_succ_cons, List.take_zero, List.toList_toArray, argsE, Array.append_empty, Array.empty_append, List.getElem?_toArray, Int.reduceLT, Int.reduceLE, Int.reduceToNat, Int.reduceEq, Nat.reduceLT, dl]
    exact ⟨.ap, by simp [flat, flat.flat1]⟩
end Go.Proofs.YtoegoigfbldkoaaDoor

set_option linter.unusedSimpArgs false
set_option linter.unusedVariables false
set_option maxRecDepth 10000
set_option maxHeartbeats 1000000
namespace Go.Proofs.YtoegoigfbldkoaaDoor
open Go Go.Cn Go.RowKit
attribute [local irreducible] evL sem onG onI onV

def lowV (n : Int) : V40 := BitVec.ofInt 40 n
theorem low_mask {a : Int} : IntKind.wrap .u64 (BitVec.ofInt (IntKind.bits .u64) (IntKind.wrap .u64 a) &&& BitVec.ofInt (IntKind.bits .u64) 1099511627775).toNat = ((lowV a).toNat : Int) := by
  obtain ⟨m, hm, hm2⟩ : ∃ m : Nat, IntKind.wrap .u64 a = (m : Int) ∧ m < 18446744073709551616 := ⟨(IntKind.wrap .u64 a).toNat, by rw [wrap_u64_mod]; omega, by rw [wrap_u64_mod]; omega⟩
  rw [hm, show BitVec.ofInt (IntKind.bits .u64) 1099511627775 = BitVec.ofInt (IntKind.bits .u64) ((1099511627775 : Nat) : Int) from rfl, and_u64 hm2 (by omega)]
  congr 1
  rw [Nat.and_two_pow_sub_one_eq_mod (n := 40)]
  unfold lowV
  rw [BitVec.toNat_ofInt]
  rw [wrap_u64_mod] at hm
  omega
theorem bool_nat {b : Bool} : decide (((b.toNat : Nat) : Int) = 1) = b := by cases b <;> rfl
theorem msb_nat {r : V40} : r.toNat >>> 39 = r.msb.toNat := by
  have h := BitVec.msb_eq_decide r
  have := r.isLt
  rw [Nat.shiftRight_eq_div_pow]
  simp only [Nat.add_one_sub_one] at h
  by_cases hm : 2 ^ 39 ≤ r.toNat
  · rw [h, decide_eq_true hm]; simp; omega
  · rw [h, decide_eq_false hm]; simp; omega
theorem and_one {b : Bool} : (b.toNat &&& 1) = b.toNat := by cases b <;> rfl
theorem xor_bool {b c : Bool} : (b.toNat ^^^ c.toNat) = (b ^^ c).toNat := by cases b <;> cases c <;> rfl
theorem bool_lt {b : Bool} : b.toNat < 2 := by cases b <;> decide
theorem pol_nat : pol.toNat = 75628553 := by decide
theorem shl1_mask {r : V40} : IntKind.wrap .u64 (BitVec.ofInt (IntKind.bits .u64) ((r.toNat <<< 1 : Nat) : Int) &&& BitVec.ofInt (IntKind.bits .u64) 1099511627775).toNat = (((r <<< 1).toNat : Nat) : Int) := by
  have hr : r.toNat < 1099511627776 := r.isLt
  have hs : r.toNat <<< 1 < 18446744073709551616 := by rw [Nat.shiftLeft_eq]; omega
  rw [show ((r <<< 1).toNat) = (r.toNat <<< 1) &&& 1099511627775 by rw [BitVec.toNat_shiftLeft, Nat.and_two_pow_sub_one_eq_mod (n := 40)]]
  exact and_u64 (b := 1099511627775) hs (by omega)
theorem shl1 {r : V40} : IntKind.wrap .u64 ((r.toNat : Int) * 2 ^ min 1 (IntKind.bits .u64)) = ((r.toNat <<< 1 : Nat) : Int) := by
  have hr : r.toNat < 1099511627776 := r.isLt
  exact shl_u64 (by omega) (by omega)
theorem xor_pol {r : V40} : IntKind.wrap .u64 (BitVec.ofInt (IntKind.bits .u64) (r.toNat : Int) ^^^ BitVec.ofInt (IntKind.bits .u64) 75628553).toNat = ((r ^^^ pol).toNat : Int) := by
  have hr : r.toNat < 1099511627776 := r.isLt
  rw [show BitVec.ofInt (IntKind.bits .u64) 75628553 = BitVec.ofInt (IntKind.bits .u64) ((75628553 : Nat) : Int) from rfl, xor_u64 (by omega) (by omega), BitVec.toNat_xor, pol_nat]
theorem xor_V {r s : V40} : IntKind.wrap .u64 (BitVec.ofInt (IntKind.bits .u64) (r.toNat : Int) ^^^ BitVec.ofInt (IntKind.bits .u64) (s.toNat : Int)).toNat = ((r ^^^ s).toNat : Int) := by
  have hr : r.toNat < 1099511627776 := r.isLt
  have hs : s.toNat < 1099511627776 := s.isLt
  rw [xor_u64 (by omega) (by omega), BitVec.toNat_xor]
theorem wrap_V {r : V40} : IntKind.wrap .i64 (r.toNat : Int) = (r.toNat : Int) := by
  have hr : r.toNat < 1099511627776 := r.isLt
  exact wrap64' (by omega) (by omega)

theorem step_app {r : V40} {b : Bool} {σ : H} : App Tryd.prog (.func 40) #[] #[.int .u64 (r.toNat : Int), .int .u64 ((b.toNat : Nat) : Int)] σ fun v σ' => σ' = σ ∧ v = .int .u64 ((stp r b).toNat : Int) := by
  refine App.of_sem mixed Tryd.func40 t40 k40 r40 (Nat.le_of_ble_eq_true rfl) ?_
  unfold s40
  have b1 := bool_lt (b := r.msb)
  have b2 := bool_lt (b := b)
  have w1 : ((r.toNat : Int)).fdiv (2 ^ min 39 (IntKind.bits .u64)) = ((r.msb.toNat : Nat) : Int) := by rw [← msb_nat]; exact shr_nat (by decide)
  have w2 : IntKind.wrap .u64 (BitVec.ofInt (IntKind.bits .u64) ((r.msb.toNat : Nat) : Int) &&& BitVec.ofInt (IntKind.bits .u64) 1).toNat = ((r.msb.toNat : Nat) : Int) := by
    rw [show BitVec.ofInt (IntKind.bits .u64) 1 = BitVec.ofInt (IntKind.bits .u64) ((1 : Nat) : Int) from rfl, and_u64 (by omega) (by omega), and_one]
  have w3 : IntKind.wrap .u64 (BitVec.ofInt (IntKind.bits .u64) ((r.msb.toNat : Nat) : Int) ^^^ BitVec.ofInt (IntKind.bits .u64) ((b.toNat : Nat) : Int)).toNat = (((r.msb ^^ b).toNat : Nat) : Int) := by
    rw [xor_u64 (by omega) (by omega), xor_bool]
  have hst : stp r b = (r <<< 1) ^^^ sel (r.msb ^^ b) pol := by unfold stp shS; rw [BitVec.xor_assoc, ← sel_bxor]
  rw [hst]
  cases hc : r.msb ^^ b
  · rw [hc] at w3
    have d : decide (((false.toNat : Nat) : Int) = 1) = false := rfl
    simp only [↓eD0, ↓eD1, eC0, eC1, eC2, eC3, eC4, eC5, eC6, wantedE, ↓reduceIte, Nat.reduceEqDiff, Option.map_some, Option.map_none, reread, List.nil_append, List.cons_append, List.map_cons, List.map_nil, List.length_nil, List.length_cons, Value.cells, List.getElem?_cons_zero, List.getElem?_cons_succ, outE, lks, lkR, rdV, neg1, evs, opt, Nat.reduceAdd, Nat.reduceMul, and_self, reduceCtorEq, List.size_toArray, List.all_cons, List.all_nil, Value.oneCell', List.set_cons_zero, List.set_cons_succ, sets, fillL, Nat.reduceLeDiff, List.drop_succ_cons, List.drop_zero, List.take_succ_cons, List.take_zero, List.toList_toArray, argsE, Array.append_empty, Array.empty_append, List.getElem?_toArray, Int.reduceLT, Int.reduceLE, Int.reduceToNat, Int.reduceEq, Nat.reduceLT, w1, w2, w3, shl1, shl1_mask, d]
    simp [sel]
  · rw [hc] at w3
    have d : decide (((true.toNat : Nat) : Int) = 1) = true := rfl
    simp only [↓eD0, ↓eD1, eC0, eC1, eC2, eC3, eC4, eC5, eC6, wantedE, ↓reduceIte, Nat.reduceEqDiff, Option.map_some, Option.map_none, reread, List.nil_append, List.cons_append, List.map_cons, List.map_nil, List.length_nil, List.length_cons, Value.cells, List.getElem?_cons_zero, List.getElem?_cons_succ, outE, lks, lkR, rdV, neg1, evs, opt, Nat.reduceAdd, Nat.reduceMul, and_self, reduceCtorEq, List.size_toArray, List.all_cons, List.all_nil, Value.oneCell', List.set_cons_zero, List.set_cons_succ, sets, fillL, Nat.reduceLeDiff, List.drop_succ_cons, List.drop_zero, List.take_succ_cons, List.take_zero, List.toList_toArray, argsE, Array.append_empty, Array.empty_append, List.getElem?_toArray, Int.reduceLT, Int.reduceLE, Int.reduceToNat, Int.reduceEq, Nat.reduceLT, w1, w2, w3, shl1, shl1_mask, d, xor_pol]
    simp [sel]

theorem shr_bit {b : V40} {i : Nat} : IntKind.wrap .u64 (BitVec.ofInt (IntKind.bits .u64) ((b.toNat >>> i : Nat) : Int) &&& BitVec.ofInt (IntKind.bits .u64) 1).toNat = (((b.getLsbD i).toNat : Nat) : Int) := by
  have hb : b.toNat < 1099511627776 := b.isLt
  have : b.toNat >>> i ≤ b.toNat := Nat.shiftRight_le _ _
  rw [show BitVec.ofInt (IntKind.bits .u64) 1 = BitVec.ofInt (IntKind.bits .u64) ((1 : Nat) : Int) from rfl, and_u64 (by omega) (by omega)]
  congr 1
  rw [Nat.and_one_is_mod, ← BitVec.testBit_toNat, Nat.testBit_eq_decide_div_mod_eq, Nat.shiftRight_eq_div_pow]
  have := Nat.mod_lt (b.toNat / 2 ^ i) (by omega : 2 > 0)
  by_cases h : b.toNat / 2 ^ i % 2 = 1
  · rw [h]; rfl
  · rw [decide_eq_false h]; simp; omega

theorem times_app {a b : V40} {σ : H} (hG : NGlob σ) : App Tryd.prog (.func 43) #[] #[.int .u64 (a.toNat : Int), .int .u64 (b.toNat : Int)] σ fun v σ' => σ' = σ ∧ v = .int .u64 ((act b a).toNat : Int) := by
  refine App.of_sem mixed Tryd.func43 t43 k43 r43 (Nat.le_of_ble_eq_true rfl) ?_
  unfold s43
  have z : Value.int .u64 0 = .int .u64 ((0#40).toNat : Int) := rfl
  simp only [↓eD0, ↓eD1, eC0, eC1, eC2, eC3, eC4, eC5, eC6, wantedE, ↓reduceIte, Nat.reduceEqDiff, Option.map_some, Option.map_none, reread, List.nil_append, List.cons_append, List.map_cons, List.map_nil, List.length_nil, List.length_cons, Value.cells, List.getElem?_cons_zero, List.getElem?_cons_succ, outE, lks, lkR, rdV, neg1, evs, opt, Nat.reduceAdd, Nat.reduceMul, and_self, reduceCtorEq, List.size_toArray, List.all_cons, List.all_nil, Value.oneCell', List.set_cons_zero, List.set_cons_succ, sets, fillL, Nat.reduceLeDiff, List.drop_succ_cons, List.drop_zero, List.take_succ_cons, List.take_zero, List.toList_toArray, argsE, Array.append_empty, Array.empty_append, List.getElem?_toArray, Int.reduceLT, Int.reduceLE, Int.reduceToNat, Int.reduceEq, Nat.reduceLT]
  refine loop_for (J := fun t e τ => t ≤ 40 ∧ e = [(0, .int .u64 (a.toNat : Int)), (1, .int .u64 (b.toNat : Int)), (5, .int .u64 ((hsF 0#40 (bitsM b t) a).toNat : Int)), (6, .int .i64 (39 - (t : Int)))] ∧ τ = σ) 40 ⟨by omega, rfl, rfl⟩ ?_
  rintro t e τ ht ⟨_, rfl, rfl⟩
  by_cases hlt : t < 40
  · have dl : decide (0 ≤ 39 - (t : Int)) = true := by rw [decide_eq_true]; omega
    have hn : ¬ (39 - (t : Int)) < 0 := by omega
    have hw : IntKind.wrap .i64 (39 - (t : Int) - 1) = 39 - ((t + 1 : Nat) : Int) := by rw [wrap64' (by omega) (by omega)]; omega
    have htn : (39 - (t : Int)).toNat = 39 - t := by omega
    have hst : hsF 0#40 (bitsM b (t + 1)) a = shS (hsF 0#40 (bitsM b t) a) ^^^ sel (b.getLsbD (39 - t)) a := by rw [bitsM_succ, hsF_app]; rfl
    generalize hsF 0#40 (bitsM b t) a = o at hst ⊢
    have ho : o.toNat < 1099511627776 := o.isLt
    have hs : o.toNat <<< 1 < 2199023255552 := by rw [Nat.shiftLeft_eq]; omega
    have w1 : (((o.toNat <<< 1 : Nat) : Int)).fdiv (2 ^ min 40 (IntKind.bits .u64)) = ((o.msb.toNat : Nat) : Int) := by
      rw [shr_nat (by decide), ← msb_nat, Nat.shiftLeft_eq, Nat.shiftRight_eq_div_pow, Nat.shiftRight_eq_div_pow]
      congr 1
      omega
    have w2 : ((b.toNat : Int)).fdiv (2 ^ min (39 - t) (IntKind.bits .u64)) = ((b.toNat >>> (39 - t) : Nat) : Int) := shr_nat (by show 39 - t ≤ 64; omega)
    have hb1 : (0:Int) ≤ 1 ∧ (1:Int) < ((16 : Nat) : Int) := by decide
    have t1 : (1:Int).toNat = 1 := rfl
    have hg : rd1 τ ⟨1, 1, none⟩ = some (.int .u64 (pol.toNat : Int)) := hG.get (i := 1) (by omega)
    have ho1 : o.msb = false → ((o.toNat <<< 1 : Nat) : Int) = ((shS o).toNat : Int) := by
      intro hm
      have h39 := msb_nat (r := o)
      rw [hm, Nat.shiftRight_eq_div_pow] at h39
      simp only [Bool.toNat_false] at h39
      unfold shS
      rw [hm]
      simp only [sel, Bool.false_eq_true, if_false, BitVec.xor_zero, BitVec.toNat_shiftLeft]
      rw [Nat.shiftLeft_eq, Nat.mod_eq_of_lt (by omega)]
    have ho2 : o.msb = true → (o <<< 1) ^^^ pol = shS o := by
      intro hm
      unfold shS
      rw [hm]; rfl
    cases hm : o.msb <;> cases hbit : b.getLsbD (39 - t)
    all_goals
      rw [hm] at w1
      have w3 := shr_bit (b := b) (i := 39 - t)
      rw [hbit] at w3 hst
      have df : decide (((false.toNat : Nat) : Int) = 1) = false := rfl
      have dt : decide (((true.toNat : Nat) : Int) = 1) = true := rfl
    · have q := ho1 hm
      have w1q := w1
      rw [q] at w1q
      simp only [↓eD0, ↓eD1, eC0, eC1, eC2, eC3, eC4, eC5, eC6, wantedE, ↓reduceIte, Nat.reduceEqDiff, Option.map_some, Option.map_none, reread, List.nil_append, List.cons_append, List.map_cons, List.map_nil, List.length_nil, List.length_cons, Value.cells, List.getElem?_cons_zero, List.getElem?_cons_succ, outE, lks, lkR, rdV, neg1, evs, opt, Nat.reduceAdd, Nat.reduceMul, and_self, reduceCtorEq, List.size_toArray, List.all_cons, List.all_nil, Value.oneCell', List.set_cons_zero, List.set_cons_succ, sets, fillL, Nat.reduceLeDiff, List.drop_succ_cons, List.drop_zero, List.take_succ_cons, List.take_zero, List.toList_toArray, argsE, Array.append_empty, Array.empty_append, List.getElem?_toArray, Int.reduceLT, Int.reduceLE, Int.reduceToNat, Int.reduceEq, Nat.reduceLT, dl, shl1, w1, w1q, df, dt, hn, htn, w2, w3, hw, q]
      refine ⟨hlt, by omega, ?_⟩
      rw [hst]; simp [sel]
    · have q := ho1 hm
      have w1q := w1
      rw [q] at w1q
      simp only [↓eD0, ↓eD1, eC0, eC1, eC2, eC3, eC4, eC5, eC6, wantedE, ↓reduceIte, Nat.reduceEqDiff, Option.map_some, Option.map_none, reread, List.nil_append, List.cons_append, List.map_cons, List.map_nil, List.length_nil, List.length_cons, Value.cells, List.getElem?_cons_zero, List.getElem?_cons_succ, outE, lks, lkR, rdV, neg1, evs, opt, Nat.reduceAdd, Nat.reduceMul, and_self, reduceCtorEq, List.size_toArray, List.all_cons, List.all_nil, Value.oneCell', List.set_cons_zero, List.set_cons_succ, sets, fillL, Nat.reduceLeDiff, List.drop_succ_cons, List.drop_zero, List.take_succ_cons, List.take_zero, List.toList_toArray, argsE, Array.append_empty, Array.empty_append, List.getElem?_toArray, Int.reduceLT, Int.reduceLE, Int.reduceToNat, Int.reduceEq, Nat.reduceLT, dl, shl1, w1, w1q, df, dt, hn, htn, w2, w3, hw, q, xor_V]
      refine ⟨hlt, by omega, ?_⟩
      rw [hst]; simp [sel]
    · have q := ho2 hm
      simp only [↓eD0, ↓eD1, eC0, eC1, eC2, eC3, eC4, eC5, eC6, wantedE, ↓reduceIte, Nat.reduceEqDiff, Option.map_some, Option.map_none, reread, List.nil_append, List.cons_append, List.map_cons, List.map_nil, List.length_nil, List.length_cons, Value.cells, List.getElem?_cons_zero, List.getElem?_cons_succ, outE, lks, lkR, rdV, neg1, evs, opt, Nat.reduceAdd, Nat.reduceMul, and_self, reduceCtorEq, List.size_toArray, List.all_cons, List.all_nil, Value.oneCell', List.set_cons_zero, List.set_cons_succ, sets, fillL, Nat.reduceLeDiff, List.drop_succ_cons, List.drop_zero, List.take_succ_cons, List.take_zero, List.toList_toArray, argsE, Array.append_empty, Array.empty_append, List.getElem?_toArray, Int.reduceLT, Int.reduceLE, Int.reduceToNat, Int.reduceEq, Nat.reduceLT, dl, shl1, w1, df, dt, hn, htn, w2, w3, hw, hb1, t1, Nat.one_mul, hg, shl1_mask, xor_V, q]
      refine ⟨hlt, by omega, ?_⟩
      rw [hst]; simp [sel]
    · have q := ho2 hm
      simp only [↓eD0, ↓eD1, eC0, eC1, eC2, eC3, eC4, eC5, eC6, wantedE, ↓reduceIte, Nat.reduceEqDiff, Option.map_some, Option.map_none, reread, List.nil_append, List.cons_append, List.map_cons, List.map_nil, List.length_nil, List.length_cons, Value.cells, List.getElem?_cons_zero, List.getElem?_cons_succ, outE, lks, lkR, rdV, neg1, evs, opt, Nat.reduceAdd, Nat.reduceMul, and_self, reduceCtorEq, List.size_toArray, List.all_cons, List.all_nil, Value.oneCell', List.set_cons_zero, List.set_cons_succ, sets, fillL, Nat.reduceLeDiff, List.drop_succ_cons, List.drop_zero, List.take_succ_cons, List.take_zero, List.toList_toArray, argsE, Array.append_empty, Array.empty_append, List.getElem?_toArray, Int.reduceLT, Int.reduceLE, Int.reduceToNat, Int.reduceEq, Nat.reduceLT, dl, shl1, w1, df, dt, hn, htn, w2, w3, hw, hb1, t1, Nat.one_mul, hg, shl1_mask, xor_V, q]
      refine ⟨hlt, by omega, ?_⟩
      rw [hst]; simp [sel]
  · have : t = 40 := by omega
    subst this
    have dl : decide ((0:Int) ≤ 39 - ((40 : Nat) : Int)) = false := by decide
    simp only [↓eD0, ↓eD1, eC0, eC1, eC2, eC3, eC4, eC5, eC6, wantedE, ↓reduceIte, Nat.reduceEqDiff, Option.map_some, Option.map_none, reread, List.nil_append, List.cons_append, List.map_cons, List.map_nil, List.length_nil, List.length_cons, Value.cells, List.getElem?_cons_zero, List.getElem?_cons_succ, outE, lks, lkR, rdV, neg1, evs, opt, Nat.reduceAdd, Nat.reduceMul, and_self, reduceCtorEq, List.size_toArray, List.all_cons, List.all_nil, Value.oneCell', List.set_cons_zero, List.set_cons_succ, sets, fillL, Nat.reduceLeDiff, List.drop_succ_cons, List.drop_zero, List.take_succ_cons, List.take_zero, List.toList_toArray, argsE, Array.append_empty, Array.empty_append, List.getElem?_toArray, Int.reduceLT, Int.reduceLE, Int.reduceToNat, Int.reduceEq, Nat.reduceLT, dl]
    rfl

/-- Two checks joined, the second one of a message of so many bytes. -/
def joinF (a b n : Int) : Int := if n < 0 then 0 else (((shN (8 * n.toNat) (lowV a)) ^^^ lowV b).toNat : Int)

theorem join_app {a b n : Int} {σ : H} (hn : n < 9223372036854775808) (hG : NGlob σ) : App Tryd.prog (.func 26) #[] #[.int .i64 a, .int .i64 b, .int .i64 n] σ fun v σ' => σ' = σ ∧ v = .int .i64 (joinF a b n) := by
  refine App.of_sem mixed Tryd.func26 t26 k26 r26 (Nat.le_of_ble_eq_true rfl) ?_
  unfold s26 joinF
  by_cases hneg : n < 0
  · have d : decide (n < 0) = true := decide_eq_true hneg
    rw [if_pos hneg]
    simp only [↓eD0, ↓eD1, eC0, eC1, eC2, eC3, eC4, eC5, eC6, wantedE, ↓reduceIte, Nat.reduceEqDiff, Option.map_some, Option.map_none, reread, List.nil_append, List.cons_append, List.map_cons, List.map_nil, List.length_nil, List.length_cons, Value.cells, List.getElem?_cons_zero, List.getElem?_cons_succ, outE, lks, lkR, rdV, neg1, evs, opt, Nat.reduceAdd, Nat.reduceMul, and_self, reduceCtorEq, List.size_toArray, List.all_cons, List.all_nil, Value.oneCell', List.set_cons_zero, List.set_cons_succ, sets, fillL, Nat.reduceLeDiff, List.drop_succ_cons, List.drop_zero, List.take_succ_cons, List.take_zero, List.toList_toArray, argsE, Array.append_empty, Array.empty_append, List.getElem?_toArray, Int.reduceLT, Int.reduceLE, Int.reduceToNat, Int.reduceEq, Nat.reduceLT, d]
  have d : decide (n < 0) = false := decide_eq_false hneg
  rw [if_neg hneg]
  obtain ⟨N, rfl⟩ : ∃ N : Nat, n = (N : Int) := ⟨n.toNat, by omega⟩
  rw [Int.toNat_natCast]
  simp only [↓eD0, ↓eD1, eC0, eC1, eC2, eC3, eC4, eC5, eC6, wantedE, ↓reduceIte, Nat.reduceEqDiff, Option.map_some, Option.map_none, reread, List.nil_append, List.cons_append, List.map_cons, List.map_nil, List.length_nil, List.length_cons, Value.cells, List.getElem?_cons_zero, List.getElem?_cons_succ, outE, lks, lkR, rdV, neg1, evs, opt, Nat.reduceAdd, Nat.reduceMul, and_self, reduceCtorEq, List.size_toArray, List.all_cons, List.all_nil, Value.oneCell', List.set_cons_zero, List.set_cons_succ, sets, fillL, Nat.reduceLeDiff, List.drop_succ_cons, List.drop_zero, List.take_succ_cons, List.take_zero, List.toList_toArray, argsE, Array.append_empty, Array.empty_append, List.getElem?_toArray, Int.reduceLT, Int.reduceLE, Int.reduceToNat, Int.reduceEq, Nat.reduceLT, d, low_mask]
  refine loop_of (fun m e τ => ∃ (n' : Nat) (out p : V40) (q : Nat), e = [(1, .int .i64 b), (2, .int .i64 (n' : Int)), (7, .int .u64 (out.toNat : Int)), (8, .int .u64 (p.toNat : Int))] ∧ τ = σ ∧ n' < 9223372036854775808 ∧ n' < 2 ^ m ∧ Pow p q ∧ shN (q * n') out = shN (8 * N) (lowV a)) 63
    ⟨N, lowV a, 256#40, 8, rfl, rfl, by omega, by omega, pow_start, rfl⟩ ?_
  rintro m e τ ⟨n', out, p, q, rfl, rfl, h63, hm, hp, hq⟩
  by_cases h0 : n' = 0
  · subst h0
    have dz : decide ((0:Int) < ((0 : Nat) : Int)) = false := by decide
    rw [Nat.mul_zero] at hq
    rw [← hq]
    simp only [↓eD0, ↓eD1, eC0, eC1, eC2, eC3, eC4, eC5, eC6, wantedE, ↓reduceIte, Nat.reduceEqDiff, Option.map_some, Option.map_none, reread, List.nil_append, List.cons_append, List.map_cons, List.map_nil, List.length_nil, List.length_cons, Value.cells, List.getElem?_cons_zero, List.getElem?_cons_succ, outE, lks, lkR, rdV, neg1, evs, opt, Nat.reduceAdd, Nat.reduceMul, and_self, reduceCtorEq, List.size_toArray, List.all_cons, List.all_nil, Value.oneCell', List.set_cons_zero, List.set_cons_succ, sets, fillL, Nat.reduceLeDiff, List.drop_succ_cons, List.drop_zero, List.take_succ_cons, List.take_zero, List.toList_toArray, argsE, Array.append_empty, Array.empty_append, List.getElem?_toArray, Int.reduceLT, Int.reduceLE, Int.reduceToNat, Int.reduceEq, Nat.reduceLT, dz, low_mask, xor_V, wrap_V]
    rfl
  have dz : decide ((0:Int) < (n' : Int)) = true := by rw [decide_eq_true]; omega
  obtain ⟨m, rfl⟩ : ∃ m', m = m' + 1 := ⟨m - 1, by
    rcases Nat.eq_zero_or_pos m with h | h
    · subst h; omega
    · omega⟩
  have h1 : IntKind.wrap .i64 (BitVec.ofInt (IntKind.bits .i64) (n' : Int) &&& BitVec.ofInt (IntKind.bits .i64) 1).toNat = ((n' % 2 : Nat) : Int) := by
    rw [show BitVec.ofInt (IntKind.bits .i64) 1 = BitVec.ofInt (IntKind.bits .i64) ((1 : Nat) : Int) from rfl, bv_and (by show n' < 2 ^ 64; omega) (by decide), Nat.and_one_is_mod]
    exact wrap64' (by omega) (by omega)
  have h2 : ((n' : Int)).fdiv (2 ^ min 1 (IntKind.bits .i64)) = ((n' / 2 : Nat) : Int) := by
    rw [shr_nat (by decide), Nat.shiftRight_eq_div_pow]
  have hlt : n' / 2 < 2 ^ m := by rw [Nat.pow_succ] at hm; omega
  by_cases hodd : n' % 2 = 1
  · have dd : decide (((n' % 2 : Nat) : Int) = 1) = true := by rw [hodd]; rfl
    simp only [↓eD0, ↓eD1, eC0, eC1, eC2, eC3, eC4, eC5, eC6, wantedE, ↓reduceIte, Nat.reduceEqDiff, Option.map_some, Option.map_none, reread, List.nil_append, List.cons_append, List.map_cons, List.map_nil, List.length_nil, List.length_cons, Value.cells, List.getElem?_cons_zero, List.getElem?_cons_succ, outE, lks, lkR, rdV, neg1, evs, opt, Nat.reduceAdd, Nat.reduceMul, and_self, reduceCtorEq, List.size_toArray, List.all_cons, List.all_nil, Value.oneCell', List.set_cons_zero, List.set_cons_succ, sets, fillL, Nat.reduceLeDiff, List.drop_succ_cons, List.drop_zero, List.take_succ_cons, List.take_zero, List.toList_toArray, argsE, Array.append_empty, Array.empty_append, List.getElem?_toArray, Int.reduceLT, Int.reduceLE, Int.reduceToNat, Int.reduceEq, Nat.reduceLT, dz, h1, dd]
    refine appK_of (times_app (a := out) (b := p) hG) ?_
    rintro _ _ ⟨e2, rfl⟩
    rw [e2]
    clear e2
    simp only [↓eD0, ↓eD1, eC0, eC1, eC2, eC3, eC4, eC5, eC6, wantedE, ↓reduceIte, Nat.reduceEqDiff, Option.map_some, Option.map_none, reread, List.nil_append, List.cons_append, List.map_cons, List.map_nil, List.length_nil, List.length_cons, Value.cells, List.getElem?_cons_zero, List.getElem?_cons_succ, outE, lks, lkR, rdV, neg1, evs, opt, Nat.reduceAdd, Nat.reduceMul, and_self, reduceCtorEq, List.size_toArray, List.all_cons, List.all_nil, Value.oneCell', List.set_cons_zero, List.set_cons_succ, sets, fillL, Nat.reduceLeDiff, List.drop_succ_cons, List.drop_zero, List.take_succ_cons, List.take_zero, List.toList_toArray, argsE, Array.append_empty, Array.empty_append, List.getElem?_toArray, Int.reduceLT, Int.reduceLE, Int.reduceToNat, Int.reduceEq, Nat.reduceLT]
    refine appK_of (times_app (a := p) (b := p) hG) ?_
    rintro _ _ ⟨e2, rfl⟩
    rw [e2]
    clear e2
    simp only [↓eD0, ↓eD1, eC0, eC1, eC2, eC3, eC4, eC5, eC6, wantedE, ↓reduceIte, Nat.reduceEqDiff, Option.map_some, Option.map_none, reread, List.nil_append, List.cons_append, List.map_cons, List.map_nil, List.length_nil, List.length_cons, Value.cells, List.getElem?_cons_zero, List.getElem?_cons_succ, outE, lks, lkR, rdV, neg1, evs, opt, Nat.reduceAdd, Nat.reduceMul, and_self, reduceCtorEq, List.size_toArray, List.all_cons, List.all_nil, Value.oneCell', List.set_cons_zero, List.set_cons_succ, sets, fillL, Nat.reduceLeDiff, List.drop_succ_cons, List.drop_zero, List.take_succ_cons, List.take_zero, List.toList_toArray, argsE, Array.append_empty, Array.empty_append, List.getElem?_toArray, Int.reduceLT, Int.reduceLE, Int.reduceToNat, Int.reduceEq, Nat.reduceLT, h2]
    refine ⟨m, by omega, n' / 2, act p out, act p p, q + q, rfl, by omega, hlt, hp.mul hp, ?_⟩
    rw [hp out, ← shN_add, ← hq]
    congr 1
    have : n' = 2 * (n' / 2) + 1 := by omega
    generalize n' / 2 = k at this
    rw [this, Nat.mul_add, ← Nat.mul_assoc, Nat.mul_one, Nat.add_mul, Nat.mul_two, Nat.add_mul]
    omega
  · have dd : decide (((n' % 2 : Nat) : Int) = 1) = false := by rw [decide_eq_false]; omega
    simp only [↓eD0, ↓eD1, eC0, eC1, eC2, eC3, eC4, eC5, eC6, wantedE, ↓reduceIte, Nat.reduceEqDiff, Option.map_some, Option.map_none, reread, List.nil_append, List.cons_append, List.map_cons, List.map_nil, List.length_nil, List.length_cons, Value.cells, List.getElem?_cons_zero, List.getElem?_cons_succ, outE, lks, lkR, rdV, neg1, evs, opt, Nat.reduceAdd, Nat.reduceMul, and_self, reduceCtorEq, List.size_toArray, List.all_cons, List.all_nil, Value.oneCell', List.set_cons_zero, List.set_cons_succ, sets, fillL, Nat.reduceLeDiff, List.drop_succ_cons, List.drop_zero, List.take_succ_cons, List.take_zero, List.toList_toArray, argsE, Array.append_empty, Array.empty_append, List.getElem?_toArray, Int.reduceLT, Int.reduceLE, Int.reduceToNat, Int.reduceEq, Nat.reduceLT, dz, h1, dd]
    refine appK_of (times_app (a := p) (b := p) hG) ?_
    rintro _ _ ⟨e2, rfl⟩
    rw [e2]
    clear e2
    simp only [↓eD0, ↓eD1, eC0, eC1, eC2, eC3, eC4, eC5, eC6, wantedE, ↓reduceIte, Nat.reduceEqDiff, Option.map_some, Option.map_none, reread, List.nil_append, List.cons_append, List.map_cons, List.map_nil, List.length_nil, List.length_cons, Value.cells, List.getElem?_cons_zero, List.getElem?_cons_succ, outE, lks, lkR, rdV, neg1, evs, opt, Nat.reduceAdd, Nat.reduceMul, and_self, reduceCtorEq, List.size_toArray, List.all_cons, List.all_nil, Value.oneCell', List.set_cons_zero, List.set_cons_succ, sets, fillL, Nat.reduceLeDiff, List.drop_succ_cons, List.drop_zero, List.take_succ_cons, List.take_zero, List.toList_toArray, argsE, Array.append_empty, Array.empty_append, List.getElem?_toArray, Int.reduceLT, Int.reduceLE, Int.reduceToNat, Int.reduceEq, Nat.reduceLT, h2]
    refine ⟨m, by omega, n' / 2, out, act p p, q + q, rfl, by omega, hlt, hp.mul hp, ?_⟩
    rw [← hq]
    congr 1
    have : n' = 2 * (n' / 2) := by omega
    generalize n' / 2 = k at this
    rw [this, ← Nat.mul_assoc, Nat.add_mul, Nat.mul_two, Nat.add_mul]

theorem ref_join_app {a b n : Int} {σ : H} (hn : n < 1000000000000000) : App Tryd.prog (.func 27) #[] #[.int .i64 a, .int .i64 b, .int .i64 n] σ fun v σ' => σ' = σ ∧ v = .int .i64 (joinF a b n) := by
  refine App.of_sem mixed Tryd.func27 t27 k27 r27 (Nat.le_of_ble_eq_true rfl) ?_
  unfold s27 joinF
  by_cases hneg : n < 0
  · have d : decide (n < 0) = true := decide_eq_true hneg
    rw [if_pos hneg]
    simp only [↓eD0, ↓eD1, eC0, eC1, eC2, eC3, eC4, eC5, eC6, wantedE, ↓reduceIte, Nat.reduceEqDiff, Option.map_some, Option.map_none, reread, List.nil_append, List.cons_append, List.map_cons, List.map_nil, List.length_nil, List.length_cons, Value.cells, List.getElem?_cons_zero, List.getElem?_cons_succ, outE, lks, lkR, rdV, neg1, evs, opt, Nat.reduceAdd, Nat.reduceMul, and_self, reduceCtorEq, List.size_toArray, List.all_cons, List.all_nil, Value.oneCell', List.set_cons_zero, List.set_cons_succ, sets, fillL, Nat.reduceLeDiff, List.drop_succ_cons, List.drop_zero, List.take_succ_cons, List.take_zero, List.toList_toArray, argsE, Array.append_empty, Array.empty_append, List.getElem?_toArray, Int.reduceLT, Int.reduceLE, Int.reduceToNat, Int.reduceEq, Nat.reduceLT, d]
  have d : decide (n < 0) = false := decide_eq_false hneg
  rw [if_neg hneg]
  obtain ⟨N, rfl⟩ : ∃ N : Nat, n = (N : Int) := ⟨n.toNat, by omega⟩
  rw [Int.toNat_natCast]
  simp only [↓eD0, ↓eD1, eC0, eC1, eC2, eC3, eC4, eC5, eC6, wantedE, ↓reduceIte, Nat.reduceEqDiff, Option.map_some, Option.map_none, reread, List.nil_append, List.cons_append, List.map_cons, List.map_nil, List.length_nil, List.length_cons, Value.cells, List.getElem?_cons_zero, List.getElem?_cons_succ, outE, lks, lkR, rdV, neg1, evs, opt, Nat.reduceAdd, Nat.reduceMul, and_self, reduceCtorEq, List.size_toArray, List.all_cons, List.all_nil, Value.oneCell', List.set_cons_zero, List.set_cons_succ, sets, fillL, Nat.reduceLeDiff, List.drop_succ_cons, List.drop_zero, List.take_succ_cons, List.take_zero, List.toList_toArray, argsE, Array.append_empty, Array.empty_append, List.getElem?_toArray, Int.reduceLT, Int.reduceLE, Int.reduceToNat, Int.reduceEq, Nat.reduceLT, d, low_mask]
  have h8 : IntKind.wrap .i64 (8 * (N : Int)) = ((8 * N : Nat) : Int) := by rw [wrap64' (by omega) (by omega)]; omega
  refine loop_for (J := fun i e τ => i ≤ 8 * N ∧ e = [(1, .int .i64 b), (2, .int .i64 (N : Int)), (7, .int .u64 ((shN i (lowV a)).toNat : Int)), (8, .int .i64 (i : Int))] ∧ τ = σ) (8 * N) ⟨by omega, rfl, rfl⟩ ?_
  rintro i e τ hi ⟨_, rfl, rfl⟩
  by_cases hlt : i < 8 * N
  · have dl : decide ((i : Int) < ((8 * N : Nat) : Int)) = true := by rw [decide_eq_true]; omega
    have hw : IntKind.wrap .i64 ((i : Int) + 1) = ((i + 1 : Nat) : Int) := by rw [wrap64' (by omega) (by omega)]; omega
    simp only [↓eD0, ↓eD1, eC0, eC1, eC2, eC3, eC4, eC5, eC6, wantedE, ↓reduceIte, Nat.reduceEqDiff, Option.map_some, Option.map_none, reread, List.nil_append, List.cons_append, List.map_cons, List.map_nil, List.length_nil, List.length_cons, Value.cells, List.getElem?_cons_zero, List.getElem?_cons_succ, outE, lks, lkR, rdV, neg1, evs, opt, Nat.reduceAdd, Nat.reduceMul, and_self, reduceCtorEq, List.size_toArray, List.all_cons, List.all_nil, Value.oneCell', List.set_cons_zero, List.set_cons_succ, sets, fillL, Nat.reduceLeDiff, List.drop_succ_cons, List.drop_zero, List.take_succ_cons, List.take_zero, List.toList_toArray, argsE, Array.append_empty, Array.empty_append, List.getElem?_toArray, Int.reduceLT, Int.reduceLE, Int.reduceToNat, Int.reduceEq, Nat.reduceLT, h8, dl]
    refine appK_of (step_app (r := shN i (lowV a)) (b := false)) ?_
    rintro _ _ ⟨e2, rfl⟩
    rw [e2]
    clear e2
    simp only [↓eD0, ↓eD1, eC0, eC1, eC2, eC3, eC4, eC5, eC6, wantedE, ↓reduceIte, Nat.reduceEqDiff, Option.map_some, Option.map_none, reread, List.nil_append, List.cons_append, List.map_cons, List.map_nil, List.length_nil, List.length_cons, Value.cells, List.getElem?_cons_zero, List.getElem?_cons_succ, outE, lks, lkR, rdV, neg1, evs, opt, Nat.reduceAdd, Nat.reduceMul, and_self, reduceCtorEq, List.size_toArray, List.all_cons, List.all_nil, Value.oneCell', List.set_cons_zero, List.set_cons_succ, sets, fillL, Nat.reduceLeDiff, List.drop_succ_cons, List.drop_zero, List.take_succ_cons, List.take_zero, List.toList_toArray, argsE, Array.append_empty, Array.empty_append, List.getElem?_toArray, Int.reduceLT, Int.reduceLE, Int.reduceToNat, Int.reduceEq, Nat.reduceLT, hw]
    refine ⟨hlt, by omega, ?_⟩
    rw [shN_add]
    simp [stp, sel, shN]
  · have : i = 8 * N := by omega
    subst this
    have dl : decide (((8 * N : Nat) : Int) < ((8 * N : Nat) : Int)) = false := by rw [decide_eq_false]; omega
    simp only [↓eD0, ↓eD1, eC0, eC1, eC2, eC3, eC4, eC5, eC6, wantedE, ↓reduceIte, Nat.reduceEqDiff, Option.map_some, Option.map_none, reread, List.nil_append, List.cons_append, List.map_cons, List.map_nil, List.length_nil, List.length_cons, Value.cells, List.getElem?_cons_zero, List.getElem?_cons_succ, outE, lks, lkR, rdV, neg1, evs, opt, Nat.reduceAdd, Nat.reduceMul, and_self, reduceCtorEq, List.size_toArray, List.all_cons, List.all_nil, Value.oneCell', List.set_cons_zero, List.set_cons_succ, sets, fillL, Nat.reduceLeDiff, List.drop_succ_cons, List.drop_zero, List.take_succ_cons, List.take_zero, List.toList_toArray, argsE, Array.append_empty, Array.empty_append, List.getElem?_toArray, Int.reduceLT, Int.reduceLE, Int.reduceToNat, Int.reduceEq, Nat.reduceLT, h8, dl, low_mask, xor_V, wrap_V]
end Go.Proofs.YtoegoigfbldkoaaDoor

set_option linter.unusedSimpArgs false
set_option maxRecDepth 10000
set_option maxHeartbeats 4000000
namespace Go.Proofs.YtoegoigfbldkoaaDoor
open Go Go.Cn Go.RowKit
attribute [local irreducible] evL sem onG onI onV

def orW (a b : Int) : Int := IntKind.wrap .u32 (BitVec.ofInt 32 a ||| BitVec.ofInt 32 b).toNat
def xorW (a b : Int) : Int := IntKind.wrap .u32 (BitVec.ofInt 32 a ^^^ BitVec.ofInt 32 b).toNat
def andW (a b : Int) : Int := IntKind.wrap .u32 (BitVec.ofInt 32 a &&& BitVec.ofInt 32 b).toNat
def addW (a b : Int) : Int := IntKind.wrap .u32 (a + b)
def shlW (a : Int) (n : Nat) : Int := IntKind.wrap .u32 (a * 2 ^ (min n 32))
def shrW (a : Int) (n : Nat) : Int := a.fdiv (2 ^ (min n 32))
def rotrF (x : Int) (n : Nat) : Int := orW (shrW x n) (shlW x (32 - n))
theorem or_W {a b : Int} : IntKind.wrap .u32 (BitVec.ofInt (IntKind.bits .u32) a ||| BitVec.ofInt (IntKind.bits .u32) b).toNat = orW a b := rfl
theorem xor_W {a b : Int} : IntKind.wrap .u32 (BitVec.ofInt (IntKind.bits .u32) a ^^^ BitVec.ofInt (IntKind.bits .u32) b).toNat = xorW a b := rfl
theorem and_W {a b : Int} : IntKind.wrap .u32 (BitVec.ofInt (IntKind.bits .u32) a &&& BitVec.ofInt (IntKind.bits .u32) b).toNat = andW a b := rfl
theorem add_W {a b : Int} : IntKind.wrap .u32 (a + b) = addW a b := rfl
theorem shl_W {a : Int} {n : Nat} : IntKind.wrap .u32 (a * 2 ^ (min n (IntKind.bits .u32))) = shlW a n := rfl
theorem shr_W {a : Int} {n : Nat} : a.fdiv (2 ^ (min n (IntKind.bits .u32))) = shrW a n := rfl

/-- Cells of words. -/
def u32C (l : List Int) : List Value := l.map (.int .u32)
theorem u32C_len {l : List Int} : (u32C l).length = l.length := by simp [u32C]
theorem u32C_get {l : List Int} {i : Nat} (h : i < l.length) : (u32C l)[i]? = some (.int .u32 (l.getD i 0)) := by simp [u32C, h]
theorem u32C_set {l : List Int} {i : Nat} {x : Int} : (u32C l).set i (.int .u32 x) = u32C (l.set i x) := by simp [u32C]
theorem u32C_one {l : List Int} : (u32C l).all Value.oneCell' = true := by simp [u32C, Value.oneCell']
theorem u32C_rep {n : Nat} : List.replicate n (Value.int .u32 0) = u32C (List.replicate n 0) := by simp [u32C]
theorem digC_get {l : List Int} {i : Nat} (h : i < l.length) : (digC l)[i]? = some (.int .u8 (l.getD i 0)) := by simp [digC, h]
theorem digC_length {l : List Int} : (digC l).length = l.length := by simp [digC]
theorem digC_set {l : List Int} {i : Nat} {x : Int} : (digC l).set i (.int .u8 x) = digC (l.set i x) := by simp [digC]
theorem digC_rep {n : Nat} : List.replicate n (Value.int .u8 0) = digC (List.replicate n 0) := by simp [digC]

theorem rotr_app {σ : H} {x : Int} {n : Nat} {m : Int} (hm : m = n) (hn : n ≤ 32) : App Tryd.prog (.func 46) #[] #[.int .u32 x, .int .i64 m] σ fun v σ' => σ' = σ ∧ v = .int .u32 (rotrF x n) := by
  subst hm
  refine App.of_sem mixed Tryd.func46 t46 k46 r46 (Nat.le_of_ble_eq_true rfl) ?_
  have h1 : ¬ (n : Int) < 0 := by omega
  have h2 : IntKind.wrap .i64 (32 - (n:Int)) = ((32 - n : Nat) : Int) := by rw [wrap64 (by omega) (by omega)]; omega
  have h3 : ¬ ((32 - n : Nat) : Int) < 0 := by omega
  unfold s46
  simp only [↓eD0, ↓eD1, eC0, eC1, eC2, eC3, eC4, eC5, eC6, wantedE, ↓reduceIte, Nat.reduceEqDiff, Option.map_some, Option.map_none, reread, List.nil_append, List.cons_append, List.map_cons, List.map_nil, List.length_nil, List.length_cons, Value.cells, List.getElem?_cons_zero, List.getElem?_cons_succ, outE, lks, lkR, rdV, neg1, evs, opt, Nat.reduceAdd, Nat.reduceMul, and_self, reduceCtorEq, List.size_toArray, List.all_cons, List.all_nil, Value.oneCell', List.set_cons_zero, List.set_cons_succ, sets, fillL, Nat.reduceLeDiff, List.drop_succ_cons, List.drop_zero, List.take_succ_cons, List.take_zero, List.toList_toArray, argsE, Array.append_empty, Array.empty_append, List.getElem?_toArray, Int.reduceLT, Int.reduceLE, Int.reduceToNat, Int.reduceEq, Nat.reduceLT, h1, h2, h3, Int.toNat_natCast, or_W, shl_W, shr_W]
  rfl

/-- The word at t of a block of bytes. -/
def beW (b : List Int) (t : Nat) : Int :=
  orW (orW (orW (shlW (IntKind.wrap .u32 (b.getD (4 * t) 0)) 24) (shlW (IntKind.wrap .u32 (b.getD (4 * t + 1) 0)) 16)) (shlW (IntKind.wrap .u32 (b.getD (4 * t + 2) 0)) 8)) (IntKind.wrap .u32 (b.getD (4 * t + 3) 0))
def w1 (b : List Int) : Nat → List Int
  | 0 => List.replicate 64 0
  | t + 1 => (w1 b t).set t (beW b t)
def stepW (w : List Int) (i : Nat) : Int :=
  addW (addW (addW (w.getD i 0) (xorW (xorW (rotrF (w.getD (i + 1) 0) 7) (rotrF (w.getD (i + 1) 0) 18)) (shrW (w.getD (i + 1) 0) 3))) (w.getD (i + 9) 0)) (xorW (xorW (rotrF (w.getD (i + 14) 0) 17) (rotrF (w.getD (i + 14) 0) 19)) (shrW (w.getD (i + 14) 0) 10))
def w2 (w : List Int) : Nat → List Int
  | 0 => w
  | t + 1 => (w2 w t).set (t + 16) (stepW (w2 w t) t)
def wordsF (b : List Int) : List Int := w2 (w1 b 16) 48
theorem w1_len {b : List Int} : ∀ {t : Nat}, (w1 b t).length = 64
  | 0 => by simp [w1]
  | t + 1 => by rw [w1, List.length_set]; exact w1_len
theorem w2_len {w : List Int} (h : w.length = 64) : ∀ {t : Nat}, (w2 w t).length = 64
  | 0 => h
  | t + 1 => by rw [w2, List.length_set]; exact w2_len h
theorem wordsF_len {b : List Int} : (wordsF b).length = 64 := w2_len w1_len

theorem words_app {σ : H} {b : List Int} {sl : Value} (hr : Whl σ 1 sl 64 (digC b)) :
    App Tryd.prog (.func 45) #[] #[sl] σ fun v σ' => σ' = σ ∧ v = .agg (u32C (wordsF b)).toArray := by
  refine App.forget (App.of_sem mixed Tryd.func45 t45 k45 r45 (Nat.le_of_ble_eq_true rfl) ?_)
  have hb : b.length = 64 := by have := hr.1; simpa [digC] using this
  obtain ⟨base, cp, rfl⟩ := hr.slice
  obtain ⟨bk, off, rfl, hr0⟩ := hr.at (by omega)
  have hrd : ∀ l j, j < 64 → rd1 (ap σ l) ⟨bk, off + j, none⟩ = some (.int .u8 (b.getD j 0)) := fun l j hj => by
    exact rd1_row (rdN_old hr0) (digC_get (by omega))
  unfold s45
  have e0 : ap σ [] = σ := ap_nil
  rw [← e0]
  simp only [↓eD0, ↓eD1, eC0, eC1, eC2, eC3, eC4, eC5, eC6, wantedE, ↓reduceIte, Nat.reduceEqDiff, Option.map_some, Option.map_none, reread, List.nil_append, List.cons_append, List.map_cons, List.map_nil, List.length_nil, List.length_cons, Value.cells, List.getElem?_cons_zero, List.getElem?_cons_succ, outE, lks, lkR, rdV, neg1, evs, opt, Nat.reduceAdd, Nat.reduceMul, and_self, reduceCtorEq, List.size_toArray, List.all_cons, List.all_nil, Value.oneCell', List.set_cons_zero, List.set_cons_succ, sets, fillL, Nat.reduceLeDiff, List.drop_succ_cons, List.drop_zero, List.take_succ_cons, List.take_zero, List.toList_toArray, argsE, Array.append_empty, Array.empty_append, List.getElem?_toArray, Int.reduceLT, Int.reduceLE, Int.reduceToNat, Int.reduceEq, Nat.reduceLT, u32C_rep]
  refine loop_for (J := fun i e τ => i ≤ 16 ∧ ∃ ver, τ = ap σ [.cells 0 (u32C (List.replicate 64 0)) (0, 0), .cells ver (u32C (w1 b i)) (0, 0)] ∧
    e = [(0, .slice (some ⟨bk, off, none⟩) 64 cp), (2, .pointer (some ⟨σ.size, 0, none⟩)), (3, .pointer (some ⟨σ.size + 1, 0, none⟩)), (4, .int .i64 i)]) 16 ⟨by omega, 0, rfl, rfl⟩ ?_
  rintro i e τ hi ⟨_, ver, rfl, rfl⟩
  simp only [↓eD0, ↓eD1, eC0, eC1, eC2, eC3, eC4, eC5, eC6, wantedE, ↓reduceIte, Nat.reduceEqDiff, Option.map_some, Option.map_none, reread, List.nil_append, List.cons_append, List.map_cons, List.map_nil, List.length_nil, List.length_cons, Value.cells, List.getElem?_cons_zero, List.getElem?_cons_succ, outE, lks, lkR, rdV, neg1, evs, opt, Nat.reduceAdd, Nat.reduceMul, and_self, reduceCtorEq, List.size_toArray, List.all_cons, List.all_nil, Value.oneCell', List.set_cons_zero, List.set_cons_succ, sets, fillL, Nat.reduceLeDiff, List.drop_succ_cons, List.drop_zero, List.take_succ_cons, List.take_zero, List.toList_toArray, argsE, Array.append_empty, Array.empty_append, List.getElem?_toArray, Int.reduceLT, Int.reduceLE, Int.reduceToNat, Int.reduceEq, Nat.reduceLT]
  refine onI_dec (fun hlt => ?_) (fun hge => ?_)
  · have hlt : i < 16 := by omega
    have m0 : IntKind.wrap .i64 (4 * (i:Int)) = ((4 * i : Nat) : Int) := by rw [wrap64 (by omega) (by omega)]; omega
    have m1 : IntKind.wrap .i64 (((4 * i : Nat) : Int) + 1) = ((4 * i + 1 : Nat) : Int) := by rw [wrap64 (by omega) (by omega)]; omega
    have m2 : IntKind.wrap .i64 (((4 * i : Nat) : Int) + 2) = ((4 * i + 2 : Nat) : Int) := by rw [wrap64 (by omega) (by omega)]; omega
    have m3 : IntKind.wrap .i64 (((4 * i : Nat) : Int) + 3) = ((4 * i + 3 : Nat) : Int) := by rw [wrap64 (by omega) (by omega)]; omega
    have hw : IntKind.wrap .i64 ((i:Int) + 1) = ((i + 1 : Nat) : Int) := by rw [wrap64 (by omega) (by omega)]; omega
    have n0 : 4 * i < 64 := by omega
    have n1 : 4 * i + 1 < 64 := by omega
    have n2 : 4 * i + 2 < 64 := by omega
    have n3 : 4 * i + 3 < 64 := by omega
    have n63 : i ≤ 63 := by omega
    have q0 : (0:Int) ≤ ((4 * i : Nat) : Int) ∧ ((4 * i : Nat) : Int) < ((64:Nat):Int) := by omega
    have q1 : (0:Int) ≤ ((4 * i + 1 : Nat) : Int) ∧ ((4 * i + 1 : Nat) : Int) < ((64:Nat):Int) := by omega
    have q2 : (0:Int) ≤ ((4 * i + 2 : Nat) : Int) ∧ ((4 * i + 2 : Nat) : Int) < ((64:Nat):Int) := by omega
    have q3 : (0:Int) ≤ ((4 * i + 3 : Nat) : Int) ∧ ((4 * i + 3 : Nat) : Int) < ((64:Nat):Int) := by omega
    have q : (0:Int) ≤ (i : Int) ∧ (i : Int) < ((64:Nat):Int) := by omega
    simp only [↓eD0, ↓eD1, eC0, eC1, eC2, eC3, eC4, eC5, eC6, wantedE, ↓reduceIte, Nat.reduceEqDiff, Option.map_some, Option.map_none, reread, List.nil_append, List.cons_append, List.map_cons, List.map_nil, List.length_nil, List.length_cons, Value.cells, List.getElem?_cons_zero, List.getElem?_cons_succ, outE, lks, lkR, rdV, neg1, evs, opt, Nat.reduceAdd, Nat.reduceMul, and_self, reduceCtorEq, List.size_toArray, List.all_cons, List.all_nil, Value.oneCell', List.set_cons_zero, List.set_cons_succ, sets, fillL, Nat.reduceLeDiff, List.drop_succ_cons, List.drop_zero, List.take_succ_cons, List.take_zero, List.toList_toArray, argsE, Array.append_empty, Array.empty_append, List.getElem?_toArray, Int.reduceLT, Int.reduceLE, Int.reduceToNat, Int.reduceEq, Nat.reduceLT, m0, m1, m2, m3, q0, q1, q2, q3, q, hrd, n0, n1, n2, n3, n63, Int.toNat_natCast, or_W, shl_W, hw, w1_len, u32C_len, u32C_set, Nat.mul_one]
    exact ⟨hlt, by omega, _, rfl⟩
  · have : i = 16 := by omega
    subst this
    simp only [↓eD0, ↓eD1, eC0, eC1, eC2, eC3, eC4, eC5, eC6, wantedE, ↓reduceIte, Nat.reduceEqDiff, Option.map_some, Option.map_none, reread, List.nil_append, List.cons_append, List.map_cons, List.map_nil, List.length_nil, List.length_cons, Value.cells, List.getElem?_cons_zero, List.getElem?_cons_succ, outE, lks, lkR, rdV, neg1, evs, opt, Nat.reduceAdd, Nat.reduceMul, and_self, reduceCtorEq, List.size_toArray, List.all_cons, List.all_nil, Value.oneCell', List.set_cons_zero, List.set_cons_succ, sets, fillL, Nat.reduceLeDiff, List.drop_succ_cons, List.drop_zero, List.take_succ_cons, List.take_zero, List.toList_toArray, argsE, Array.append_empty, Array.empty_append, List.getElem?_toArray, Int.reduceLT, Int.reduceLE, Int.reduceToNat, Int.reduceEq, Nat.reduceLT]
    have hl0 : (w1 b 16).length = 64 := w1_len
    refine loop_for (J := fun i e τ => i ≤ 48 ∧ ∃ ver, τ = ap σ [.cells 0 (u32C (List.replicate 64 0)) (0, 0), .cells ver (u32C (w2 (w1 b 16) i)) (0, 0)] ∧
      e = [(2, .pointer (some ⟨σ.size, 0, none⟩)), (3, .pointer (some ⟨σ.size + 1, 0, none⟩)), (5, .int .i64 (i + 16 : Nat))]) 48 ⟨by omega, ver, rfl, rfl⟩ ?_
    rintro i e τ hi ⟨_, ver, rfl, rfl⟩
    simp only [↓eD0, ↓eD1, eC0, eC1, eC2, eC3, eC4, eC5, eC6, wantedE, ↓reduceIte, Nat.reduceEqDiff, Option.map_some, Option.map_none, reread, List.nil_append, List.cons_append, List.map_cons, List.map_nil, List.length_nil, List.length_cons, Value.cells, List.getElem?_cons_zero, List.getElem?_cons_succ, outE, lks, lkR, rdV, neg1, evs, opt, Nat.reduceAdd, Nat.reduceMul, and_self, reduceCtorEq, List.size_toArray, List.all_cons, List.all_nil, Value.oneCell', List.set_cons_zero, List.set_cons_succ, sets, fillL, Nat.reduceLeDiff, List.drop_succ_cons, List.drop_zero, List.take_succ_cons, List.take_zero, List.toList_toArray, argsE, Array.append_empty, Array.empty_append, List.getElem?_toArray, Int.reduceLT, Int.reduceLE, Int.reduceToNat, Int.reduceEq, Nat.reduceLT]
    refine onI_dec (fun hlt => ?_) (fun hge => ?_)
    · have hlt : i < 48 := by omega
      have m15 : IntKind.wrap .i64 (((i + 16 : Nat) : Int) - 15) = ((i + 1 : Nat) : Int) := by rw [wrap64 (by omega) (by omega)]; omega
      have m2 : IntKind.wrap .i64 (((i + 16 : Nat) : Int) - 2) = ((i + 14 : Nat) : Int) := by rw [wrap64 (by omega) (by omega)]; omega
      have m16 : IntKind.wrap .i64 (((i + 16 : Nat) : Int) - 16) = (i : Int) := by rw [wrap64 (by omega) (by omega)]; omega
      have m7 : IntKind.wrap .i64 (((i + 16 : Nat) : Int) - 7) = ((i + 9 : Nat) : Int) := by rw [wrap64 (by omega) (by omega)]; omega
      have hw : IntKind.wrap .i64 (((i + 16 : Nat) : Int) + 1) = ((i + 1 + 16 : Nat) : Int) := by rw [wrap64 (by omega) (by omega)]; omega
      have q15 : (0:Int) ≤ ((i + 1 : Nat) : Int) ∧ ((i + 1 : Nat) : Int) < ((64:Nat):Int) := by omega
      have q2 : (0:Int) ≤ ((i + 14 : Nat) : Int) ∧ ((i + 14 : Nat) : Int) < ((64:Nat):Int) := by omega
      have q16 : (0:Int) ≤ (i : Int) ∧ (i : Int) < ((64:Nat):Int) := by omega
      have q7 : (0:Int) ≤ ((i + 9 : Nat) : Int) ∧ ((i + 9 : Nat) : Int) < ((64:Nat):Int) := by omega
      have q0 : (0:Int) ≤ ((i + 16 : Nat) : Int) ∧ ((i + 16 : Nat) : Int) < ((64:Nat):Int) := by omega
      have hl : (w2 (w1 b 16) i).length = 64 := w2_len hl0
      have n0 : i + 16 + 1 ≤ 64 := by omega
      generalize hW : w2 (w1 b 16) i = W at hl
      have g1 : (u32C W)[i + 1]? = some (.int .u32 (W.getD (i + 1) 0)) := u32C_get (by omega)
      have g14 : (u32C W)[i + 14]? = some (.int .u32 (W.getD (i + 14) 0)) := u32C_get (by omega)
      have g0 : (u32C W)[i]? = some (.int .u32 (W.getD i 0)) := u32C_get (by omega)
      have g9 : (u32C W)[i + 9]? = some (.int .u32 (W.getD (i + 9) 0)) := u32C_get (by omega)
      simp only [↓eD0, ↓eD1, eC0, eC1, eC2, eC3, eC4, eC5, eC6, wantedE, ↓reduceIte, Nat.reduceEqDiff, Option.map_some, Option.map_none, reread, List.nil_append, List.cons_append, List.map_cons, List.map_nil, List.length_nil, List.length_cons, Value.cells, List.getElem?_cons_zero, List.getElem?_cons_succ, outE, lks, lkR, rdV, neg1, evs, opt, Nat.reduceAdd, Nat.reduceMul, and_self, reduceCtorEq, List.size_toArray, List.all_cons, List.all_nil, Value.oneCell', List.set_cons_zero, List.set_cons_succ, sets, fillL, Nat.reduceLeDiff, List.drop_succ_cons, List.drop_zero, List.take_succ_cons, List.take_zero, List.toList_toArray, argsE, Array.append_empty, Array.empty_append, List.getElem?_toArray, Int.reduceLT, Int.reduceLE, Int.reduceToNat, Int.reduceEq, Nat.reduceLT, m15, m2, m16, m7, q15, q2, q16, q7, Int.toNat_natCast, g1, g14, g0, g9, shr_W]
      refine appK_of (rotr_app (n := 7) rfl (by omega)) ?_
      rintro _ _ ⟨e2, rfl⟩
      rw [e2]
      clear e2
      simp only [↓eD0, ↓eD1, eC0, eC1, eC2, eC3, eC4, eC5, eC6, wantedE, ↓reduceIte, Nat.reduceEqDiff, Option.map_some, Option.map_none, reread, List.nil_append, List.cons_append, List.map_cons, List.map_nil, List.length_nil, List.length_cons, Value.cells, List.getElem?_cons_zero, List.getElem?_cons_succ, outE, lks, lkR, rdV, neg1, evs, opt, Nat.reduceAdd, Nat.reduceMul, and_self, reduceCtorEq, List.size_toArray, List.all_cons, List.all_nil, Value.oneCell', List.set_cons_zero, List.set_cons_succ, sets, fillL, Nat.reduceLeDiff, List.drop_succ_cons, List.drop_zero, List.take_succ_cons, List.take_zero, List.toList_toArray, argsE, Array.append_empty, Array.empty_append, List.getElem?_toArray, Int.reduceLT, Int.reduceLE, Int.reduceToNat, Int.reduceEq, Nat.reduceLT, m15, m2, m16, m7, q15, q2, q16, q7, Int.toNat_natCast, g1, g14, g0, g9, shr_W]
      refine appK_of (rotr_app (n := 18) rfl (by omega)) ?_
      rintro _ _ ⟨e2, rfl⟩
      rw [e2]
      clear e2
      simp only [↓eD0, ↓eD1, eC0, eC1, eC2, eC3, eC4, eC5, eC6, wantedE, ↓reduceIte, Nat.reduceEqDiff, Option.map_some, Option.map_none, reread, List.nil_append, List.cons_append, List.map_cons, List.map_nil, List.length_nil, List.length_cons, Value.cells, List.getElem?_cons_zero, List.getElem?_cons_succ, outE, lks, lkR, rdV, neg1, evs, opt, Nat.reduceAdd, Nat.reduceMul, and_self, reduceCtorEq, List.size_toArray, List.all_cons, List.all_nil, Value.oneCell', List.set_cons_zero, List.set_cons_succ, sets, fillL, Nat.reduceLeDiff, List.drop_succ_cons, List.drop_zero, List.take_succ_cons, List.take_zero, List.toList_toArray, argsE, Array.append_empty, Array.empty_append, List.getElem?_toArray, Int.reduceLT, Int.reduceLE, Int.reduceToNat, Int.reduceEq, Nat.reduceLT, m15, m2, m16, m7, q15, q2, q16, q7, Int.toNat_natCast, g1, g14, g0, g9, shr_W, xor_W]
      refine appK_of (rotr_app (n := 17) rfl (by omega)) ?_
      rintro _ _ ⟨e2, rfl⟩
      rw [e2]
      clear e2
      simp only [↓eD0, ↓eD1, eC0, eC1, eC2, eC3, eC4, eC5, eC6, wantedE, ↓reduceIte, Nat.reduceEqDiff, Option.map_some, Option.map_none, reread, List.nil_append, List.cons_append, List.map_cons, List.map_nil, List.length_nil, List.length_cons, Value.cells, List.getElem?_cons_zero, List.getElem?_cons_succ, outE, lks, lkR, rdV, neg1, evs, opt, Nat.reduceAdd, Nat.reduceMul, and_self, reduceCtorEq, List.size_toArray, List.all_cons, List.all_nil, Value.oneCell', List.set_cons_zero, List.set_cons_succ, sets, fillL, Nat.reduceLeDiff, List.drop_succ_cons, List.drop_zero, List.take_succ_cons, List.take_zero, List.toList_toArray, argsE, Array.append_empty, Array.empty_append, List.getElem?_toArray, Int.reduceLT, Int.reduceLE, Int.reduceToNat, Int.reduceEq, Nat.reduceLT, m15, m2, m16, m7, q15, q2, q16, q7, Int.toNat_natCast, g1, g14, g0, g9, shr_W, xor_W]
      refine appK_of (rotr_app (n := 19) rfl (by omega)) ?_
      rintro _ _ ⟨e2, rfl⟩
      rw [e2]
      clear e2
      simp only [↓eD0, ↓eD1, eC0, eC1, eC2, eC3, eC4, eC5, eC6, wantedE, ↓reduceIte, Nat.reduceEqDiff, Option.map_some, Option.map_none, reread, List.nil_append, List.cons_append, List.map_cons, List.map_nil, List.length_nil, List.length_cons, Value.cells, List.getElem?_cons_zero, List.getElem?_cons_succ, outE, lks, lkR, rdV, neg1, evs, opt, Nat.reduceAdd, Nat.reduceMul, and_self, reduceCtorEq, List.size_toArray, List.all_cons, List.all_nil, Value.oneCell', List.set_cons_zero, List.set_cons_succ, sets, fillL, Nat.reduceLeDiff, List.drop_succ_cons, List.drop_zero, List.take_succ_cons, List.take_zero, List.toList_toArray, argsE, Array.append_empty, Array.empty_append, List.getElem?_toArray, Int.reduceLT, Int.reduceLE, Int.reduceToNat, Int.reduceEq, Nat.reduceLT, m15, m2, m16, m7, q15, q2, q16, q7, q0, Int.toNat_natCast, g1, g14, g0, g9, shr_W, xor_W, add_W, u32C_len, hl, n0, u32C_set, hw]
      refine ⟨hlt, by omega, ver + 1, ?_⟩
      rw [w2, hW]
      rfl
    · have : i = 48 := by omega
      subst this
      have hl : (w2 (w1 b 16) 48).length = 64 := w2_len hl0
      have tk : (u32C (w2 (w1 b 16) 48)).take 64 = u32C (w2 (w1 b 16) 48) := List.take_of_length_le (by rw [u32C_len, hl]; omega)
      have st : sets (u32C (List.replicate 64 0)) 0 (u32C (w2 (w1 b 16) 48)) = u32C (w2 (w1 b 16) 48) := by
        rw [sets_all (by simp [u32C_len, hl]), u32C_len, hl]; simp [u32C]
      have ne : (u32C (w2 (w1 b 16) 48) = []) = False := by
        have : (u32C (w2 (w1 b 16) 48)).length = 64 := by rw [u32C_len, hl]
        simp only [eq_iff_iff, iff_false]; intro h; rw [h] at this; simp at this
      simp only [↓eD0, ↓eD1, eC0, eC1, eC2, eC3, eC4, eC5, eC6, wantedE, ↓reduceIte, Nat.reduceEqDiff, Option.map_some, Option.map_none, reread, List.nil_append, List.cons_append, List.map_cons, List.map_nil, List.length_nil, List.length_cons, Value.cells, List.getElem?_cons_zero, List.getElem?_cons_succ, outE, lks, lkR, rdV, neg1, evs, opt, Nat.reduceAdd, Nat.reduceMul, and_self, reduceCtorEq, List.size_toArray, List.all_cons, List.all_nil, Value.oneCell', List.set_cons_zero, List.set_cons_succ, sets, fillL, Nat.reduceLeDiff, List.drop_succ_cons, List.drop_zero, List.take_succ_cons, List.take_zero, List.toList_toArray, argsE, Array.append_empty, Array.empty_append, List.getElem?_toArray, Int.reduceLT, Int.reduceLE, Int.reduceToNat, Int.reduceEq, Nat.reduceLT, u32C_len, hl, tk, st, ne, u32C_one, List.length_replicate]
      refine ⟨.ap, ?_, rfl⟩
      simp [flat, u32C, flat.flat1]
end Go.Proofs.YtoegoigfbldkoaaDoor

set_option linter.unusedSimpArgs false
set_option maxRecDepth 10000
set_option maxHeartbeats 4000000
namespace Go.Proofs.YtoegoigfbldkoaaDoor
open Go Go.Cn Go.RowKit
attribute [local irreducible] evL sem onG onI onV

theorem digC_app {a b : List Int} : digC (a ++ b) = digC a ++ digC b := by simp [digC]
theorem append_bytes {σ0 σ : H} {v xa : Value} {o new : List Int} (hg : Grown σ0 σ 1 v (digC o) o.length) (h0 : σ0.size ≤ σ.size) (hx : xcells σ 1 xa = some (new.length, digC new)) (hb : o.length + new.length ≤ 140737488355328) :
    ∃ v' σ', append 1 1 v xa σ = some (v', σ') ∧ Ap σ0 σ σ' 1 v v' (digC (o ++ new)) (o ++ new).length := by
  obtain ⟨v', σ', h1, h2⟩ := append_grown hg (by omega) h0 hx (by simp [digC]) digC_one (bytes := 1) (by omega) (by omega)
  refine ⟨v', σ', h1, ?_⟩
  rw [digC_app, List.length_append]
  exact h2

theorem x_one {τ : H} {L : List Blk} {x : Int} {j : Nat} (h : L[j]? = some (.cells 0 [.int .u8 x] (0, 0))) : xcells (ap τ L) 1 (.slice (some ⟨τ.size + j, 0, none⟩) 1 1) = some ([x].length, digC [x]) := by
  simp [xcells, rdN_ap, h, rdcN, digC]

/-- The bytes of a number. -/
def varF : Nat → Int → List Int
  | 0, _ => []
  | f + 1, z => if 128 ≤ z then IntKind.wrap .u8 (IntKind.wrap .u8 (z.tmod 128) + 128) :: varF f (IntKind.wrap .u64 (z.tdiv 128)) else [IntKind.wrap .u8 z]
def zF (n : Int) : Int := if n < 0 then IntKind.wrap .u64 (IntKind.wrap .u64 (IntKind.wrap .u64 (IntKind.wrap .i64 (-1 - n)) * 2) + 1) else IntKind.wrap .u64 (IntKind.wrap .u64 n * 2)
def intF (n : Int) : List Int := varF 10 (zF n)
theorem varF_len : ∀ {f : Nat} {z : Int}, (varF f z).length ≤ f
  | 0, _ => by simp [varF]
  | f + 1, z => by
    rw [varF]
    split
    · have := varF_len (f := f) (z := IntKind.wrap .u64 (z.tdiv 128))
      simp; omega
    · simp
theorem intF_len {n : Int} : (intF n).length ≤ 10 := varF_len
theorem wrapU64_range {x : Int} : 0 ≤ IntKind.wrap .u64 x ∧ IntKind.wrap .u64 x < 18446744073709551616 := by
  simp only [IntKind.wrap, IntKind.signed, IntKind.bits]
  simp
  omega
theorem wrapU64 {x : Int} (h1 : 0 ≤ x) (h2 : x < 18446744073709551616) : IntKind.wrap .u64 x = x := by
  simp only [IntKind.wrap, IntKind.signed, IntKind.bits]
  simp
  omega
theorem zF_range {n : Int} : 0 ≤ zF n ∧ zF n < 18446744073709551616 := by
  unfold zF
  split <;> exact wrapU64_range

theorem int_app {σ : H} {n : Int} : App Tryd.prog (.func 54) #[] #[.int .i64 n] σ fun v σ' => Old σ σ' ∧ Grown σ σ' 1 v (digC (intF n)) (intF n).length := by
  refine App.of_sem mixed Tryd.func54 t54 k54 r54 (Nat.le_of_ble_eq_true rfl) ?_
  unfold s54
  have e0 : ap σ [] = σ := ap_nil
  rw [← e0]
  by_cases hn : n < 0
  all_goals
    simp only [↓eD0, ↓eD1, eC0, eC1, eC2, eC3, eC4, eC5, eC6, wantedE, ↓reduceIte, Nat.reduceEqDiff, Option.map_some, Option.map_none, reread, List.nil_append, List.cons_append, List.map_cons, List.map_nil, List.length_nil, List.length_cons, Value.cells, List.getElem?_cons_zero, List.getElem?_cons_succ, outE, lks, lkR, rdV, neg1, evs, opt, Nat.reduceAdd, Nat.reduceMul, and_self, reduceCtorEq, List.size_toArray, List.all_cons, List.all_nil, Value.oneCell', List.set_cons_zero, List.set_cons_succ, sets, fillL, Nat.reduceLeDiff, List.drop_succ_cons, List.drop_zero, List.take_succ_cons, List.take_zero, List.toList_toArray, argsE, Array.append_empty, Array.empty_append, List.getElem?_toArray, Int.reduceLT, Int.reduceLE, Int.reduceToNat, Int.reduceEq, Nat.reduceLT, hn]
    first
    | rw [show IntKind.wrap .u64 (IntKind.wrap .u64 (IntKind.wrap .u64 (IntKind.wrap .i64 (-1 - n)) * 2) + 1) = zF n by rw [zF, if_pos hn]]
    | rw [show IntKind.wrap .u64 (IntKind.wrap .u64 n * 2) = zF n by rw [zF, if_neg hn]]
    refine loop_of (fun m e τ => ∃ z o v, e = [(3, .int .u64 z), (4, v)] ∧ Old σ τ ∧ 0 ≤ z ∧ z < 128 ^ m ∧ z < 18446744073709551616 ∧ 1 ≤ m ∧ o.length + m = 10 ∧ o ++ varF m z = intF n ∧ Grown σ τ 1 v (digC o) o.length) 10
      ⟨zF n, [], _, rfl, .ap, zF_range.1, Int.lt_trans zF_range.2 (by decide), zF_range.2, by omega, rfl, rfl, .nil⟩ ?_
    rintro m e τ ⟨z, o, v, rfl, ho, z0, zm, z64, hm, hlen, hF, hg⟩
    have e1 : ap τ [] = τ := ap_nil
    obtain ⟨m, rfl⟩ : ∃ m', m = m' + 1 := ⟨m - 1, by omega⟩
    rw [← e1]
    simp only [↓eD0, ↓eD1, eC0, eC1, eC2, eC3, eC4, eC5, eC6, wantedE, ↓reduceIte, Nat.reduceEqDiff, Option.map_some, Option.map_none, reread, List.nil_append, List.cons_append, List.map_cons, List.map_nil, List.length_nil, List.length_cons, Value.cells, List.getElem?_cons_zero, List.getElem?_cons_succ, outE, lks, lkR, rdV, neg1, evs, opt, Nat.reduceAdd, Nat.reduceMul, and_self, reduceCtorEq, List.size_toArray, List.all_cons, List.all_nil, Value.oneCell', List.set_cons_zero, List.set_cons_succ, sets, fillL, Nat.reduceLeDiff, List.drop_succ_cons, List.drop_zero, List.take_succ_cons, List.take_zero, List.toList_toArray, argsE, Array.append_empty, Array.empty_append, List.getElem?_toArray, Int.reduceLT, Int.reduceLE, Int.reduceToNat, Int.reduceEq, Nat.reduceLT]
    refine onI_dec (fun hlt => ?_) (fun hge => ?_)
    · simp only [↓eD0, ↓eD1, eC0, eC1, eC2, eC3, eC4, eC5, eC6, wantedE, ↓reduceIte, Nat.reduceEqDiff, Option.map_some, Option.map_none, reread, List.nil_append, List.cons_append, List.map_cons, List.map_nil, List.length_nil, List.length_cons, Value.cells, List.getElem?_cons_zero, List.getElem?_cons_succ, outE, lks, lkR, rdV, neg1, evs, opt, Nat.reduceAdd, Nat.reduceMul, and_self, reduceCtorEq, List.size_toArray, List.all_cons, List.all_nil, Value.oneCell', List.set_cons_zero, List.set_cons_succ, sets, fillL, Nat.reduceLeDiff, List.drop_succ_cons, List.drop_zero, List.take_succ_cons, List.take_zero, List.toList_toArray, argsE, Array.append_empty, Array.empty_append, List.getElem?_toArray, Int.reduceLT, Int.reduceLE, Int.reduceToNat, Int.reduceEq, Nat.reduceLT]
      obtain ⟨v', τ', ha, hA⟩ := append_bytes (σ := ap τ [.cells 0 [.int .u8 (IntKind.wrap .u8 (IntKind.wrap .u8 (z.tmod 128) + 128))] (0, 0)]) (hg.old .ap) (Nat.le_trans ho.1 (Old.ap (l := _)).1) (x_one (j := 0) rfl) (by simp; omega)
      refine onV_of ha ?_
      simp only [↓eD0, ↓eD1, eC0, eC1, eC2, eC3, eC4, eC5, eC6, wantedE, ↓reduceIte, Nat.reduceEqDiff, Option.map_some, Option.map_none, reread, List.nil_append, List.cons_append, List.map_cons, List.map_nil, List.length_nil, List.length_cons, Value.cells, List.getElem?_cons_zero, List.getElem?_cons_succ, outE, lks, lkR, rdV, neg1, evs, opt, Nat.reduceAdd, Nat.reduceMul, and_self, reduceCtorEq, List.size_toArray, List.all_cons, List.all_nil, Value.oneCell', List.set_cons_zero, List.set_cons_succ, sets, fillL, Nat.reduceLeDiff, List.drop_succ_cons, List.drop_zero, List.take_succ_cons, List.take_zero, List.toList_toArray, argsE, Array.append_empty, Array.empty_append, List.getElem?_toArray, Int.reduceLT, Int.reduceLE, Int.reduceToNat, Int.reduceEq, Nat.reduceLT]
      have hq : z.tdiv 128 = z / 128 := Int.tdiv_eq_ediv_of_nonneg z0
      have hq2 : IntKind.wrap .u64 (z.tdiv 128) = z / 128 := by rw [hq]; exact wrapU64 (by omega) (by omega)
      have hm1 : 1 ≤ m := by
        rcases Nat.eq_zero_or_pos m with h | h
        · subst h; simp at zm; omega
        · exact h
      rw [Int.pow_succ] at zm
      refine ⟨m, by omega, z / 128, o ++ [IntKind.wrap .u8 (IntKind.wrap .u8 (z.tmod 128) + 128)], v', by rw [hq2], hA.Old (hg.old .ap) (ho.trans .ap), by omega, by omega, by omega, hm1, by simp; omega, ?_, hA.grown⟩
      rw [← hF, varF, if_pos hlt, hq2, List.append_assoc]
      rfl
    · simp only [↓eD0, ↓eD1, eC0, eC1, eC2, eC3, eC4, eC5, eC6, wantedE, ↓reduceIte, Nat.reduceEqDiff, Option.map_some, Option.map_none, reread, List.nil_append, List.cons_append, List.map_cons, List.map_nil, List.length_nil, List.length_cons, Value.cells, List.getElem?_cons_zero, List.getElem?_cons_succ, outE, lks, lkR, rdV, neg1, evs, opt, Nat.reduceAdd, Nat.reduceMul, and_self, reduceCtorEq, List.size_toArray, List.all_cons, List.all_nil, Value.oneCell', List.set_cons_zero, List.set_cons_succ, sets, fillL, Nat.reduceLeDiff, List.drop_succ_cons, List.drop_zero, List.take_succ_cons, List.take_zero, List.toList_toArray, argsE, Array.append_empty, Array.empty_append, List.getElem?_toArray, Int.reduceLT, Int.reduceLE, Int.reduceToNat, Int.reduceEq, Nat.reduceLT]
      obtain ⟨v', τ', ha, hA⟩ := append_bytes (σ := ap τ [.cells 0 [.int .u8 (IntKind.wrap .u8 z)] (0, 0)]) (hg.old .ap) (Nat.le_trans ho.1 (Old.ap (l := _)).1) (x_one (j := 0) rfl) (by simp; omega)
      refine onV_of ha ?_
      simp only [↓eD0, ↓eD1, eC0, eC1, eC2, eC3, eC4, eC5, eC6, wantedE, ↓reduceIte, Nat.reduceEqDiff, Option.map_some, Option.map_none, reread, List.nil_append, List.cons_append, List.map_cons, List.map_nil, List.length_nil, List.length_cons, Value.cells, List.getElem?_cons_zero, List.getElem?_cons_succ, outE, lks, lkR, rdV, neg1, evs, opt, Nat.reduceAdd, Nat.reduceMul, and_self, reduceCtorEq, List.size_toArray, List.all_cons, List.all_nil, Value.oneCell', List.set_cons_zero, List.set_cons_succ, sets, fillL, Nat.reduceLeDiff, List.drop_succ_cons, List.drop_zero, List.take_succ_cons, List.take_zero, List.toList_toArray, argsE, Array.append_empty, Array.empty_append, List.getElem?_toArray, Int.reduceLT, Int.reduceLE, Int.reduceToNat, Int.reduceEq, Nat.reduceLT]
      rw [varF, if_neg hge] at hF
      exact ⟨hA.Old (hg.old .ap) (ho.trans .ap), hF ▸ hA.grown⟩
end Go.Proofs.YtoegoigfbldkoaaDoor

set_option linter.unusedSimpArgs false
set_option maxRecDepth 10000
set_option maxHeartbeats 4000000
namespace Go.Proofs.YtoegoigfbldkoaaDoor
open Go Go.Cn Go.RowKit
attribute [local irreducible] evL sem onG onI onV

def i64C (l : List Int) : List Value := l.map (.int .i64)
theorem flat_take {α β : Type} {f : α → List β} {l : List α} {i : Nat} (h : i < l.length) : (l.take (i + 1)).flatMap f = (l.take i).flatMap f ++ f l[i] := by
  rw [List.take_succ_eq_append_getElem h, List.flatMap_append]; simp
theorem flat_len {α β : Type} {f : α → List β} {l : List α} {n i : Nat} (h : ∀ x, (f x).length ≤ n) : ((l.take i).flatMap f).length ≤ i * n := by
  induction i with
  | zero => simp
  | succ i ih =>
    by_cases hi : i < l.length
    · rw [flat_take hi, List.length_append, Nat.add_mul]
      have := h l[i]
      omega
    · rw [List.take_of_length_le (by omega)]
      rw [List.take_of_length_le (by omega)] at ih
      rw [Nat.add_mul]; omega

def strI (s : ByteArray) : List Int := s.data.toList.map fun b => (b.toNat : Int)
theorem strI_len {s : ByteArray} : (strI s).length = s.size := by simp [strI]
theorem byteCells_eq {s : ByteArray} : byteCells s = digC (strI s) := by simp [byteCells, digC, strI, Function.comp_def]
def bytesF (s : ByteArray) : List Int := intF s.size ++ strI s

theorem bytes_app {σ : H} {s : ByteArray} (hs : s.size < 100000000000000) : App Tryd.prog (.func 50) #[] #[.string s] σ fun v σ' => Old σ σ' ∧ Grown σ σ' 1 v (digC (bytesF s)) (bytesF s).length := by
  refine App.of_sem mixed Tryd.func50 t50 k50 r50 (Nat.le_of_ble_eq_true rfl) ?_
  unfold s50
  have e0 : ap σ [] = σ := ap_nil
  rw [← e0]
  simp only [↓eD0, ↓eD1, eC0, eC1, eC2, eC3, eC4, eC5, eC6, wantedE, ↓reduceIte, Nat.reduceEqDiff, Option.map_some, Option.map_none, reread, List.nil_append, List.cons_append, List.map_cons, List.map_nil, List.length_nil, List.length_cons, Value.cells, List.getElem?_cons_zero, List.getElem?_cons_succ, outE, lks, lkR, rdV, neg1, evs, opt, Nat.reduceAdd, Nat.reduceMul, and_self, reduceCtorEq, List.size_toArray, List.all_cons, List.all_nil, Value.oneCell', List.set_cons_zero, List.set_cons_succ, sets, fillL, Nat.reduceLeDiff, List.drop_succ_cons, List.drop_zero, List.take_succ_cons, List.take_zero, List.toList_toArray, argsE, Array.append_empty, Array.empty_append, List.getElem?_toArray, Int.reduceLT, Int.reduceLE, Int.reduceToNat, Int.reduceEq, Nat.reduceLT]
  refine appK_of int_app ?_
  rintro v σ1 ⟨ho1, hg1⟩
  simp only [↓eD0, ↓eD1, eC0, eC1, eC2, eC3, eC4, eC5, eC6, wantedE, ↓reduceIte, Nat.reduceEqDiff, Option.map_some, Option.map_none, reread, List.nil_append, List.cons_append, List.map_cons, List.map_nil, List.length_nil, List.length_cons, Value.cells, List.getElem?_cons_zero, List.getElem?_cons_succ, outE, lks, lkR, rdV, neg1, evs, opt, Nat.reduceAdd, Nat.reduceMul, and_self, reduceCtorEq, List.size_toArray, List.all_cons, List.all_nil, Value.oneCell', List.set_cons_zero, List.set_cons_succ, sets, fillL, Nat.reduceLeDiff, List.drop_succ_cons, List.drop_zero, List.take_succ_cons, List.take_zero, List.toList_toArray, argsE, Array.append_empty, Array.empty_append, List.getElem?_toArray, Int.reduceLT, Int.reduceLE, Int.reduceToNat, Int.reduceEq, Nat.reduceLT]
  have hlen2 : (intF s.size).length ≤ 10 := intF_len
  have hgg := hg1.from (σ0 := σ) (by simp [ap_size])
  have hoo : Old σ σ1 := Old.ap.trans ho1
  obtain ⟨v', τ', ha, hA⟩ := append_bytes (σ := σ1) (xa := .string s) (new := strI s) hgg hoo.1 (by simp [xcells, byteCells_eq, strI_len]) (by rw [strI_len]; omega)
  refine onV_of ha ?_
  simp only [↓eD0, ↓eD1, eC0, eC1, eC2, eC3, eC4, eC5, eC6, wantedE, ↓reduceIte, Nat.reduceEqDiff, Option.map_some, Option.map_none, reread, List.nil_append, List.cons_append, List.map_cons, List.map_nil, List.length_nil, List.length_cons, Value.cells, List.getElem?_cons_zero, List.getElem?_cons_succ, outE, lks, lkR, rdV, neg1, evs, opt, Nat.reduceAdd, Nat.reduceMul, and_self, reduceCtorEq, List.size_toArray, List.all_cons, List.all_nil, Value.oneCell', List.set_cons_zero, List.set_cons_succ, sets, fillL, Nat.reduceLeDiff, List.drop_succ_cons, List.drop_zero, List.take_succ_cons, List.take_zero, List.toList_toArray, argsE, Array.append_empty, Array.empty_append, List.getElem?_toArray, Int.reduceLT, Int.reduceLE, Int.reduceToNat, Int.reduceEq, Nat.reduceLT]
  have := hA.Old hgg hoo
  exact ⟨this, hA.grown.from (by simp [ap_size])⟩

def partsF (l : List ByteArray) : List Int := l.flatMap bytesF
def inputF (tag : Int) (l : List ByteArray) : List Int := IntKind.wrap .u8 tag :: partsF l

theorem input_app {σ : H} {sl : Value} {l : List ByteArray} {tag : Int} (hr : Whl σ 1 sl l.length (l.map .string)) (hl : l.length < 100) (hs : ∀ s ∈ l, s.size < 100000000000) :
    App Tryd.prog (.func 36) #[] #[.int .i64 tag, sl] σ fun v σ' => Old σ σ' ∧ Grown σ σ' 1 v (digC (inputF tag l)) (inputF tag l).length := by
  refine App.of_sem mixed Tryd.func36 t36 k36 r36 (Nat.le_of_ble_eq_true rfl) ?_
  obtain ⟨base, cp, rfl⟩ := hr.slice
  unfold s36
  have e0 : ap σ [] = σ := ap_nil
  rw [← e0]
  simp only [↓eD0, ↓eD1, eC0, eC1, eC2, eC3, eC4, eC5, eC6, wantedE, ↓reduceIte, Nat.reduceEqDiff, Option.map_some, Option.map_none, reread, List.nil_append, List.cons_append, List.map_cons, List.map_nil, List.length_nil, List.length_cons, Value.cells, List.getElem?_cons_zero, List.getElem?_cons_succ, outE, lks, lkR, rdV, neg1, evs, opt, Nat.reduceAdd, Nat.reduceMul, and_self, reduceCtorEq, List.size_toArray, List.all_cons, List.all_nil, Value.oneCell', List.set_cons_zero, List.set_cons_succ, sets, fillL, Nat.reduceLeDiff, List.drop_succ_cons, List.drop_zero, List.take_succ_cons, List.take_zero, List.toList_toArray, argsE, Array.append_empty, Array.empty_append, List.getElem?_toArray, Int.reduceLT, Int.reduceLE, Int.reduceToNat, Int.reduceEq, Nat.reduceLT]
  refine loop_for (J := fun i e τ => i ≤ l.length ∧ ∃ v, e = [(1, .slice base l.length cp), (5, v), (6, .int .i64 i)] ∧ Old σ τ ∧ ((l.take i).flatMap bytesF).length ≤ i * 100000000010 ∧ Grown σ τ 1 v (digC (inputF tag (l.take i))) (inputF tag (l.take i)).length) l.length
    ⟨by omega, _, rfl, .ap, by simp, Grown.lit (ver := 0) (by simp [inputF, partsF, digC]) (by decide) (Nat.le_refl _) (by rw [ap_new0]; rfl)⟩ ?_
  rintro i e τ hi ⟨_, v, rfl, ho, hlen, hg⟩
  have e1 : ap τ [] = τ := ap_nil
  rw [← e1]
  simp only [↓eD0, ↓eD1, eC0, eC1, eC2, eC3, eC4, eC5, eC6, wantedE, ↓reduceIte, Nat.reduceEqDiff, Option.map_some, Option.map_none, reread, List.nil_append, List.cons_append, List.map_cons, List.map_nil, List.length_nil, List.length_cons, Value.cells, List.getElem?_cons_zero, List.getElem?_cons_succ, outE, lks, lkR, rdV, neg1, evs, opt, Nat.reduceAdd, Nat.reduceMul, and_self, reduceCtorEq, List.size_toArray, List.all_cons, List.all_nil, Value.oneCell', List.set_cons_zero, List.set_cons_succ, sets, fillL, Nat.reduceLeDiff, List.drop_succ_cons, List.drop_zero, List.take_succ_cons, List.take_zero, List.toList_toArray, argsE, Array.append_empty, Array.empty_append, List.getElem?_toArray, Int.reduceLT, Int.reduceLE, Int.reduceToNat, Int.reduceEq, Nat.reduceLT]
  refine onI_dec (fun hlt => ?_) (fun hge => ?_)
  · have hlt : i < l.length := by omega
    obtain ⟨b, off, rfl, h1⟩ := hr.at (by omega)
    have hrd : ∀ L, rd1 (ap τ L) ⟨b, off + i, none⟩ = some (.string l[i]) := fun L => rd1_Old (ho.trans .ap) (rd1_row h1 (by simp [hlt]))
    have hb : (0:Int) ≤ (i:Int) ∧ (i:Int) < (l.length : Int) := by omega
    have hw : IntKind.wrap .i64 ((i:Int) + 1) = ((i + 1 : Nat) : Int) := by rw [wrap64 (by omega) (by omega)]; omega
    have hsi := hs l[i] (by simp)
    simp only [↓eD0, ↓eD1, eC0, eC1, eC2, eC3, eC4, eC5, eC6, wantedE, ↓reduceIte, Nat.reduceEqDiff, Option.map_some, Option.map_none, reread, List.nil_append, List.cons_append, List.map_cons, List.map_nil, List.length_nil, List.length_cons, Value.cells, List.getElem?_cons_zero, List.getElem?_cons_succ, outE, lks, lkR, rdV, neg1, evs, opt, Nat.reduceAdd, Nat.reduceMul, and_self, reduceCtorEq, List.size_toArray, List.all_cons, List.all_nil, Value.oneCell', List.set_cons_zero, List.set_cons_succ, sets, fillL, Nat.reduceLeDiff, List.drop_succ_cons, List.drop_zero, List.take_succ_cons, List.take_zero, List.toList_toArray, argsE, Array.append_empty, Array.empty_append, List.getElem?_toArray, Int.reduceLT, Int.reduceLE, Int.reduceToNat, Int.reduceEq, Nat.reduceLT, hb, Int.toNat_natCast, hrd]
    refine appK_of (bytes_app (by omega)) ?_
    rintro w τ2 ⟨ho2, hg2⟩
    simp only [↓eD0, ↓eD1, eC0, eC1, eC2, eC3, eC4, eC5, eC6, wantedE, ↓reduceIte, Nat.reduceEqDiff, Option.map_some, Option.map_none, reread, List.nil_append, List.cons_append, List.map_cons, List.map_nil, List.length_nil, List.length_cons, Value.cells, List.getElem?_cons_zero, List.getElem?_cons_succ, outE, lks, lkR, rdV, neg1, evs, opt, Nat.reduceAdd, Nat.reduceMul, and_self, reduceCtorEq, List.size_toArray, List.all_cons, List.all_nil, Value.oneCell', List.set_cons_zero, List.set_cons_succ, sets, fillL, Nat.reduceLeDiff, List.drop_succ_cons, List.drop_zero, List.take_succ_cons, List.take_zero, List.toList_toArray, argsE, Array.append_empty, Array.empty_append, List.getElem?_toArray, Int.reduceLT, Int.reduceLE, Int.reduceToNat, Int.reduceEq, Nat.reduceLT]
    have hlen3 : (bytesF l[i]).length ≤ 100000000010 := by
      have : (intF l[i].size).length ≤ 10 := intF_len
      rw [bytesF, List.length_append, strI_len]; omega
    have hoo : Old σ τ2 := (ho.trans .ap).trans ho2
    have hgg := (hg.old (Old.ap (l := []))).old ho2
    obtain ⟨v', τ', ha, hA⟩ := append_bytes (new := bytesF l[i]) hgg hoo.1 hg2.whl.x (by simp only [inputF, partsF, List.length_cons]; omega)
    refine onV_of ha ?_
    simp only [↓eD0, ↓eD1, eC0, eC1, eC2, eC3, eC4, eC5, eC6, wantedE, ↓reduceIte, Nat.reduceEqDiff, Option.map_some, Option.map_none, reread, List.nil_append, List.cons_append, List.map_cons, List.map_nil, List.length_nil, List.length_cons, Value.cells, List.getElem?_cons_zero, List.getElem?_cons_succ, outE, lks, lkR, rdV, neg1, evs, opt, Nat.reduceAdd, Nat.reduceMul, and_self, reduceCtorEq, List.size_toArray, List.all_cons, List.all_nil, Value.oneCell', List.set_cons_zero, List.set_cons_succ, sets, fillL, Nat.reduceLeDiff, List.drop_succ_cons, List.drop_zero, List.take_succ_cons, List.take_zero, List.toList_toArray, argsE, Array.append_empty, Array.empty_append, List.getElem?_toArray, Int.reduceLT, Int.reduceLE, Int.reduceToNat, Int.reduceEq, Nat.reduceLT, hw]
    refine ⟨hlt, by omega, v', rfl, hA.Old hgg hoo, by rw [flat_take hlt, List.length_append]; omega, ?_⟩
    have : inputF tag (l.take (i + 1)) = inputF tag (l.take i) ++ bytesF l[i] := by
      rw [inputF, inputF, partsF, partsF, flat_take hlt]; rfl
    rw [this]
    exact hA.grown
  · have : i = l.length := by omega
    subst this
    simp only [↓eD0, ↓eD1, eC0, eC1, eC2, eC3, eC4, eC5, eC6, wantedE, ↓reduceIte, Nat.reduceEqDiff, Option.map_some, Option.map_none, reread, List.nil_append, List.cons_append, List.map_cons, List.map_nil, List.length_nil, List.length_cons, Value.cells, List.getElem?_cons_zero, List.getElem?_cons_succ, outE, lks, lkR, rdV, neg1, evs, opt, Nat.reduceAdd, Nat.reduceMul, and_self, reduceCtorEq, List.size_toArray, List.all_cons, List.all_nil, Value.oneCell', List.set_cons_zero, List.set_cons_succ, sets, fillL, Nat.reduceLeDiff, List.drop_succ_cons, List.drop_zero, List.take_succ_cons, List.take_zero, List.toList_toArray, argsE, Array.append_empty, Array.empty_append, List.getElem?_toArray, Int.reduceLT, Int.reduceLE, Int.reduceToNat, Int.reduceEq, Nat.reduceLT]
    rw [List.take_length] at hg
    exact ⟨ho.trans .ap, hg.old .ap⟩
end Go.Proofs.YtoegoigfbldkoaaDoor

set_option linter.unusedSimpArgs false
set_option maxRecDepth 10000
set_option maxHeartbeats 4000000
namespace Go.Proofs.YtoegoigfbldkoaaDoor
open Go Go.Cn Go.RowKit
attribute [local irreducible] evL sem onG onI onV

def bytesS (d : List Int) : ByteArray := ⟨(d.map fun x => UInt8.ofNat x.toNat).toArray⟩
theorem bytesOf_dig : ∀ {d : List Int}, bytesOf (digC d) = some (d.map fun x => UInt8.ofNat x.toNat)
  | [] => rfl
  | x :: d => by
    have := bytesOf_dig (d := d)
    unfold digC at this ⊢
    simp [bytesOf, this]

theorem digs_app {σ : H} {d : List Int} (hd : d.length = 16) : App Tryd.prog (.func 39) #[] #[.agg (digC d).toArray] σ fun v σ' => σ' = σ ∧ v = .string (bytesS d) := by
  refine App.forget (App.of_sem mixed Tryd.func39 t39 k39 r39 (Nat.le_of_ble_eq_true rfl) ?_)
  unfold s39
  have e0 : ap σ [] = σ := ap_nil
  have hd' : (digC d).length = 16 := by simp [digC, hd]
  rw [← e0]
  simp only [↓eD0, ↓eD1, eC0, eC1, eC2, eC3, eC4, eC5, eC6, wantedE, ↓reduceIte, Nat.reduceEqDiff, Option.map_some, Option.map_none, reread, List.nil_append, List.cons_append, List.map_cons, List.map_nil, List.length_nil, List.length_cons, Value.cells, List.getElem?_cons_zero, List.getElem?_cons_succ, outE, lks, lkR, rdV, neg1, evs, opt, Nat.reduceAdd, Nat.reduceMul, and_self, reduceCtorEq, List.size_toArray, List.all_cons, List.all_nil, Value.oneCell', List.set_cons_zero, List.set_cons_succ, sets, fillL, Nat.reduceLeDiff, List.drop_succ_cons, List.drop_zero, List.take_succ_cons, List.take_zero, List.toList_toArray, argsE, Array.append_empty, Array.empty_append, List.getElem?_toArray, Int.reduceLT, Int.reduceLE, Int.reduceToNat, Int.reduceEq, Nat.reduceLT, hd']
  refine loop_for (J := fun i e τ => i ≤ 16 ∧ ∃ v, e = [(1, .pointer (some ⟨σ.size, 0, none⟩)), (3, v), (4, .int .i64 i)] ∧ Old σ τ ∧ τ[σ.size]? = some (.cells 0 (digC d) (0, 0)) ∧ Grown (sized (σ.size + 1)) τ 1 v (digC (d.take i)) (d.take i).length) 16
    ⟨by omega, _, rfl, .ap, ap_new0, .nil⟩ ?_
  rintro i e τ hi ⟨_, v, rfl, ho, hb0, hg⟩
  have e1 : ap τ [] = τ := ap_nil
  have hlt1 : σ.size < τ.size := (Array.getElem?_eq_some_iff.1 hb0).1
  rw [← e1]
  simp only [↓eD0, ↓eD1, eC0, eC1, eC2, eC3, eC4, eC5, eC6, wantedE, ↓reduceIte, Nat.reduceEqDiff, Option.map_some, Option.map_none, reread, List.nil_append, List.cons_append, List.map_cons, List.map_nil, List.length_nil, List.length_cons, Value.cells, List.getElem?_cons_zero, List.getElem?_cons_succ, outE, lks, lkR, rdV, neg1, evs, opt, Nat.reduceAdd, Nat.reduceMul, and_self, reduceCtorEq, List.size_toArray, List.all_cons, List.all_nil, Value.oneCell', List.set_cons_zero, List.set_cons_succ, sets, fillL, Nat.reduceLeDiff, List.drop_succ_cons, List.drop_zero, List.take_succ_cons, List.take_zero, List.toList_toArray, argsE, Array.append_empty, Array.empty_append, List.getElem?_toArray, Int.reduceLT, Int.reduceLE, Int.reduceToNat, Int.reduceEq, Nat.reduceLT]
  refine onI_dec (fun hlt => ?_) (fun hge => ?_)
  · have hlt : i < 16 := by omega
    have hrd : ∀ L, rd1 (ap τ L) ⟨σ.size, i, none⟩ = some (.int .u8 d[i]) := fun L => by rw [rd1_eq, ap_old hlt1, hb0, rdc1_cells]; simp [digC, hd, hlt]
    have hb : (0:Int) ≤ (i:Int) ∧ (i:Int) < ((16:Nat) : Int) := by omega
    have hw : IntKind.wrap .i64 ((i:Int) + 1) = ((i + 1 : Nat) : Int) := by rw [wrap64 (by omega) (by omega)]; omega
    simp only [↓eD0, ↓eD1, eC0, eC1, eC2, eC3, eC4, eC5, eC6, wantedE, ↓reduceIte, Nat.reduceEqDiff, Option.map_some, Option.map_none, reread, List.nil_append, List.cons_append, List.map_cons, List.map_nil, List.length_nil, List.length_cons, Value.cells, List.getElem?_cons_zero, List.getElem?_cons_succ, outE, lks, lkR, rdV, neg1, evs, opt, Nat.reduceAdd, Nat.reduceMul, and_self, reduceCtorEq, List.size_toArray, List.all_cons, List.all_nil, Value.oneCell', List.set_cons_zero, List.set_cons_succ, sets, fillL, Nat.reduceLeDiff, List.drop_succ_cons, List.drop_zero, List.take_succ_cons, List.take_zero, List.toList_toArray, argsE, Array.append_empty, Array.empty_append, List.getElem?_toArray, Int.reduceLT, Int.reduceLE, Int.reduceToNat, Int.reduceEq, Nat.reduceLT, hb, Int.toNat_natCast, hrd]
    obtain ⟨v', τ', ha, hA⟩ := append_bytes (σ := ap τ [.cells 0 [.int .u8 d[i]] (0, 0)]) (hg.old .ap) (by rw [sized_size, ap_size]; omega) (x_one (j := 0) rfl) (by simp; omega)
    refine onV_of ha ?_
    simp only [↓eD0, ↓eD1, eC0, eC1, eC2, eC3, eC4, eC5, eC6, wantedE, ↓reduceIte, Nat.reduceEqDiff, Option.map_some, Option.map_none, reread, List.nil_append, List.cons_append, List.map_cons, List.map_nil, List.length_nil, List.length_cons, Value.cells, List.getElem?_cons_zero, List.getElem?_cons_succ, outE, lks, lkR, rdV, neg1, evs, opt, Nat.reduceAdd, Nat.reduceMul, and_self, reduceCtorEq, List.size_toArray, List.all_cons, List.all_nil, Value.oneCell', List.set_cons_zero, List.set_cons_succ, sets, fillL, Nat.reduceLeDiff, List.drop_succ_cons, List.drop_zero, List.take_succ_cons, List.take_zero, List.toList_toArray, argsE, Array.append_empty, Array.empty_append, List.getElem?_toArray, Int.reduceLT, Int.reduceLE, Int.reduceToNat, Int.reduceEq, Nat.reduceLT, hw]
    refine ⟨hlt, by omega, v', rfl, hA.Old' (hg.old .ap) (by rw [sized_size]; omega) (ho.trans .ap), hA.low (hg.old .ap) (by rw [sized_size]; omega) ((ap_old hlt1).trans hb0), ?_⟩
    rw [List.take_succ_eq_append_getElem (by omega)]
    exact hA.grown
  · have : i = 16 := by omega
    subst this
    rw [List.take_of_length_le (by omega)] at hg
    obtain ⟨bs, cc, rfl⟩ := hg.slice
    obtain ⟨bk, off, rfl, h2⟩ := (hg.old (Old.ap (l := []))).whl.at (by omega)
    rw [Nat.mul_one] at h2
    simp only [↓eD0, ↓eD1, eC0, eC1, eC2, eC3, eC4, eC5, eC6, wantedE, ↓reduceIte, Nat.reduceEqDiff, Option.map_some, Option.map_none, reread, List.nil_append, List.cons_append, List.map_cons, List.map_nil, List.length_nil, List.length_cons, Value.cells, List.getElem?_cons_zero, List.getElem?_cons_succ, outE, lks, lkR, rdV, neg1, evs, opt, Nat.reduceAdd, Nat.reduceMul, and_self, reduceCtorEq, List.size_toArray, List.all_cons, List.all_nil, Value.oneCell', List.set_cons_zero, List.set_cons_succ, sets, fillL, Nat.reduceLeDiff, List.drop_succ_cons, List.drop_zero, List.take_succ_cons, List.take_zero, List.toList_toArray, argsE, Array.append_empty, Array.empty_append, List.getElem?_toArray, Int.reduceLT, Int.reduceLE, Int.reduceToNat, Int.reduceEq, Nat.reduceLT, h2, Option.bind_some, bytesOf_dig]
    exact ⟨ho.trans .ap, by simp [flat], rfl⟩

def be8 (n : Int) : List Int := (List.range 8).map fun i => IntKind.wrap .u8 (n.fdiv (2 ^ (min (56 - 8 * i) 64)))
def padN (n : Nat) : Nat := (119 - n % 64) % 64
def paddedF (b : List Int) : List Int := b ++ [128] ++ List.replicate (padN b.length) 0 ++ be8 (IntKind.wrap .u64 (8 * IntKind.wrap .u64 b.length))
theorem padded_len {b : List Int} : (paddedF b).length = b.length + 9 + padN b.length := by simp [paddedF, be8]; omega
theorem padded_64 {b : List Int} : (paddedF b).length % 64 = 0 := by rw [padded_len, padN]; omega

theorem padded_app {σ : H} {sl : Value} {b : List Int} (hr : Whl σ 1 sl b.length (digC b)) (hl : b.length < 100000000000000) :
    App Tryd.prog (.func 44) #[] #[sl] σ fun v σ' => Old σ σ' ∧ Grown σ σ' 1 v (digC (paddedF b)) (paddedF b).length := by
  refine App.of_sem mixed Tryd.func44 t44 k44 r44 (Nat.le_of_ble_eq_true rfl) ?_
  obtain ⟨base, cp, rfl⟩ := hr.slice
  unfold s44
  have e0 : ap σ [] = σ := ap_nil
  rw [← e0]
  simp only [↓eD0, ↓eD1, eC0, eC1, eC2, eC3, eC4, eC5, eC6, wantedE, ↓reduceIte, Nat.reduceEqDiff, Option.map_some, Option.map_none, reread, List.nil_append, List.cons_append, List.map_cons, List.map_nil, List.length_nil, List.length_cons, Value.cells, List.getElem?_cons_zero, List.getElem?_cons_succ, outE, lks, lkR, rdV, neg1, evs, opt, Nat.reduceAdd, Nat.reduceMul, and_self, reduceCtorEq, List.size_toArray, List.all_cons, List.all_nil, Value.oneCell', List.set_cons_zero, List.set_cons_succ, sets, fillL, Nat.reduceLeDiff, List.drop_succ_cons, List.drop_zero, List.take_succ_cons, List.take_zero, List.toList_toArray, argsE, Array.append_empty, Array.empty_append, List.getElem?_toArray, Int.reduceLT, Int.reduceLE, Int.reduceToNat, Int.reduceEq, Nat.reduceLT]
  obtain ⟨v1, τ1, ha1, hA1⟩ := append_bytes (σ0 := σ) (σ := ap σ [.cells 0 [] (0, 0)]) (v := .slice (some ⟨σ.size, 0, none⟩) 0 0) (o := []) (new := b) (Grown.lit (ver := 0) rfl (by decide) (Nat.le_refl _) (by rw [ap_new0]; rfl)) Old.ap.1 (hr.Old .ap).x (by simp; omega)
  have ho1 := hA1.Old (Grown.lit (ver := 0) rfl (by decide) (Nat.le_refl _) (by rw [ap_new0]; rfl)) .ap
  refine onV_of ha1 ?_
  have e1 : ap τ1 [] = τ1 := ap_nil
  rw [← e1]
  simp only [↓eD0, ↓eD1, eC0, eC1, eC2, eC3, eC4, eC5, eC6, wantedE, ↓reduceIte, Nat.reduceEqDiff, Option.map_some, Option.map_none, reread, List.nil_append, List.cons_append, List.map_cons, List.map_nil, List.length_nil, List.length_cons, Value.cells, List.getElem?_cons_zero, List.getElem?_cons_succ, outE, lks, lkR, rdV, neg1, evs, opt, Nat.reduceAdd, Nat.reduceMul, and_self, reduceCtorEq, List.size_toArray, List.all_cons, List.all_nil, Value.oneCell', List.set_cons_zero, List.set_cons_succ, sets, fillL, Nat.reduceLeDiff, List.drop_succ_cons, List.drop_zero, List.take_succ_cons, List.take_zero, List.toList_toArray, argsE, Array.append_empty, Array.empty_append, List.getElem?_toArray, Int.reduceLT, Int.reduceLE, Int.reduceToNat, Int.reduceEq, Nat.reduceLT]
  obtain ⟨v2, τ2, ha2, hA2⟩ := append_bytes (σ := ap τ1 [.cells 0 [.int .u8 128] (0, 0)]) (hA1.grown.old .ap) (Nat.le_trans ho1.1 (Old.ap (l := _)).1) (x_one (j := 0) rfl) (by simp; omega)
  refine onV_of ha2 ?_
  have ho2 := hA2.Old (hA1.grown.old .ap) (ho1.trans .ap)
  simp only [↓eD0, ↓eD1, eC0, eC1, eC2, eC3, eC4, eC5, eC6, wantedE, ↓reduceIte, Nat.reduceEqDiff, Option.map_some, Option.map_none, reread, List.nil_append, List.cons_append, List.map_cons, List.map_nil, List.length_nil, List.length_cons, Value.cells, List.getElem?_cons_zero, List.getElem?_cons_succ, outE, lks, lkR, rdV, neg1, evs, opt, Nat.reduceAdd, Nat.reduceMul, and_self, reduceCtorEq, List.size_toArray, List.all_cons, List.all_nil, Value.oneCell', List.set_cons_zero, List.set_cons_succ, sets, fillL, Nat.reduceLeDiff, List.drop_succ_cons, List.drop_zero, List.take_succ_cons, List.take_zero, List.toList_toArray, argsE, Array.append_empty, Array.empty_append, List.getElem?_toArray, Int.reduceLT, Int.reduceLE, Int.reduceToNat, Int.reduceEq, Nat.reduceLT]
  refine loop_for (J := fun i e τ => i ≤ padN b.length ∧ ∃ v, e = [(0, .slice base b.length cp), (3, v)] ∧ Old σ τ ∧ Grown σ τ 1 v (digC (b ++ [128] ++ List.replicate i 0)) (b ++ [128] ++ List.replicate i 0).length) (padN b.length)
    ⟨by omega, _, rfl, ho2, by simpa using hA2.grown⟩ ?_
  clear ha1 hA1 ho1 e1 ha2 hA2 ho2
  rintro i e τ hi ⟨_, v, rfl, ho, hg⟩
  have e1 : ap τ [] = τ := ap_nil
  rw [← e1]
  obtain ⟨bs, cc, rfl⟩ := hg.slice
  have hlen : (b ++ [128] ++ List.replicate i (0:Int)).length = b.length + 1 + i := by simp; omega
  have hpn : padN b.length < 64 := by unfold padN; omega
  have ht : (((b.length + 1 + i : Nat) : Int).tmod 64) = (((b.length + 1 + i) % 64 : Nat) : Int) := by
    rw [Int.tmod_eq_emod_of_nonneg (by omega)]; omega
  simp only [↓eD0, ↓eD1, eC0, eC1, eC2, eC3, eC4, eC5, eC6, wantedE, ↓reduceIte, Nat.reduceEqDiff, Option.map_some, Option.map_none, reread, List.nil_append, List.cons_append, List.map_cons, List.map_nil, List.length_nil, List.length_cons, Value.cells, List.getElem?_cons_zero, List.getElem?_cons_succ, outE, lks, lkR, rdV, neg1, evs, opt, Nat.reduceAdd, Nat.reduceMul, and_self, reduceCtorEq, List.size_toArray, List.all_cons, List.all_nil, Value.oneCell', List.set_cons_zero, List.set_cons_succ, sets, fillL, Nat.reduceLeDiff, List.drop_succ_cons, List.drop_zero, List.take_succ_cons, List.take_zero, List.toList_toArray, argsE, Array.append_empty, Array.empty_append, List.getElem?_toArray, Int.reduceLT, Int.reduceLE, Int.reduceToNat, Int.reduceEq, Nat.reduceLT, hlen, ht]
  by_cases h56 : (b.length + 1 + i) % 64 = 56
  · have hi2 : i = padN b.length := by unfold padN at hi ⊢; omega
    have hd : decide ((((b.length + 1 + i) % 64 : Nat) : Int) = 56) = true := by rw [h56]; rfl
    simp only [↓eD0, ↓eD1, eC0, eC1, eC2, eC3, eC4, eC5, eC6, wantedE, ↓reduceIte, Nat.reduceEqDiff, Option.map_some, Option.map_none, reread, List.nil_append, List.cons_append, List.map_cons, List.map_nil, List.length_nil, List.length_cons, Value.cells, List.getElem?_cons_zero, List.getElem?_cons_succ, outE, lks, lkR, rdV, neg1, evs, opt, Nat.reduceAdd, Nat.reduceMul, and_self, reduceCtorEq, List.size_toArray, List.all_cons, List.all_nil, Value.oneCell', List.set_cons_zero, List.set_cons_succ, sets, fillL, Nat.reduceLeDiff, List.drop_succ_cons, List.drop_zero, List.take_succ_cons, List.take_zero, List.toList_toArray, argsE, Array.append_empty, Array.empty_append, List.getElem?_toArray, Int.reduceLT, Int.reduceLE, Int.reduceToNat, Int.reduceEq, Nat.reduceLT, hd]
    have hlw : IntKind.wrap .i64 (b.length : Int) = b.length := wrap64 (by omega) (by omega)
    rw [hi2] at hg
    have hgl := hg.slice
    refine loop_for (J := fun i e τ => i ≤ 8 ∧ ∃ v, e = [(3, v), (4, .int .u64 (IntKind.wrap .u64 (8 * IntKind.wrap .u64 b.length))), (5, .int .i64 i)] ∧ Old σ τ ∧ Grown σ τ 1 v (digC (b ++ [128] ++ List.replicate (padN b.length) 0 ++ (be8 (IntKind.wrap .u64 (8 * IntKind.wrap .u64 b.length))).take i)) (b ++ [128] ++ List.replicate (padN b.length) 0 ++ (be8 (IntKind.wrap .u64 (8 * IntKind.wrap .u64 b.length))).take i).length) 8
      ⟨by omega, _, rfl, ho.trans .ap, ?_⟩ ?_
    · have := hg.old (Old.ap (l := []))
      subst hi2
      simpa using this
    · clear hg hgl
      rintro i e τ hi ⟨_, v, rfl, ho, hg⟩
      have e1 : ap τ [] = τ := ap_nil
      rw [← e1]
      simp only [↓eD0, ↓eD1, eC0, eC1, eC2, eC3, eC4, eC5, eC6, wantedE, ↓reduceIte, Nat.reduceEqDiff, Option.map_some, Option.map_none, reread, List.nil_append, List.cons_append, List.map_cons, List.map_nil, List.length_nil, List.length_cons, Value.cells, List.getElem?_cons_zero, List.getElem?_cons_succ, outE, lks, lkR, rdV, neg1, evs, opt, Nat.reduceAdd, Nat.reduceMul, and_self, reduceCtorEq, List.size_toArray, List.all_cons, List.all_nil, Value.oneCell', List.set_cons_zero, List.set_cons_succ, sets, fillL, Nat.reduceLeDiff, List.drop_succ_cons, List.drop_zero, List.take_succ_cons, List.take_zero, List.toList_toArray, argsE, Array.append_empty, Array.empty_append, List.getElem?_toArray, Int.reduceLT, Int.reduceLE, Int.reduceToNat, Int.reduceEq, Nat.reduceLT]
      refine onI_dec (fun hlt => ?_) (fun hge => ?_)
      · have hlt : i < 8 := by omega
        have q1 : IntKind.wrap .i64 (8 * (i:Int)) = ((8 * i : Nat) : Int) := by rw [wrap64 (by omega) (by omega)]; omega
        have q2 : IntKind.wrap .i64 (56 - ((8 * i : Nat) : Int)) = ((56 - 8 * i : Nat) : Int) := by rw [wrap64 (by omega) (by omega)]; omega
        have q3 : ¬ ((56 - 8 * i : Nat) : Int) < 0 := by omega
        have hw : IntKind.wrap .i64 ((i:Int) + 1) = ((i + 1 : Nat) : Int) := by rw [wrap64 (by omega) (by omega)]; omega
        simp only [↓eD0, ↓eD1, eC0, eC1, eC2, eC3, eC4, eC5, eC6, wantedE, ↓reduceIte, Nat.reduceEqDiff, Option.map_some, Option.map_none, reread, List.nil_append, List.cons_append, List.map_cons, List.map_nil, List.length_nil, List.length_cons, Value.cells, List.getElem?_cons_zero, List.getElem?_cons_succ, outE, lks, lkR, rdV, neg1, evs, opt, Nat.reduceAdd, Nat.reduceMul, and_self, reduceCtorEq, List.size_toArray, List.all_cons, List.all_nil, Value.oneCell', List.set_cons_zero, List.set_cons_succ, sets, fillL, Nat.reduceLeDiff, List.drop_succ_cons, List.drop_zero, List.take_succ_cons, List.take_zero, List.toList_toArray, argsE, Array.append_empty, Array.empty_append, List.getElem?_toArray, Int.reduceLT, Int.reduceLE, Int.reduceToNat, Int.reduceEq, Nat.reduceLT, q1, q2, q3, Int.toNat_natCast]
        have hbl : (be8 (IntKind.wrap .u64 (8 * IntKind.wrap .u64 b.length))).length = 8 := by simp [be8]
        have hbe : (be8 (IntKind.wrap .u64 (8 * IntKind.wrap .u64 b.length)))[i]? = some (IntKind.wrap .u8 ((IntKind.wrap .u64 (8 * IntKind.wrap .u64 b.length)).fdiv (2 ^ (min (56 - 8 * i) (IntKind.bits .u64))))) := by
          simp [be8, hlt, IntKind.bits]
        obtain ⟨v', τ', ha, hA⟩ := append_bytes (σ := ap τ [.cells 0 [.int .u8 (IntKind.wrap .u8 ((IntKind.wrap .u64 (8 * IntKind.wrap .u64 b.length)).fdiv (2 ^ (min (56 - 8 * i) (IntKind.bits .u64)))))] (0, 0)]) (hg.old .ap) (Nat.le_trans ho.1 (Old.ap (l := _)).1) (x_one (j := 0) rfl) (by simp; omega)
        refine onV_of ha ?_
        simp only [↓eD0, ↓eD1, eC0, eC1, eC2, eC3, eC4, eC5, eC6, wantedE, ↓reduceIte, Nat.reduceEqDiff, Option.map_some, Option.map_none, reread, List.nil_append, List.cons_append, List.map_cons, List.map_nil, List.length_nil, List.length_cons, Value.cells, List.getElem?_cons_zero, List.getElem?_cons_succ, outE, lks, lkR, rdV, neg1, evs, opt, Nat.reduceAdd, Nat.reduceMul, and_self, reduceCtorEq, List.size_toArray, List.all_cons, List.all_nil, Value.oneCell', List.set_cons_zero, List.set_cons_succ, sets, fillL, Nat.reduceLeDiff, List.drop_succ_cons, List.drop_zero, List.take_succ_cons, List.take_zero, List.toList_toArray, argsE, Array.append_empty, Array.empty_append, List.getElem?_toArray, Int.reduceLT, Int.reduceLE, Int.reduceToNat, Int.reduceEq, Nat.reduceLT, hw]
        refine ⟨hlt, by omega, v', rfl, hA.Old (hg.old .ap) (ho.trans .ap), ?_⟩
        have := @List.take_add_one _ (be8 (IntKind.wrap .u64 (8 * IntKind.wrap .u64 b.length))) i
        rw [hbe] at this
        rw [this, ← List.append_assoc]
        exact hA.grown
      · have : i = 8 := by omega
        subst this
        rw [List.take_of_length_le (by simp [be8])] at hg
        simp only [↓eD0, ↓eD1, eC0, eC1, eC2, eC3, eC4, eC5, eC6, wantedE, ↓reduceIte, Nat.reduceEqDiff, Option.map_some, Option.map_none, reread, List.nil_append, List.cons_append, List.map_cons, List.map_nil, List.length_nil, List.length_cons, Value.cells, List.getElem?_cons_zero, List.getElem?_cons_succ, outE, lks, lkR, rdV, neg1, evs, opt, Nat.reduceAdd, Nat.reduceMul, and_self, reduceCtorEq, List.size_toArray, List.all_cons, List.all_nil, Value.oneCell', List.set_cons_zero, List.set_cons_succ, sets, fillL, Nat.reduceLeDiff, List.drop_succ_cons, List.drop_zero, List.take_succ_cons, List.take_zero, List.toList_toArray, argsE, Array.append_empty, Array.empty_append, List.getElem?_toArray, Int.reduceLT, Int.reduceLE, Int.reduceToNat, Int.reduceEq, Nat.reduceLT]
        exact ⟨ho.trans .ap, hg.old .ap⟩
  · have hd : decide ((((b.length + 1 + i) % 64 : Nat) : Int) = 56) = false := by simp; omega
    simp only [↓eD0, ↓eD1, eC0, eC1, eC2, eC3, eC4, eC5, eC6, wantedE, ↓reduceIte, Nat.reduceEqDiff, Option.map_some, Option.map_none, reread, List.nil_append, List.cons_append, List.map_cons, List.map_nil, List.length_nil, List.length_cons, Value.cells, List.getElem?_cons_zero, List.getElem?_cons_succ, outE, lks, lkR, rdV, neg1, evs, opt, Nat.reduceAdd, Nat.reduceMul, and_self, reduceCtorEq, List.size_toArray, List.all_cons, List.all_nil, Value.oneCell', List.set_cons_zero, List.set_cons_succ, sets, fillL, Nat.reduceLeDiff, List.drop_succ_cons, List.drop_zero, List.take_succ_cons, List.take_zero, List.toList_toArray, argsE, Array.append_empty, Array.empty_append, List.getElem?_toArray, Int.reduceLT, Int.reduceLE, Int.reduceToNat, Int.reduceEq, Nat.reduceLT, hd]
    have hi2 : i < padN b.length := by unfold padN at hi ⊢; omega
    rw [← hlen]
    obtain ⟨v', τ', ha, hA⟩ := append_bytes (σ := ap τ [.cells 0 [.int .u8 0] (0, 0)]) (hg.old .ap) (Nat.le_trans ho.1 (Old.ap (l := _)).1) (x_one (j := 0) rfl) (by simp; omega)
    refine onV_of ha ?_
    simp only [↓eD0, ↓eD1, eC0, eC1, eC2, eC3, eC4, eC5, eC6, wantedE, ↓reduceIte, Nat.reduceEqDiff, Option.map_some, Option.map_none, reread, List.nil_append, List.cons_append, List.map_cons, List.map_nil, List.length_nil, List.length_cons, Value.cells, List.getElem?_cons_zero, List.getElem?_cons_succ, outE, lks, lkR, rdV, neg1, evs, opt, Nat.reduceAdd, Nat.reduceMul, and_self, reduceCtorEq, List.size_toArray, List.all_cons, List.all_nil, Value.oneCell', List.set_cons_zero, List.set_cons_succ, sets, fillL, Nat.reduceLeDiff, List.drop_succ_cons, List.drop_zero, List.take_succ_cons, List.take_zero, List.toList_toArray, argsE, Array.append_empty, Array.empty_append, List.getElem?_toArray, Int.reduceLT, Int.reduceLE, Int.reduceToNat, Int.reduceEq, Nat.reduceLT]
    refine ⟨hi2, by omega, v', rfl, hA.Old (hg.old .ap) (ho.trans .ap), ?_⟩
    have : b ++ [128] ++ List.replicate (i + 1) (0:Int) = b ++ [128] ++ List.replicate i 0 ++ [0] := by rw [List.replicate_succ', ← List.append_assoc]
    rw [this]
    exact hA.grown
end Go.Proofs.YtoegoigfbldkoaaDoor
