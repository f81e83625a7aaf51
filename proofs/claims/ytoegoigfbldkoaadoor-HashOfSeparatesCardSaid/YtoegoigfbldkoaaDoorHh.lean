/- Walks and plain laws. Conditions: none. -/
import Derived.Test.YtoegoigfbldkoaaDoorHr
set_option linter.all false
set_option linter.unusedSimpArgs false
set_option linter.unusedVariables false
set_option maxRecDepth 10000
set_option maxHeartbeats 2000000
namespace Go.Proofs.YtoegoigfbldkoaaDoor
open Go Go.Cn Go.RowKit
attribute [local irreducible] evL sem onG onI onV

def natI (l : List Nat) : List Int := l.map fun x : Nat => (x : Int)
theorem natI_length {l : List Nat} : (natI l).length = l.length := List.length_map ..
theorem natI_byt {l : List Nat} (h : ∀ x ∈ l, x < 256) : Byt (natI l) := by
  intro x hx
  obtain ⟨y, hy, rfl⟩ := List.mem_map.1 hx
  have := h y hy
  omega
theorem natI_nat {l : List Nat} : (natI l).map Int.toNat = l := by
  unfold natI
  rw [List.map_map]
  exact (List.map_congr_left fun x _ => Int.toNat_natCast x).trans (List.map_id _)
theorem byt_nat {b : List Int} (h : Byt b) : natI (b.map Int.toNat) = b ∧ ∀ x ∈ b.map Int.toNat, x < 256 := by
  constructor
  · unfold natI
    rw [List.map_map]
    refine (List.map_congr_left fun x hx => ?_).trans (List.map_id _)
    have := h x hx
    show ((x.toNat : Nat) : Int) = id x
    rw [id]; omega
  · intro x hx
    obtain ⟨y, hy, rfl⟩ := List.mem_map.1 hx
    have := h y hy
    omega
/-- The exclusive or of the first n bytes. -/
def xorN (a b : List Nat) (n : Nat) : List Nat := (List.range n).map fun i => a.getD i 0 ^^^ b.getD i 0
theorem xorN_length {a b : List Nat} {n : Nat} : (xorN a b n).length = n := by simp [xorN]
theorem xorN_succ {a b : List Nat} {n : Nat} : xorN a b (n + 1) = xorN a b n ++ [a.getD n 0 ^^^ b.getD n 0] := by simp [xorN, List.range_succ]
theorem getD_lt {l : List Nat} (h : ∀ x ∈ l, x < 256) {i : Nat} : l.getD i 0 < 256 := by
  rw [List.getD_eq_getElem?_getD]
  cases hi : l[i]? with
  | none => exact by decide
  | some x => exact h x (List.mem_of_getElem? hi)
theorem xorN_lt {a b : List Nat} {n : Nat} (ha : ∀ x ∈ a, x < 256) (hb : ∀ x ∈ b, x < 256) : ∀ x ∈ xorN a b n, x < 256 := by
  intro x hx
  obtain ⟨i, _, rfl⟩ := List.mem_map.1 hx
  exact Nat.xor_lt_two_pow (n := 8) (getD_lt ha) (getD_lt hb)
theorem natI_app {a b : List Nat} : natI (a ++ b) = natI a ++ natI b := List.map_append ..

theorem xor_app {a b : List Nat} {sa sb : Value} {σ : H} (ha : ∀ x ∈ a, x < 256) (hb : ∀ x ∈ b, x < 256) (ra : Whl σ 1 sa a.length (digC (natI a))) (rb : Whl σ 1 sb b.length (digC (natI b))) (hl : a.length < 1000000000) :
    App Tryd.prog (.func 28) #[] #[sa, sb] σ fun v σ' => Old σ σ' ∧ Grown σ σ' 1 v (digC (natI (xorN a b a.length))) (natI (xorN a b a.length)).length := by
  refine App.of_sem mixed Tryd.func28 t28 k28 r28 (Nat.le_of_ble_eq_true rfl) ?_
  unfold s28
  obtain ⟨ba, ca, rfl⟩ := ra.slice
  obtain ⟨bb, cb, rfl⟩ := rb.slice
  simp only [↓eD0, ↓eD1, eC0, eC1, eC2, eC3, eC4, eC5, eC6, wantedE, ↓reduceIte, Nat.reduceEqDiff, Option.map_some, Option.map_none, reread, List.nil_append, List.cons_append, List.map_cons, List.map_nil, List.length_nil, List.length_cons, Value.cells, List.getElem?_cons_zero, List.getElem?_cons_succ, outE, lks, lkR, rdV, neg1, evs, opt, Nat.reduceAdd, Nat.reduceMul, and_self, reduceCtorEq, List.size_toArray, List.all_cons, List.all_nil, Value.oneCell', List.set_cons_zero, List.set_cons_succ, sets, fillL, Nat.reduceLeDiff, List.drop_succ_cons, List.drop_zero, List.take_succ_cons, List.take_zero, List.toList_toArray, argsE, Array.append_empty, Array.empty_append, List.getElem?_toArray, Int.reduceLT, Int.reduceLE, Int.reduceToNat, Int.reduceEq, Nat.reduceLT]
  refine loop_for (J := fun i e τ => i ≤ a.length ∧ ∃ v, e = [(0, .slice ba a.length ca), (1, .slice bb b.length cb), (5, v), (6, .int .i64 (i : Int))] ∧ Old σ τ ∧ Grown σ τ 1 v (digC (natI (xorN a b i))) (natI (xorN a b i)).length) a.length ⟨by omega, _, rfl, .refl, .nil⟩ ?_
  rintro i e τ hi ⟨_, v, rfl, ho, hg⟩
  by_cases hlt : i < a.length
  · have dl : decide ((i : Int) < (a.length : Int)) = true := by rw [decide_eq_true]; omega
    have hbd : (0:Int) ≤ (i:Int) ∧ (i:Int) < (a.length : Int) := by omega
    have hw : IntKind.wrap .i64 ((i:Int) + 1) = ((i + 1 : Nat) : Int) := by rw [wrap64' (by omega) (by omega)]; omega
    obtain ⟨bk, off, rfl, h1⟩ := (ra.Old ho).at (by omega)
    have hrd : rd1 τ ⟨bk, off + i, none⟩ = some (.int .u8 (a.getD i 0 : Nat)) := rd1_row h1 (by simp [digC, natI, hlt])
    have step : ∀ (x : Nat), x = a.getD i 0 ^^^ b.getD i 0 → ∃ v' τ', append 1 1 v (.slice (some ⟨τ.size, 0, none⟩) 1 1) (ap τ [.cells 0 [.int .u8 (x : Int)] (0, 0)]) = some (v', τ') ∧ Old σ τ' ∧ Grown σ τ' 1 v' (digC (natI (xorN a b (i + 1)))) (natI (xorN a b (i + 1))).length := by
      rintro x rfl
      have hx2 : xcells (ap τ [.cells 0 [.int .u8 ((a.getD i 0 ^^^ b.getD i 0 : Nat) : Int)] (0, 0)]) 1 (.slice (some ⟨τ.size, 0, none⟩) 1 1) = some ([((a.getD i 0 ^^^ b.getD i 0 : Nat) : Int)].length, digC [((a.getD i 0 ^^^ b.getD i 0 : Nat) : Int)]) := by
        simp [xcells, rdN_ap0, rdcN, digC]
      obtain ⟨v', τ', hap, hA⟩ := append_bytes (σ := ap τ [.cells 0 [.int .u8 ((a.getD i 0 ^^^ b.getD i 0 : Nat) : Int)] (0, 0)]) (hg.old .ap) (Nat.le_trans ho.1 (Old.ap (l := _)).1) hx2 (by rw [natI_length, xorN_length]; simp; omega)
      refine ⟨v', τ', hap, hA.Old (hg.old .ap) (ho.trans .ap), ?_⟩
      rw [xorN_succ, natI_app]
      exact hA.grown
    rw [← ap_nil (σ := τ)]
    rw [← ap_nil (σ := τ)] at hrd
    by_cases hlb : i < b.length
    · have db : decide ((i : Int) < (b.length : Int)) = true := by rw [decide_eq_true]; omega
      have hbe : (0:Int) ≤ (i:Int) ∧ (i:Int) < (b.length : Int) := by omega
      obtain ⟨bk', off', rfl, h1'⟩ := (rb.Old ho).at (by omega)
      have hrd' : rd1 (ap τ []) ⟨bk', off' + i, none⟩ = some (.int .u8 (b.getD i 0 : Nat)) := by rw [ap_nil]; exact rd1_row h1' (by simp [digC, natI, hlb])
      obtain ⟨v', τ', hap, hO, hG⟩ := step _ rfl
      simp only [↓eD0, ↓eD1, eC0, eC1, eC2, eC3, eC4, eC5, eC6, wantedE, ↓reduceIte, Nat.reduceEqDiff, Option.map_some, Option.map_none, reread, List.nil_append, List.cons_append, List.map_cons, List.map_nil, List.length_nil, List.length_cons, Value.cells, List.getElem?_cons_zero, List.getElem?_cons_succ, outE, lks, lkR, rdV, neg1, evs, opt, Nat.reduceAdd, Nat.reduceMul, and_self, reduceCtorEq, List.size_toArray, List.all_cons, List.all_nil, Value.oneCell', List.set_cons_zero, List.set_cons_succ, sets, fillL, Nat.reduceLeDiff, List.drop_succ_cons, List.drop_zero, List.take_succ_cons, List.take_zero, List.toList_toArray, argsE, Array.append_empty, Array.empty_append, List.getElem?_toArray, Int.reduceLT, Int.reduceLE, Int.reduceToNat, Int.reduceEq, Nat.reduceLT, dl, db, hbd, hbe, Int.toNat_natCast, Nat.mul_one, hrd, hrd', xor_u8 (getD_lt ha) (getD_lt hb)]
      refine onV_of hap ?_
      simp only [↓eD0, ↓eD1, eC0, eC1, eC2, eC3, eC4, eC5, eC6, wantedE, ↓reduceIte, Nat.reduceEqDiff, Option.map_some, Option.map_none, reread, List.nil_append, List.cons_append, List.map_cons, List.map_nil, List.length_nil, List.length_cons, Value.cells, List.getElem?_cons_zero, List.getElem?_cons_succ, outE, lks, lkR, rdV, neg1, evs, opt, Nat.reduceAdd, Nat.reduceMul, and_self, reduceCtorEq, List.size_toArray, List.all_cons, List.all_nil, Value.oneCell', List.set_cons_zero, List.set_cons_succ, sets, fillL, Nat.reduceLeDiff, List.drop_succ_cons, List.drop_zero, List.take_succ_cons, List.take_zero, List.toList_toArray, argsE, Array.append_empty, Array.empty_append, List.getElem?_toArray, Int.reduceLT, Int.reduceLE, Int.reduceToNat, Int.reduceEq, Nat.reduceLT, hw]
      exact ⟨hlt, by omega, v', rfl, hO, hG⟩
    · have db : decide ((i : Int) < (b.length : Int)) = false := by rw [decide_eq_false]; omega
      obtain ⟨v', τ', hap, hO, hG⟩ := step (a.getD i 0) (by rw [show b.getD i 0 = 0 by rw [List.getD_eq_getElem?_getD, List.getElem?_eq_none (by omega)]; rfl, Nat.xor_zero])
      simp only [↓eD0, ↓eD1, eC0, eC1, eC2, eC3, eC4, eC5, eC6, wantedE, ↓reduceIte, Nat.reduceEqDiff, Option.map_some, Option.map_none, reread, List.nil_append, List.cons_append, List.map_cons, List.map_nil, List.length_nil, List.length_cons, Value.cells, List.getElem?_cons_zero, List.getElem?_cons_succ, outE, lks, lkR, rdV, neg1, evs, opt, Nat.reduceAdd, Nat.reduceMul, and_self, reduceCtorEq, List.size_toArray, List.all_cons, List.all_nil, Value.oneCell', List.set_cons_zero, List.set_cons_succ, sets, fillL, Nat.reduceLeDiff, List.drop_succ_cons, List.drop_zero, List.take_succ_cons, List.take_zero, List.toList_toArray, argsE, Array.append_empty, Array.empty_append, List.getElem?_toArray, Int.reduceLT, Int.reduceLE, Int.reduceToNat, Int.reduceEq, Nat.reduceLT, dl, db, hbd, Int.toNat_natCast, Nat.mul_one, hrd]
      refine onV_of hap ?_
      simp only [↓eD0, ↓eD1, eC0, eC1, eC2, eC3, eC4, eC5, eC6, wantedE, ↓reduceIte, Nat.reduceEqDiff, Option.map_some, Option.map_none, reread, List.nil_append, List.cons_append, List.map_cons, List.map_nil, List.length_nil, List.length_cons, Value.cells, List.getElem?_cons_zero, List.getElem?_cons_succ, outE, lks, lkR, rdV, neg1, evs, opt, Nat.reduceAdd, Nat.reduceMul, and_self, reduceCtorEq, List.size_toArray, List.all_cons, List.all_nil, Value.oneCell', List.set_cons_zero, List.set_cons_succ, sets, fillL, Nat.reduceLeDiff, List.drop_succ_cons, List.drop_zero, List.take_succ_cons, List.take_zero, List.toList_toArray, argsE, Array.append_empty, Array.empty_append, List.getElem?_toArray, Int.reduceLT, Int.reduceLE, Int.reduceToNat, Int.reduceEq, Nat.reduceLT, hw]
      exact ⟨hlt, by omega, v', rfl, hO, hG⟩
  · have : i = a.length := by omega
    subst this
    have dl : decide ((a.length : Int) < (a.length : Int)) = false := by rw [decide_eq_false]; omega
    simp only [↓eD0, ↓eD1, eC0, eC1, eC2, eC3, eC4, eC5, eC6, wantedE, ↓reduceIte, Nat.reduceEqDiff, Option.map_some, Option.map_none, reread, List.nil_append, List.cons_append, List.map_cons, List.map_nil, List.length_nil, List.length_cons, Value.cells, List.getElem?_cons_zero, List.getElem?_cons_succ, outE, lks, lkR, rdV, neg1, evs, opt, Nat.reduceAdd, Nat.reduceMul, and_self, reduceCtorEq, List.size_toArray, List.all_cons, List.all_nil, Value.oneCell', List.set_cons_zero, List.set_cons_succ, sets, fillL, Nat.reduceLeDiff, List.drop_succ_cons, List.drop_zero, List.take_succ_cons, List.take_zero, List.toList_toArray, argsE, Array.append_empty, Array.empty_append, List.getElem?_toArray, Int.reduceLT, Int.reduceLE, Int.reduceToNat, Int.reduceEq, Nat.reduceLT, dl]
    exact ⟨ho, hg⟩

/-! ### The check of an exclusive or -/
theorem bits8_xor {p q : Nat} : bits8 (p ^^^ q) = List.zipWith (· ^^ ·) (bits8 p) (bits8 q) := by
  simp [bits8, four, Nat.testBit_xor, Nat.testBit_shiftRight]
  cases decide (p % 2 = 1) <;> cases decide (q % 2 = 1) <;> rfl
theorem bits8_length {p : Nat} : (bits8 p).length = 8 := by simp [bits8, four]
theorem bitsY_length {l : List Nat} : (bitsY l).length = 8 * l.length := by
  induction l with
  | nil => rfl
  | cons x l ih =>
    rw [show bitsY (x :: l) = bits8 x ++ bitsY l from rfl, List.length_append, bits8_length, ih, List.length_cons]; omega
theorem bitsY_xor : ∀ {l m : List Nat}, l.length = m.length → bitsY (List.zipWith (· ^^^ ·) l m) = List.zipWith (· ^^ ·) (bitsY l) (bitsY m)
  | [], [], _ => rfl
  | x :: l, y :: m, h => by
    have ih := bitsY_xor (l := l) (m := m) (by simpa using h)
    rw [List.zipWith_cons_cons, show ∀ z n, bitsY (z :: n) = bits8 z ++ bitsY n from fun _ _ => rfl, show ∀ z n, bitsY (z :: n) = bits8 z ++ bitsY n from fun _ _ => rfl, show ∀ z n, bitsY (z :: n) = bits8 z ++ bitsY n from fun _ _ => rfl, ih, bits8_xor, List.zipWith_append (by rw [bits8_length, bits8_length])]
theorem runY_xor {l m : List Nat} {a b : V40} (h : l.length = m.length) : runY (a ^^^ b) (List.zipWith (· ^^^ ·) l m) = runY a l ^^^ runY b m := by
  unfold runY
  rw [bitsY_xor h, runB_zip (by rw [bitsY_length, bitsY_length, h])]
theorem xorN_zip {a b : List Nat} {n : Nat} (ha : a.length = n) (hb : b.length = n) : xorN a b n = List.zipWith (· ^^^ ·) a b := by
  apply List.ext_getElem
  · simp [xorN_length, ha, hb]
  · intro i h1 h2
    have : i < n := by rw [xorN_length] at h1; exact h1
    simp [xorN, ha, hb, this]
theorem crc_lin {a y z : List Nat} {n : Nat} (ha : a.length = n) (hy : y.length = n) (hz : z.length = n) :
    (crcF (xorN (xorN a y n) z n)) = ((((crcF a).toNat ^^^ (crcF y).toNat) ^^^ (crcF z).toNat : Nat) : Int) := by
  rw [xorN_zip xorN_length hz, xorN_zip ha hy]
  have h1 := runY_xor (a := BitVec.allOnes 40 ^^^ BitVec.allOnes 40) (b := BitVec.allOnes 40) (l := List.zipWith (· ^^^ ·) a y) (m := z) (by simp [ha, hy, hz])
  have h2 := runY_xor (a := BitVec.allOnes 40) (b := BitVec.allOnes 40) (l := a) (m := y) (by rw [ha, hy])
  rw [BitVec.xor_self] at h2
  rw [BitVec.xor_self, BitVec.zero_xor, h2] at h1
  unfold crcF valF
  rw [h1, Int.toNat_natCast, Int.toNat_natCast, Int.toNat_natCast, ← BitVec.toNat_xor, ← BitVec.toNat_xor]
  congr 2
  have : ∀ p q r s : V40, p ^^^ q ^^^ r ^^^ s = (p ^^^ s) ^^^ (q ^^^ s) ^^^ (r ^^^ s) := by
    intro p q r s
    rw [show (p ^^^ s) ^^^ (q ^^^ s) ^^^ (r ^^^ s) = (p ^^^ q ^^^ r ^^^ s) ^^^ (s ^^^ s) by ac_rfl, BitVec.xor_self, BitVec.xor_zero]
  exact this _ _ _ _
theorem xor_i64 {a b : Int} (ha : 0 ≤ a ∧ a < 1099511627776) (hb : 0 ≤ b ∧ b < 1099511627776) : IntKind.wrap .i64 (BitVec.ofInt (IntKind.bits .i64) a ^^^ BitVec.ofInt (IntKind.bits .i64) b).toNat = ((a.toNat ^^^ b.toNat : Nat) : Int) := by
  obtain ⟨a, rfl⟩ : ∃ n : Nat, a = (n : Int) := ⟨a.toNat, by omega⟩
  obtain ⟨b, rfl⟩ : ∃ n : Nat, b = (n : Int) := ⟨b.toNat, by omega⟩
  rw [show IntKind.bits .i64 = 64 from rfl, bv_xor (by omega) (by omega), Int.toNat_natCast, Int.toNat_natCast]
  have : a ^^^ b < 2 ^ 40 := Nat.xor_lt_two_pow (by omega) (by omega)
  exact wrap64' (by omega) (by omega)

theorem law9 {a b c : List Int} {sa sb sc : Value} {σ : H} (ha : Byt a) (hb : Byt b) (hc : Byt c) (ra : Whl σ 1 sa a.length (digC a)) (rb : Whl σ 1 sb b.length (digC b)) (rc : Whl σ 1 sc c.length (digC c)) (hN : NGlob σ) (hG : HGlob σ) :
    App Tryd.prog (.func 9) #[] #[sa, sb, sc] σ fun v σ' => Old σ σ' ∧ v = .bool true := by
  refine App.of_sem mixed Tryd.func9 t9 k9 r9 (Nat.le_of_ble_eq_true rfl) ?_
  unfold s9
  obtain ⟨a, rfl, ha'⟩ : ∃ x : List Nat, a = natI x ∧ ∀ y ∈ x, y < 256 := ⟨_, (byt_nat ha).1.symm, (byt_nat ha).2⟩
  obtain ⟨b, rfl, hb'⟩ : ∃ x : List Nat, b = natI x ∧ ∀ y ∈ x, y < 256 := ⟨_, (byt_nat hb).1.symm, (byt_nat hb).2⟩
  obtain ⟨c, rfl, hc'⟩ : ∃ x : List Nat, c = natI x ∧ ∀ y ∈ x, y < 256 := ⟨_, (byt_nat hc).1.symm, (byt_nat hc).2⟩
  rw [natI_length] at ra rb rc
  obtain ⟨ba, ca, rfl⟩ := ra.slice
  simp only [↓eD0, ↓eD1, eC0, eC1, eC2, eC3, eC4, eC5, eC6, wantedE, ↓reduceIte, Nat.reduceEqDiff, Option.map_some, Option.map_none, reread, List.nil_append, List.cons_append, List.map_cons, List.map_nil, List.length_nil, List.length_cons, Value.cells, List.getElem?_cons_zero, List.getElem?_cons_succ, outE, lks, lkR, rdV, neg1, evs, opt, Nat.reduceAdd, Nat.reduceMul, and_self, reduceCtorEq, List.size_toArray, List.all_cons, List.all_nil, Value.oneCell', List.set_cons_zero, List.set_cons_succ, sets, fillL, Nat.reduceLeDiff, List.drop_succ_cons, List.drop_zero, List.take_succ_cons, List.take_zero, List.toList_toArray, argsE, Array.append_empty, Array.empty_append, List.getElem?_toArray, Int.reduceLT, Int.reduceLE, Int.reduceToNat, Int.reduceEq, Nat.reduceLT]
  refine appK_of (sanity_app hN hG) ?_
  rintro _ _ ⟨e2, rfl⟩
  rw [e2]
  clear e2
  by_cases h1 : a.length ≤ 400
  case neg =>
    have d1 : decide ((400 : Int) < (a.length : Int)) = true := by rw [decide_eq_true]; omega
    simp only [↓eD0, ↓eD1, eC0, eC1, eC2, eC3, eC4, eC5, eC6, wantedE, ↓reduceIte, Nat.reduceEqDiff, Option.map_some, Option.map_none, reread, List.nil_append, List.cons_append, List.map_cons, List.map_nil, List.length_nil, List.length_cons, Value.cells, List.getElem?_cons_zero, List.getElem?_cons_succ, outE, lks, lkR, rdV, neg1, evs, opt, Nat.reduceAdd, Nat.reduceMul, and_self, reduceCtorEq, List.size_toArray, List.all_cons, List.all_nil, Value.oneCell', List.set_cons_zero, List.set_cons_succ, sets, fillL, Nat.reduceLeDiff, List.drop_succ_cons, List.drop_zero, List.take_succ_cons, List.take_zero, List.toList_toArray, argsE, Array.append_empty, Array.empty_append, List.getElem?_toArray, Int.reduceLT, Int.reduceLE, Int.reduceToNat, Int.reduceEq, Nat.reduceLT, d1, undef_eq]
    exact .refl
  have d1 : decide ((400 : Int) < (a.length : Int)) = false := by rw [decide_eq_false]; omega
  have hmk : (0 : Int) ≤ (a.length : Int) ∧ (a.length : Int) ≤ (a.length : Int) ∧ ((1 : Nat) : Int) * (a.length : Int) ≤ 140737488355328 ∧ (a.length : Int) < 9223372036854775808 := by omega
  simp only [↓eD0, ↓eD1, eC0, eC1, eC2, eC3, eC4, eC5, eC6, wantedE, ↓reduceIte, Nat.reduceEqDiff, Option.map_some, Option.map_none, reread, List.nil_append, List.cons_append, List.map_cons, List.map_nil, List.length_nil, List.length_cons, Value.cells, List.getElem?_cons_zero, List.getElem?_cons_succ, outE, lks, lkR, rdV, neg1, evs, opt, Nat.reduceAdd, Nat.reduceMul, and_self, reduceCtorEq, List.size_toArray, List.all_cons, List.all_nil, Value.oneCell', List.set_cons_zero, List.set_cons_succ, sets, fillL, Nat.reduceLeDiff, List.drop_succ_cons, List.drop_zero, List.take_succ_cons, List.take_zero, List.toList_toArray, argsE, Array.append_empty, Array.empty_append, List.getElem?_toArray, Int.reduceLT, Int.reduceLE, Int.reduceToNat, Int.reduceEq, Nat.reduceLT, d1]
  rw [if_pos hmk, Int.toNat_natCast]
  have hz0 : (List.replicate a.length [Value.int IntKind.u8 0]).flatten = digC (natI (List.replicate a.length 0)) := by
    unfold natI digC
    simp
  rw [hz0, ← ap_nil (σ := σ)]
  simp only [↓eD0, ↓eD1, eC0, eC1, eC2, eC3, eC4, eC5, eC6, wantedE, ↓reduceIte, Nat.reduceEqDiff, Option.map_some, Option.map_none, reread, List.nil_append, List.cons_append, List.map_cons, List.map_nil, List.length_nil, List.length_cons, Value.cells, List.getElem?_cons_zero, List.getElem?_cons_succ, outE, lks, lkR, rdV, neg1, evs, opt, Nat.reduceAdd, Nat.reduceMul, and_self, reduceCtorEq, List.size_toArray, List.all_cons, List.all_nil, Value.oneCell', List.set_cons_zero, List.set_cons_succ, sets, fillL, Nat.reduceLeDiff, List.drop_succ_cons, List.drop_zero, List.take_succ_cons, List.take_zero, List.toList_toArray, argsE, Array.append_empty, Array.empty_append, List.getElem?_toArray, Int.reduceLT, Int.reduceLE, Int.reduceToNat, Int.reduceEq, Nat.reduceLT]
  have hgz := (Grown.lit (σ0 := σ) (σ := ap σ [.cells 0 (digC (natI (List.replicate a.length 0))) (0, 0)]) (s := 1) (n := a.length) (cs := digC (natI (List.replicate a.length 0))) (b := σ.size) (ver := 0) (by simp [digC, natI]) (big_lt (by omega)) (Nat.le_refl _) (by rw [ap_new0]; rfl)).whl
  have hz8 : ∀ y ∈ List.replicate a.length 0, y < 256 := fun y hy => by rw [(List.mem_replicate.1 hy).2]; omega
  have hzl : (List.replicate a.length 0).length = a.length := List.length_replicate
  refine appK_of (xor_app (a := List.replicate a.length 0) (by exact hz8) hb' (by rw [hzl]; exact hgz) (rb.Old .ap) (by rw [hzl]; omega)) ?_
  rintro y σ1 ⟨o1, g1⟩
  rw [hzl] at g1
  obtain ⟨yl, hyl⟩ : ∃ l, l = xorN (List.replicate a.length 0) b a.length := ⟨_, rfl⟩
  have ly : yl.length = a.length := by rw [hyl, xorN_length]
  have hy8 : ∀ x ∈ yl, x < 256 := by rw [hyl]; exact xorN_lt hz8 hb'
  rw [← hyl] at g1
  have wy := g1.whl
  rw [natI_length, ly] at wy
  clear g1 hyl
  obtain ⟨by1, cy1, rfl⟩ := wy.slice
  simp only [↓eD0, ↓eD1, eC0, eC1, eC2, eC3, eC4, eC5, eC6, wantedE, ↓reduceIte, Nat.reduceEqDiff, Option.map_some, Option.map_none, reread, List.nil_append, List.cons_append, List.map_cons, List.map_nil, List.length_nil, List.length_cons, Value.cells, List.getElem?_cons_zero, List.getElem?_cons_succ, outE, lks, lkR, rdV, neg1, evs, opt, Nat.reduceAdd, Nat.reduceMul, and_self, reduceCtorEq, List.size_toArray, List.all_cons, List.all_nil, Value.oneCell', List.set_cons_zero, List.set_cons_succ, sets, fillL, Nat.reduceLeDiff, List.drop_succ_cons, List.drop_zero, List.take_succ_cons, List.take_zero, List.toList_toArray, argsE, Array.append_empty, Array.empty_append, List.getElem?_toArray, Int.reduceLT, Int.reduceLE, Int.reduceToNat, Int.reduceEq, Nat.reduceLT]
  refine appK_of (xor_app (a := List.replicate a.length 0) (by exact hz8) hc' (by rw [hzl]; exact hgz.Old o1) (rc.Old (.trans .ap o1)) (by rw [hzl]; omega)) ?_
  rintro z σ2 ⟨o2, g2⟩
  rw [hzl] at g2
  obtain ⟨zl, hzl2⟩ : ∃ l, l = xorN (List.replicate a.length 0) c a.length := ⟨_, rfl⟩
  have lz : zl.length = a.length := by rw [hzl2, xorN_length]
  have hz8' : ∀ x ∈ zl, x < 256 := by rw [hzl2]; exact xorN_lt hz8 hc'
  rw [← hzl2] at g2
  have wz := g2.whl
  rw [natI_length, lz] at wz
  clear g2 hzl2
  obtain ⟨bz1, cz1, rfl⟩ := wz.slice
  have O2 : Old σ σ2 := (Old.trans .ap o1).trans o2
  simp only [↓eD0, ↓eD1, eC0, eC1, eC2, eC3, eC4, eC5, eC6, wantedE, ↓reduceIte, Nat.reduceEqDiff, Option.map_some, Option.map_none, reread, List.nil_append, List.cons_append, List.map_cons, List.map_nil, List.length_nil, List.length_cons, Value.cells, List.getElem?_cons_zero, List.getElem?_cons_succ, outE, lks, lkR, rdV, neg1, evs, opt, Nat.reduceAdd, Nat.reduceMul, and_self, reduceCtorEq, List.size_toArray, List.all_cons, List.all_nil, Value.oneCell', List.set_cons_zero, List.set_cons_succ, sets, fillL, Nat.reduceLeDiff, List.drop_succ_cons, List.drop_zero, List.take_succ_cons, List.take_zero, List.toList_toArray, argsE, Array.append_empty, Array.empty_append, List.getElem?_toArray, Int.reduceLT, Int.reduceLE, Int.reduceToNat, Int.reduceEq, Nat.reduceLT]
  refine appK_of (xor_app ha' hy8 (ra.Old O2) (by rw [ly]; exact wy.Old o2) (by omega)) ?_
  rintro w σ3 ⟨o3, g3⟩
  have wl := xorN_length (a := a) (b := yl) (n := a.length)
  have w8 := xorN_lt (n := a.length) ha' hy8
  obtain ⟨w1, hw1⟩ : ∃ l, l = xorN a yl a.length := ⟨_, rfl⟩
  rw [← hw1] at g3 wl w8
  have ww := g3.whl
  rw [natI_length, wl] at ww
  clear g3
  obtain ⟨bw1, cw1, rfl⟩ := ww.slice
  have O3 : Old σ σ3 := O2.trans o3
  simp only [↓eD0, ↓eD1, eC0, eC1, eC2, eC3, eC4, eC5, eC6, wantedE, ↓reduceIte, Nat.reduceEqDiff, Option.map_some, Option.map_none, reread, List.nil_append, List.cons_append, List.map_cons, List.map_nil, List.length_nil, List.length_cons, Value.cells, List.getElem?_cons_zero, List.getElem?_cons_succ, outE, lks, lkR, rdV, neg1, evs, opt, Nat.reduceAdd, Nat.reduceMul, and_self, reduceCtorEq, List.size_toArray, List.all_cons, List.all_nil, Value.oneCell', List.set_cons_zero, List.set_cons_succ, sets, fillL, Nat.reduceLeDiff, List.drop_succ_cons, List.drop_zero, List.take_succ_cons, List.take_zero, List.toList_toArray, argsE, Array.append_empty, Array.empty_append, List.getElem?_toArray, Int.reduceLT, Int.reduceLE, Int.reduceToNat, Int.reduceEq, Nat.reduceLT]
  refine appK_of (xor_app w8 hz8' (by rw [wl]; exact ww) (by rw [lz]; exact wz.Old o3) (by omega)) ?_
  rintro q σ4 ⟨o4, g4⟩
  have wq := g4.whl
  rw [natI_length, xorN_length] at wq
  obtain ⟨bq, cq, rfl⟩ := wq.slice
  have O4 : Old σ σ4 := O3.trans o4
  rw [wl] at wq g4
  have q8 := xorN_lt (n := a.length) w8 hz8'
  simp only [↓eD0, ↓eD1, eC0, eC1, eC2, eC3, eC4, eC5, eC6, wantedE, ↓reduceIte, Nat.reduceEqDiff, Option.map_some, Option.map_none, reread, List.nil_append, List.cons_append, List.map_cons, List.map_nil, List.length_nil, List.length_cons, Value.cells, List.getElem?_cons_zero, List.getElem?_cons_succ, outE, lks, lkR, rdV, neg1, evs, opt, Nat.reduceAdd, Nat.reduceMul, and_self, reduceCtorEq, List.size_toArray, List.all_cons, List.all_nil, Value.oneCell', List.set_cons_zero, List.set_cons_succ, sets, fillL, Nat.reduceLeDiff, List.drop_succ_cons, List.drop_zero, List.take_succ_cons, List.take_zero, List.toList_toArray, argsE, Array.append_empty, Array.empty_append, List.getElem?_toArray, Int.reduceLT, Int.reduceLE, Int.reduceToNat, Int.reduceEq, Nat.reduceLT, wl]
  refine appK_of (crc40_app (natI_byt q8) (by rw [natI_length, xorN_length]; exact wq) (by rw [natI_length, xorN_length]; omega) (hN.Old O4)) ?_
  rintro _ _ ⟨e2, rfl⟩
  rw [e2, natI_nat]
  clear e2
  simp only [↓eD0, ↓eD1, eC0, eC1, eC2, eC3, eC4, eC5, eC6, wantedE, ↓reduceIte, Nat.reduceEqDiff, Option.map_some, Option.map_none, reread, List.nil_append, List.cons_append, List.map_cons, List.map_nil, List.length_nil, List.length_cons, Value.cells, List.getElem?_cons_zero, List.getElem?_cons_succ, outE, lks, lkR, rdV, neg1, evs, opt, Nat.reduceAdd, Nat.reduceMul, and_self, reduceCtorEq, List.size_toArray, List.all_cons, List.all_nil, Value.oneCell', List.set_cons_zero, List.set_cons_succ, sets, fillL, Nat.reduceLeDiff, List.drop_succ_cons, List.drop_zero, List.take_succ_cons, List.take_zero, List.toList_toArray, argsE, Array.append_empty, Array.empty_append, List.getElem?_toArray, Int.reduceLT, Int.reduceLE, Int.reduceToNat, Int.reduceEq, Nat.reduceLT]
  refine appK_of (crc40_app ha (by rw [natI_length]; exact ra.Old O4) (by rw [natI_length]; omega) (hN.Old O4)) ?_
  rintro _ _ ⟨e2, rfl⟩
  rw [e2, natI_nat]
  clear e2
  simp only [↓eD0, ↓eD1, eC0, eC1, eC2, eC3, eC4, eC5, eC6, wantedE, ↓reduceIte, Nat.reduceEqDiff, Option.map_some, Option.map_none, reread, List.nil_append, List.cons_append, List.map_cons, List.map_nil, List.length_nil, List.length_cons, Value.cells, List.getElem?_cons_zero, List.getElem?_cons_succ, outE, lks, lkR, rdV, neg1, evs, opt, Nat.reduceAdd, Nat.reduceMul, and_self, reduceCtorEq, List.size_toArray, List.all_cons, List.all_nil, Value.oneCell', List.set_cons_zero, List.set_cons_succ, sets, fillL, Nat.reduceLeDiff, List.drop_succ_cons, List.drop_zero, List.take_succ_cons, List.take_zero, List.toList_toArray, argsE, Array.append_empty, Array.empty_append, List.getElem?_toArray, Int.reduceLT, Int.reduceLE, Int.reduceToNat, Int.reduceEq, Nat.reduceLT]
  refine appK_of (crc40_app (natI_byt hy8) (by rw [natI_length, ly]; exact wy.Old (o2.trans (o3.trans o4))) (by rw [natI_length]; omega) (hN.Old O4)) ?_
  rintro _ _ ⟨e2, rfl⟩
  rw [e2, natI_nat]
  clear e2
  simp only [↓eD0, ↓eD1, eC0, eC1, eC2, eC3, eC4, eC5, eC6, wantedE, ↓reduceIte, Nat.reduceEqDiff, Option.map_some, Option.map_none, reread, List.nil_append, List.cons_append, List.map_cons, List.map_nil, List.length_nil, List.length_cons, Value.cells, List.getElem?_cons_zero, List.getElem?_cons_succ, outE, lks, lkR, rdV, neg1, evs, opt, Nat.reduceAdd, Nat.reduceMul, and_self, reduceCtorEq, List.size_toArray, List.all_cons, List.all_nil, Value.oneCell', List.set_cons_zero, List.set_cons_succ, sets, fillL, Nat.reduceLeDiff, List.drop_succ_cons, List.drop_zero, List.take_succ_cons, List.take_zero, List.toList_toArray, argsE, Array.append_empty, Array.empty_append, List.getElem?_toArray, Int.reduceLT, Int.reduceLE, Int.reduceToNat, Int.reduceEq, Nat.reduceLT]
  refine appK_of (crc40_app (natI_byt hz8') (by rw [natI_length, lz]; exact wz.Old (o3.trans o4)) (by rw [natI_length]; omega) (hN.Old O4)) ?_
  rintro _ _ ⟨e2, rfl⟩
  rw [e2, natI_nat]
  clear e2
  have x1 := xor_i64 (crcF_range (l := a)) (crcF_range (l := yl))
  have x1r : 0 ≤ (((crcF a).toNat ^^^ (crcF yl).toNat : Nat) : Int) ∧ (((crcF a).toNat ^^^ (crcF yl).toNat : Nat) : Int) < 1099511627776 := by
    have h1 := crcF_range (l := a)
    have h2 := crcF_range (l := yl)
    have : (crcF a).toNat ^^^ (crcF yl).toNat < 2 ^ 40 := Nat.xor_lt_two_pow (by omega) (by omega)
    omega
  have x2 := xor_i64 x1r (crcF_range (l := zl))
  have fin := crc_lin (n := a.length) rfl ly lz
  rw [← hw1] at fin
  rw [Int.toNat_natCast] at x2
  simp only [↓eD0, ↓eD1, eC0, eC1, eC2, eC3, eC4, eC5, eC6, wantedE, ↓reduceIte, Nat.reduceEqDiff, Option.map_some, Option.map_none, reread, List.nil_append, List.cons_append, List.map_cons, List.map_nil, List.length_nil, List.length_cons, Value.cells, List.getElem?_cons_zero, List.getElem?_cons_succ, outE, lks, lkR, rdV, neg1, evs, opt, Nat.reduceAdd, Nat.reduceMul, and_self, reduceCtorEq, List.size_toArray, List.all_cons, List.all_nil, Value.oneCell', List.set_cons_zero, List.set_cons_succ, sets, fillL, Nat.reduceLeDiff, List.drop_succ_cons, List.drop_zero, List.take_succ_cons, List.take_zero, List.toList_toArray, argsE, Array.append_empty, Array.empty_append, List.getElem?_toArray, Int.reduceLT, Int.reduceLE, Int.reduceToNat, Int.reduceEq, Nat.reduceLT, x1, x2, fin, decide_true]
  rw [ap_nil]
  exact O4
end Go.Proofs.YtoegoigfbldkoaaDoor
