/- Walks and plain laws. Conditions: none. -/
import Derived.Test.YtoegoigfbldkoaaDoorHh
set_option linter.all false
set_option linter.unusedSimpArgs false
set_option linter.unusedVariables false
set_option maxRecDepth 10000
set_option maxHeartbeats 2000000
namespace Go.Proofs.YtoegoigfbldkoaaDoor
open Go Go.Cn Go.RowKit
attribute [local irreducible] evL sem onG onI onV

/-! ### Bursts: plain laws -/
theorem shS_inj {r : V40} (h : shS r = 0#40) : r = 0#40 := by
  unfold shS at h
  have hb : ∀ i, ((r <<< 1) ^^^ sel r.msb pol).getLsbD i = false := fun i => by rw [h]; simp
  cases hm : r.msb with
  | true =>
    have := hb 0
    rw [hm] at this
    simp [sel, pol] at this
  | false =>
    apply BitVec.eq_of_getLsbD_eq
    intro i hi
    rw [hm] at hb
    by_cases h39 : i = 39
    · subst h39
      rw [BitVec.msb_eq_getLsbD_last] at hm
      simpa using hm
    · have := hb (i + 1)
      simp [sel, show i + 1 < 40 by omega] at this
      rw [BitVec.getLsbD_eq_getElem hi, this]
      simp
theorem shN_inj {n : Nat} {r : V40} (h : shN n r = 0#40) : r = 0#40 := by
  induction n generalizing r with
  | zero => exact h
  | succ n ih => exact shS_inj (ih h)
theorem pol_shN : pol = shN 40 1#40 := by decide +kernel
theorem runB_hsF {r : V40} {l : List Bool} : runB r l = hsF r l pol := rfl
def bitsF (f : Nat → Bool) (k : Nat) : List Bool := (List.range k).map f
theorem bitsF_succ {f : Nat → Bool} {k : Nat} : bitsF f (k + 1) = bitsF f k ++ [f k] := by simp [bitsF, List.range_succ]
theorem shS_small {o : V40} (h : o.toNat < 2 ^ 39) : (shS o).toNat = 2 * o.toNat := by
  have hm : o.msb = false := by
    rw [BitVec.msb_eq_decide]
    exact decide_eq_false (by simp; omega)
  unfold shS
  rw [hm]
  simp [sel, BitVec.toNat_shiftLeft]
  omega
theorem xor_one {n : Nat} : 2 * n ^^^ 1 = 2 * n + 1 := by
  apply Nat.eq_of_testBit_eq
  intro i
  rw [Nat.testBit_xor]
  cases i with
  | zero => simp
  | succ i =>
    rw [Nat.testBit_succ, Nat.testBit_succ, Nat.testBit_succ, show 2 * n / 2 = n by omega, show (2 * n + 1) / 2 = n by omega]
    simp
theorem hsF_bits {f : Nat → Bool} : ∀ k, k ≤ 40 → (hsF 0#40 (bitsF f k) 1#40).toNat < 2 ^ k ∧ (hsF 0#40 (bitsF f k) 1#40 = 0#40 ↔ ∀ i, i < k → f i = false)
  | 0, _ => by
    refine ⟨by simp [bitsF, hsF], ?_⟩
    simp [bitsF, hsF]
  | k + 1, hk => by
    obtain ⟨h1, h2⟩ := hsF_bits (f := f) k (by omega)
    rw [bitsF_succ, hsF_app]
    generalize hsF 0#40 (bitsF f k) 1#40 = o at h1 h2
    show (shS o ^^^ sel (f k) 1#40).toNat < _ ∧ _
    have ho : o.toNat < 2 ^ 39 := Nat.lt_of_lt_of_le h1 (Nat.pow_le_pow_right (by omega) (by omega))
    have hs := shS_small ho
    have hv : (shS o ^^^ sel (f k) 1#40).toNat = 2 * o.toNat + (f k).toNat := by
      rw [BitVec.toNat_xor, hs]
      cases f k with
      | false => simp [sel]
      | true =>
        simp [sel]
        exact xor_one
    have hz : (shS o ^^^ sel (f k) 1#40 = 0#40) ↔ (o = 0#40 ∧ f k = false) := by
      constructor
      · intro h
        rw [h] at hv
        have hv0 : 2 * o.toNat + (f k).toNat = 0 := by rw [← hv]; rfl
        refine ⟨BitVec.eq_of_toNat_eq (by rw [show (0#40).toNat = 0 from rfl]; omega), ?_⟩
        cases hf : f k with
        | false => rfl
        | true => rw [hf] at hv0; simp at hv0
      · rintro ⟨rfl, hf⟩
        rw [hf, shS_zero]
        rfl
    refine ⟨?_, ?_⟩
    · rw [hv, Nat.pow_succ]
      have : (f k).toNat ≤ 1 := by cases f k <;> decide
      omega
    · show (shS o ^^^ sel (f k) 1#40 = 0#40) ↔ _
      rw [hz, h2]
      constructor
      · rintro ⟨ha, hb⟩ i hi
        by_cases he : i = k
        · exact he ▸ hb
        · exact ha i (by omega)
      · intro h
        exact ⟨fun i hi => h i (by omega), h k (by omega)⟩
/-- A burst of at most 40 bits, and zeros after it. -/
theorem burst_zero {f : Nat → Bool} {k n : Nat} (hk : k ≤ 40) : shN n (hsF 0#40 (bitsF f k) pol) = 0#40 ↔ ∀ i, i < k → f i = false := by
  have h : hsF 0#40 (bitsF f k) pol = shN 40 (hsF 0#40 (bitsF f k) 1#40) := by
    have := hsF_map (X := shN 40) (l := bitsF f k) (o := 0#40) (a := 1#40) (fun _ _ => shN_xor) shN_zero (fun _ => shN_shS)
    rwa [shN_zero, ← pol_shN] at this
  rw [h, ← (hsF_bits (f := f) k hk).2]
  constructor
  · intro h
    exact shN_inj (shN_inj h)
  · intro h
    rw [h, shN_zero, shN_zero]
theorem bits8_zero : bits8 0 = List.replicate 8 false := by decide
theorem bitsY_zeros {n : Nat} : bitsY (List.replicate n 0) = List.replicate (8 * n) false := by
  induction n with
  | zero => rfl
  | succ n ih =>
    rw [List.replicate_succ, show bitsY (0 :: List.replicate n 0) = bits8 0 ++ bitsY (List.replicate n 0) from rfl, ih, bits8_zero, List.replicate_append_replicate]
    congr 1
    omega
theorem bits8_one {m : Nat} (h : m < 8) : runB 0#40 (bits8 (2 ^ (7 - m))) = shN (7 - m) pol := by
  have : m = 0 ∨ m = 1 ∨ m = 2 ∨ m = 3 ∨ m = 4 ∨ m = 5 ∨ m = 6 ∨ m = 7 := by omega
  rcases this with rfl | rfl | rfl | rfl | rfl | rfl | rfl | rfl <;> decide +kernel
theorem runY_flip {A : V40} {l : List Nat} {i m : Nat} (hi : i < l.length) (hm : m < 8) : runY A (l.set i (l[i] ^^^ 2 ^ (7 - m))) = runY A l ^^^ shN (8 * l.length - 1 - (8 * i + m)) pol := by
  have h1 : l.set i (l[i] ^^^ 2 ^ (7 - m)) = List.zipWith (· ^^^ ·) l (List.replicate i 0 ++ 2 ^ (7 - m) :: List.replicate (l.length - i - 1) 0) := by
    apply List.ext_getElem
    · simp; omega
    · intro j h1 h2
      rw [List.getElem_zipWith, List.getElem_set]
      by_cases he : i = j
      · subst he
        simp
      · rw [if_neg he]
        by_cases hl : j < i
        · rw [List.getElem_append_left (by simpa using hl)]
          simp
        · rw [List.getElem_append_right (by simp; omega)]
          have : ∃ q, j - i = q + 1 := ⟨j - i - 1, by omega⟩
          obtain ⟨q, hq⟩ := this
          simp [hq]
  have h2 := runY_xor (a := A) (b := 0#40) (l := l) (m := List.replicate i 0 ++ 2 ^ (7 - m) :: List.replicate (l.length - i - 1) 0) (by simp; omega)
  rw [BitVec.xor_zero] at h2
  rw [h1, h2]
  congr 1
  unfold runY
  rw [show bitsY (List.replicate i 0 ++ 2 ^ (7 - m) :: List.replicate (l.length - i - 1) 0) = bitsY (List.replicate i 0) ++ (bits8 (2 ^ (7 - m)) ++ bitsY (List.replicate (l.length - i - 1) 0)) by simp [bitsY], runB_app, runB_app, bitsY_zeros, bitsY_zeros, runB_zeros (n := 8 * i), shN_zero, bits8_one hm, runB_zeros, ← shN_add]
  congr 1
  omega
theorem burst_step {f : Nat → Bool} {L k : Nat} (h : k < L) : shN (L - (k + 1)) (hsF 0#40 (bitsF f (k + 1)) pol) = shN (L - k) (hsF 0#40 (bitsF f k) pol) ^^^ sel (f k) (shN (L - 1 - k) pol) := by
  rw [bitsF_succ, hsF_app]
  show shN (L - (k + 1)) (shS _ ^^^ sel (f k) pol) = _
  rw [shN_xor, show L - k = (L - (k + 1)) + 1 by omega, show L - 1 - k = L - (k + 1) by omega]
  congr 1
  cases f k
  · exact shN_zero
  · rfl
theorem valF_inj {r s : V40} : valF r = valF s ↔ r = s := by
  constructor
  · intro h
    unfold valF at h
    have h2 : r ^^^ BitVec.allOnes 40 = s ^^^ BitVec.allOnes 40 := BitVec.eq_of_toNat_eq (by omega)
    have h3 := congrArg (· ^^^ BitVec.allOnes 40) h2
    simpa [BitVec.xor_assoc] using h3
  · rintro rfl; rfl
theorem xor_self_iff {r x : V40} : r = r ^^^ x ↔ x = 0#40 := by
  constructor
  · intro h
    have h2 := congrArg (r ^^^ ·) h
    simp only [BitVec.xor_self, ← BitVec.xor_assoc, BitVec.zero_xor] at h2
    exact h2.symm
  · rintro rfl; simp

theorem pow8 {n : Nat} (h : n < 8) : 2 ^ n < 256 := (Nat.pow_lt_pow_right (by omega) h : 2 ^ n < 2 ^ 8)
theorem shl_one8 {n : Nat} (h : n < 8) : IntKind.wrap .u8 ((1 : Int) * 2 ^ min n (IntKind.bits .u8)) = ((2 ^ n : Nat) : Int) := by
  rw [show min n (IntKind.bits .u8) = n from Nat.min_eq_left (by show n ≤ 8; omega), Int.one_mul]
  have e : ((2 : Int) ^ n) = ((2 ^ n : Nat) : Int) := by simp
  rw [e]
  have h8 := pow8 h
  generalize 2 ^ n = m at h8
  exact wrap_u8 (by omega) (by omega)
theorem burst_whl {σ τ : H} {b o : List Nat} {bk vv cap : Nat} (hol : o.length = b.length) (hbg : b.length < big) (hbk : σ.size ≤ bk) (hcap : cap = inex 1 b.length ∨ cap = b.length) (hc : τ[bk]? = some (.cells vv (digC (natI o)) (0, 0))) :
    Whl τ 1 (.slice (some ⟨bk, 0, none⟩) b.length cap) b.length (digC (natI o)) :=
  Grown.whl (σ0 := σ) ⟨by rw [digC_length, natI_length, hol, Nat.mul_one], hbg, .inr ⟨bk, vv, cap, hbk, hcap, rfl, hc⟩⟩
theorem burst_eq {f : Nat → Bool} {b o : List Nat} {k n : Nat} (hk : k ≤ 40) (h : runY (BitVec.allOnes 40) o = runY (BitVec.allOnes 40) b ^^^ shN n (hsF 0#40 (bitsF f k) pol)) : decide (crcF b = crcF o) = !((bitsF f k).any id) := by
  have h1 : crcF b = crcF o ↔ ∀ i, i < k → f i = false := by
    unfold crcF
    rw [valF_inj, h, xor_self_iff, burst_zero hk]
  have h2 : (bitsF f k).any id = false ↔ ∀ i, i < k → f i = false := by
    simp [bitsF]
  cases ha : (bitsF f k).any id with
  | false => exact decide_eq_true (h1.2 (h2.1 ha))
  | true =>
    refine decide_eq_false fun h => ?_
    rw [h2.2 (h1.1 h)] at ha
    cases ha
theorem law10 {b : List Int} {sb : Value} {t p : Int} {σ : H} (hb : Byt b) (rb : Whl σ 1 sb b.length (digC b)) (t0 : 0 ≤ t) (t1 : t ≤ 65535) (p0 : 0 ≤ p) (p1 : p < 18446744073709551616) (hN : NGlob σ) (hG : HGlob σ) :
    App Tryd.prog (.func 10) #[] #[sb, .int .u16 t, .int .u64 p] σ fun v σ' => Old σ σ' ∧ v = .bool true := by
  refine App.of_sem mixed Tryd.func10 t10 k10 r10 (Nat.le_of_ble_eq_true rfl) ?_
  unfold s10
  obtain ⟨b, rfl, hb'⟩ : ∃ x : List Nat, b = natI x ∧ ∀ y ∈ x, y < 256 := ⟨_, (byt_nat hb).1.symm, (byt_nat hb).2⟩
  rw [natI_length] at rb
  obtain ⟨bb, cb, rfl⟩ := rb.slice
  rw [← ap_nil (σ := σ)]
  simp only [↓eD0, ↓eD1, eC0, eC1, eC2, eC3, eC4, eC5, eC6, wantedE, ↓reduceIte, Nat.reduceEqDiff, Option.map_some, Option.map_none, reread, List.nil_append, List.cons_append, List.map_cons, List.map_nil, List.length_nil, List.length_cons, Value.cells, List.getElem?_cons_zero, List.getElem?_cons_succ, outE, lks, lkR, rdV, neg1, evs, opt, Nat.reduceAdd, Nat.reduceMul, and_self, reduceCtorEq, List.size_toArray, List.all_cons, List.all_nil, Value.oneCell', List.set_cons_zero, List.set_cons_succ, sets, fillL, Nat.reduceLeDiff, List.drop_succ_cons, List.drop_zero, List.take_succ_cons, List.take_zero, List.toList_toArray, argsE, Array.append_empty, Array.empty_append, List.getElem?_toArray, Int.reduceLT, Int.reduceLE, Int.reduceToNat, Int.reduceEq, Nat.reduceLT]
  refine appK_of (sanity_app (hN.Old .ap) (hG.Old .ap)) ?_
  rintro _ _ ⟨e2, rfl⟩
  rw [e2]
  clear e2
  by_cases h0 : b.length = 0
  case pos =>
    have d1 : decide ((b.length : Int) = 0) = true := by rw [decide_eq_true]; omega
    simp only [↓eD0, ↓eD1, eC0, eC1, eC2, eC3, eC4, eC5, eC6, wantedE, ↓reduceIte, Nat.reduceEqDiff, Option.map_some, Option.map_none, reread, List.nil_append, List.cons_append, List.map_cons, List.map_nil, List.length_nil, List.length_cons, Value.cells, List.getElem?_cons_zero, List.getElem?_cons_succ, outE, lks, lkR, rdV, neg1, evs, opt, Nat.reduceAdd, Nat.reduceMul, and_self, reduceCtorEq, List.size_toArray, List.all_cons, List.all_nil, Value.oneCell', List.set_cons_zero, List.set_cons_succ, sets, fillL, Nat.reduceLeDiff, List.drop_succ_cons, List.drop_zero, List.take_succ_cons, List.take_zero, List.toList_toArray, argsE, Array.append_empty, Array.empty_append, List.getElem?_toArray, Int.reduceLT, Int.reduceLE, Int.reduceToNat, Int.reduceEq, Nat.reduceLT, d1, undef_eq]
    rw [ap_nil]
    exact .refl
  have d1 : decide ((b.length : Int) = 0) = false := by rw [decide_eq_false]; omega
  by_cases h4 : b.length ≤ 400
  case neg =>
    have d2 : decide ((400 : Int) < (b.length : Int)) = true := by rw [decide_eq_true]; omega
    simp only [↓eD0, ↓eD1, eC0, eC1, eC2, eC3, eC4, eC5, eC6, wantedE, ↓reduceIte, Nat.reduceEqDiff, Option.map_some, Option.map_none, reread, List.nil_append, List.cons_append, List.map_cons, List.map_nil, List.length_nil, List.length_cons, Value.cells, List.getElem?_cons_zero, List.getElem?_cons_succ, outE, lks, lkR, rdV, neg1, evs, opt, Nat.reduceAdd, Nat.reduceMul, and_self, reduceCtorEq, List.size_toArray, List.all_cons, List.all_nil, Value.oneCell', List.set_cons_zero, List.set_cons_succ, sets, fillL, Nat.reduceLeDiff, List.drop_succ_cons, List.drop_zero, List.take_succ_cons, List.take_zero, List.toList_toArray, argsE, Array.append_empty, Array.empty_append, List.getElem?_toArray, Int.reduceLT, Int.reduceLE, Int.reduceToNat, Int.reduceEq, Nat.reduceLT, d1, d2, undef_eq]
    rw [ap_nil]
    exact .refl
  have d2 : decide ((400 : Int) < (b.length : Int)) = false := by rw [decide_eq_false]; omega
  obtain ⟨v1, τ1, ha1, hA1⟩ := append_bytes (σ0 := σ) (σ := ap σ [.cells 0 [] (0, 0)]) (v := .slice (some ⟨σ.size, 0, none⟩) 0 0) (o := []) (new := natI b) (Grown.lit (ver := 0) rfl (by decide) (Nat.le_refl _) (by rw [ap_new0]; rfl)) Old.ap.1 (by rw [natI_length]; exact (rb.Old .ap).x) (by simp [natI]; omega)
  have ho1 := hA1.Old (Grown.lit (ver := 0) rfl (by decide) (Nat.le_refl _) (by rw [ap_new0]; rfl)) .ap
  have hg1 := hA1.grown
  rw [List.nil_append, natI_length] at hg1
  obtain ⟨-, hbg, ⟨hz, -⟩ | ⟨bk, ver, cap, hbk, hcap, rfl, hcell⟩⟩ := hg1
  · omega
  simp only [↓eD0, ↓eD1, eC0, eC1, eC2, eC3, eC4, eC5, eC6, wantedE, ↓reduceIte, Nat.reduceEqDiff, Option.map_some, Option.map_none, reread, List.nil_append, List.cons_append, List.map_cons, List.map_nil, List.length_nil, List.length_cons, Value.cells, List.getElem?_cons_zero, List.getElem?_cons_succ, outE, lks, lkR, rdV, neg1, evs, opt, Nat.reduceAdd, Nat.reduceMul, and_self, reduceCtorEq, List.size_toArray, List.all_cons, List.all_nil, Value.oneCell', List.set_cons_zero, List.set_cons_succ, sets, fillL, Nat.reduceLeDiff, List.drop_succ_cons, List.drop_zero, List.take_succ_cons, List.take_zero, List.toList_toArray, argsE, Array.append_empty, Array.empty_append, List.getElem?_toArray, Int.reduceLT, Int.reduceLE, Int.reduceToNat, Int.reduceEq, Nat.reduceLT, d1, d2]
  refine onV_of ha1 ?_
  clear hA1 ha1
  obtain ⟨N, hNe⟩ : ∃ N, N = 8 * b.length := ⟨_, rfl⟩
  obtain ⟨F, hF⟩ : ∃ F, F = t.toNat % N := ⟨_, rfl⟩
  have hFN : F < N := by rw [hF]; exact Nat.mod_lt _ (by omega)
  have w1 : IntKind.wrap .i64 t = t := wrap64' (by omega) (by omega)
  have w2 : IntKind.wrap .i64 (8 * (b.length : Int)) = ((N : Nat) : Int) := by rw [wrap64' (by omega) (by omega)]; omega
  have w3 : t.tmod (N : Int) = (F : Int) := by
    rw [Int.tmod_eq_emod_of_nonneg t0]
    obtain ⟨t, rfl⟩ : ∃ n : Nat, t = (n : Int) := ⟨t.toNat, by omega⟩
    rw [hF, Int.toNat_natCast]; exact (Int.natCast_emod _ _).symm
  have w4 : IntKind.wrap .i64 (F : Int) = (F : Int) := wrap64' (by omega) (by omega)
  simp only [↓eD0, ↓eD1, eC0, eC1, eC2, eC3, eC4, eC5, eC6, wantedE, ↓reduceIte, Nat.reduceEqDiff, Option.map_some, Option.map_none, reread, List.nil_append, List.cons_append, List.map_cons, List.map_nil, List.length_nil, List.length_cons, Value.cells, List.getElem?_cons_zero, List.getElem?_cons_succ, outE, lks, lkR, rdV, neg1, evs, opt, Nat.reduceAdd, Nat.reduceMul, and_self, reduceCtorEq, List.size_toArray, List.all_cons, List.all_nil, Value.oneCell', List.set_cons_zero, List.set_cons_succ, sets, fillL, Nat.reduceLeDiff, List.drop_succ_cons, List.drop_zero, List.take_succ_cons, List.take_zero, List.toList_toArray, argsE, Array.append_empty, Array.empty_append, List.getElem?_toArray, Int.reduceLT, Int.reduceLE, Int.reduceToNat, Int.reduceEq, Nat.reduceLT, w1, w2, w3, w4]
  rw [if_neg (by omega)]
  simp only [↓eD0, ↓eD1, eC0, eC1, eC2, eC3, eC4, eC5, eC6, wantedE, ↓reduceIte, Nat.reduceEqDiff, Option.map_some, Option.map_none, reread, List.nil_append, List.cons_append, List.map_cons, List.map_nil, List.length_nil, List.length_cons, Value.cells, List.getElem?_cons_zero, List.getElem?_cons_succ, outE, lks, lkR, rdV, neg1, evs, opt, Nat.reduceAdd, Nat.reduceMul, and_self, reduceCtorEq, List.size_toArray, List.all_cons, List.all_nil, Value.oneCell', List.set_cons_zero, List.set_cons_succ, sets, fillL, Nat.reduceLeDiff, List.drop_succ_cons, List.drop_zero, List.take_succ_cons, List.take_zero, List.toList_toArray, argsE, Array.append_empty, Array.empty_append, List.getElem?_toArray, Int.reduceLT, Int.reduceLE, Int.reduceToNat, Int.reduceEq, Nat.reduceLT]
  obtain ⟨q, rfl⟩ : ∃ n : Nat, p = (n : Int) := ⟨p.toNat, by omega⟩
  obtain ⟨f, hf⟩ : ∃ f : Nat → Bool, f = fun k => q.testBit k := ⟨_, rfl⟩
  refine loop_for (J := fun k e τ => F + k ≤ N ∧ ∃ (vv : Nat) (o : List Nat), e = [(0, .slice bb b.length cb), (2, .int .u64 (q : Int)), (7, .bool true), (8, .slice (some ⟨bk, 0, none⟩) b.length cap), (9, .int .i64 (F : Int)), (10, .bool ((bitsF f k).any id)), (11, .int .i64 (k : Int))] ∧ Old σ τ ∧ τ[bk]? = some (.cells vv (digC (natI o)) (0, 0)) ∧ o.length = b.length ∧ (∀ x ∈ o, x < 256) ∧ runY (BitVec.allOnes 40) o = runY (BitVec.allOnes 40) b ^^^ shN (N - F - k) (hsF 0#40 (bitsF f k) pol)) 40 ⟨by omega, ver, b, rfl, ho1, hcell, rfl, hb', by simp [bitsF, hsF, shN_zero]⟩ ?_
  rintro k e τ hk ⟨hFk, vv, o, rfl, hO, hc, hol, ho8, hrun⟩
  by_cases h40 : k < 40
  · by_cases hlt : F + k < N
    · have c1 : decide ((k : Int) < 40) = true := by rw [decide_eq_true]; omega
      have w5 : IntKind.wrap .i64 ((F : Int) + (k : Int)) = ((F + k : Nat) : Int) := by rw [wrap64' (by omega) (by omega)]; omega
      have c2 : decide (((F + k : Nat) : Int) < (N : Int)) = true := by rw [decide_eq_true]; omega
      have w6 : (q : Int).fdiv (2 ^ min k (IntKind.bits .u64)) = ((q >>> k : Nat) : Int) := by
        rw [show min k (IntKind.bits .u64) = k from Nat.min_eq_left (by show k ≤ 64; omega), Int.fdiv_eq_ediv_of_nonneg _ (Int.le_of_lt (Int.pow_pos (by omega))), Nat.shiftRight_eq_div_pow]
        exact (Int.natCast_ediv q (2 ^ k)).symm
      have w7 : IntKind.wrap .u64 (BitVec.ofInt (IntKind.bits .u64) ((q >>> k : Nat) : Int) &&& BitVec.ofInt (IntKind.bits .u64) 1).toNat = (((f k).toNat : Nat) : Int) := by
        have h1 := and_u64 (a := q >>> k) (b := 1) (Nat.lt_of_le_of_lt (Nat.shiftRight_le _ _) (by omega)) (by omega)
        refine h1.trans ?_
        rw [hf, Nat.and_one_is_mod]
        congr 1
        show q >>> k % 2 = (q.testBit k).toNat
        rw [Nat.testBit_eq_decide_div_mod_eq, Nat.shiftRight_eq_div_pow]
        have := Nat.mod_lt (q / 2 ^ k) (show 0 < 2 by omega)
        by_cases h : q / 2 ^ k % 2 = 1
        · rw [h]; rfl
        · rw [decide_eq_false h]; show _ = 0; omega
      have k0 : ((k : Int) < 0) = False := eq_false (by omega)
      have wk : IntKind.wrap .i64 ((k : Int) + 1) = ((k + 1 : Nat) : Int) := by rw [wrap64' (by omega) (by omega)]; omega
      have bst := burst_step (f := f) (L := N - F) (k := k) (by omega)
      rw [show N - F - (k + 1) = N - F - (k + 1) from rfl] at bst
      simp only [↓eD0, ↓eD1, eC0, eC1, eC2, eC3, eC4, eC5, eC6, wantedE, ↓reduceIte, Nat.reduceEqDiff, Option.map_some, Option.map_none, reread, List.nil_append, List.cons_append, List.map_cons, List.map_nil, List.length_nil, List.length_cons, Value.cells, List.getElem?_cons_zero, List.getElem?_cons_succ, outE, lks, lkR, rdV, neg1, evs, opt, Nat.reduceAdd, Nat.reduceMul, and_self, reduceCtorEq, List.size_toArray, List.all_cons, List.all_nil, Value.oneCell', List.set_cons_zero, List.set_cons_succ, sets, fillL, Nat.reduceLeDiff, List.drop_succ_cons, List.drop_zero, List.take_succ_cons, List.take_zero, List.toList_toArray, argsE, Array.append_empty, Array.empty_append, List.getElem?_toArray, Int.reduceLT, Int.reduceLE, Int.reduceToNat, Int.reduceEq, Nat.reduceLT, c1, w5, c2, w2, k0, Int.toNat_natCast, w6, w7, bool_nat]
      cases hfk : f k with
      | false =>
        simp only [↓eD0, ↓eD1, eC0, eC1, eC2, eC3, eC4, eC5, eC6, wantedE, ↓reduceIte, Nat.reduceEqDiff, Option.map_some, Option.map_none, reread, List.nil_append, List.cons_append, List.map_cons, List.map_nil, List.length_nil, List.length_cons, Value.cells, List.getElem?_cons_zero, List.getElem?_cons_succ, outE, lks, lkR, rdV, neg1, evs, opt, Nat.reduceAdd, Nat.reduceMul, and_self, reduceCtorEq, List.size_toArray, List.all_cons, List.all_nil, Value.oneCell', List.set_cons_zero, List.set_cons_succ, sets, fillL, Nat.reduceLeDiff, List.drop_succ_cons, List.drop_zero, List.take_succ_cons, List.take_zero, List.toList_toArray, argsE, Array.append_empty, Array.empty_append, List.getElem?_toArray, Int.reduceLT, Int.reduceLE, Int.reduceToNat, Int.reduceEq, Nat.reduceLT, wk]
        refine ⟨h40, by omega, vv, o, ?_, hO, hc, hol, ho8, ?_⟩
        · rw [bitsF_succ, List.any_append, hfk]
          simp
        · rw [bst, hfk, hrun]
          simp [sel]
      | true =>
        have q1 : ((F + k : Nat) : Int).tdiv 8 = (((F + k) / 8 : Nat) : Int) := by rw [Int.tdiv_eq_ediv_of_nonneg (by omega)]; omega
        have q2 : ((F + k : Nat) : Int).tmod 8 = (((F + k) % 8 : Nat) : Int) := by rw [Int.tmod_eq_emod_of_nonneg (by omega)]; omega
        have q3 : IntKind.wrap .i64 (((F + k) / 8 : Nat) : Int) = (((F + k) / 8 : Nat) : Int) := wrap64' (by omega) (by omega)
        have q4 : IntKind.wrap .i64 (((F + k) % 8 : Nat) : Int) = (((F + k) % 8 : Nat) : Int) := wrap64' (by omega) (by omega)
        have q5 : IntKind.wrap .i64 (7 - (((F + k) % 8 : Nat) : Int)) = ((7 - (F + k) % 8 : Nat) : Int) := by rw [wrap64' (by omega) (by omega)]; omega
        have hi8 : (F + k) / 8 < o.length := by omega
        have q6 : (0 : Int) ≤ (((F + k) / 8 : Nat) : Int) ∧ (((F + k) / 8 : Nat) : Int) < (b.length : Int) := by omega
        have hrd : rd1 τ ⟨bk, (F + k) / 8, none⟩ = some (.int .u8 ((o[(F + k) / 8]'hi8 : Nat) : Int)) := by
          have := rd1_row (rdN_all hc rfl) (j := (F + k) / 8) (v := .int .u8 ((o[(F + k) / 8]'hi8 : Nat) : Int)) (by simp [digC, natI, hi8])
          rwa [Nat.zero_add] at this
        have q7 : ((((7 - (F + k) % 8 : Nat) : Int)) < 0) = False := eq_false (by omega)
        have hp8 : 2 ^ (7 - (F + k) % 8) < 256 := pow8 (by omega)
        have q8 := shl_one8 (n := 7 - (F + k) % 8) (by omega)
        have hx8 := xor_u8 (a := o[(F + k) / 8]'hi8) (ho8 _ (List.getElem_mem _)) hp8
        simp only [↓eD0, ↓eD1, eC0, eC1, eC2, eC3, eC4, eC5, eC6, wantedE, ↓reduceIte, Nat.reduceEqDiff, Option.map_some, Option.map_none, reread, List.nil_append, List.cons_append, List.map_cons, List.map_nil, List.length_nil, List.length_cons, Value.cells, List.getElem?_cons_zero, List.getElem?_cons_succ, outE, lks, lkR, rdV, neg1, evs, opt, Nat.reduceAdd, Nat.reduceMul, and_self, reduceCtorEq, List.size_toArray, List.all_cons, List.all_nil, Value.oneCell', List.set_cons_zero, List.set_cons_succ, sets, fillL, Nat.reduceLeDiff, List.drop_succ_cons, List.drop_zero, List.take_succ_cons, List.take_zero, List.toList_toArray, argsE, Array.append_empty, Array.empty_append, List.getElem?_toArray, Int.reduceLT, Int.reduceLE, Int.reduceToNat, Int.reduceEq, Nat.reduceLT, wk, w5, q1, q2, q3, q4, q5, q6, Int.toNat_natCast, Nat.mul_one, Nat.zero_add, hrd, q7, q8, hx8]
        generalize hxx : o[(F + k) / 8]'hi8 ^^^ 2 ^ (7 - (F + k) % 8) = xx
        have hwr : wrN τ ⟨bk, (F + k) / 8, none⟩ [.int .u8 (xx : Int)] = some (τ.setIfInBounds bk (.cells (vv + 1) (digC (natI (o.set ((F + k) / 8) xx))) (0, 0))) := by
          rw [wrN_eq, if_neg (by simp), hc, wrc_cells, if_pos ⟨by simp [digC, natI]; omega, rfl⟩]
          simp [sets, digC, natI, List.map_set]
        have hbt : bk < τ.size := (Array.getElem?_eq_some_iff.1 hc).1
        rw [hwr]
        simp only [↓eD0, ↓eD1, eC0, eC1, eC2, eC3, eC4, eC5, eC6, wantedE, ↓reduceIte, Nat.reduceEqDiff, Option.map_some, Option.map_none, reread, List.nil_append, List.cons_append, List.map_cons, List.map_nil, List.length_nil, List.length_cons, Value.cells, List.getElem?_cons_zero, List.getElem?_cons_succ, outE, lks, lkR, rdV, neg1, evs, opt, Nat.reduceAdd, Nat.reduceMul, and_self, reduceCtorEq, List.size_toArray, List.all_cons, List.all_nil, Value.oneCell', List.set_cons_zero, List.set_cons_succ, sets, fillL, Nat.reduceLeDiff, List.drop_succ_cons, List.drop_zero, List.take_succ_cons, List.take_zero, List.toList_toArray, argsE, Array.append_empty, Array.empty_append, List.getElem?_toArray, Int.reduceLT, Int.reduceLE, Int.reduceToNat, Int.reduceEq, Nat.reduceLT, wk]
        refine ⟨h40, by omega, vv + 1, o.set ((F + k) / 8) xx, ?_, ?_, ?_, by rw [List.length_set, hol], ?_, ?_⟩
        · rw [bitsF_succ, List.any_append, hfk]
          simp
        · refine ⟨by rw [Array.size_setIfInBounds]; exact hO.1, fun c hc2 => ?_⟩
          rw [← hO.2 c hc2]
          exact Array.getElem?_setIfInBounds_ne (by omega)
        · rw [Array.getElem?_setIfInBounds_self_of_lt hbt]
        · intro x hx
          rcases List.mem_or_eq_of_mem_set hx with h | h
          · exact ho8 x h
          · rw [h, ← hxx]
            exact Nat.xor_lt_two_pow (n := 8) (ho8 _ (List.getElem_mem _)) hp8
        · rw [← hxx, runY_flip hi8 (Nat.mod_lt _ (by omega)), bst, hfk, hrun, BitVec.xor_assoc]
          congr 2
          rw [show 8 * o.length - 1 - (8 * ((F + k) / 8) + (F + k) % 8) = N - F - 1 - k by omega]
          rfl
    · have c1 : decide ((k : Int) < 40) = true := by rw [decide_eq_true]; omega
      have w5 : IntKind.wrap .i64 ((F : Int) + (k : Int)) = ((F + k : Nat) : Int) := by rw [wrap64' (by omega) (by omega)]; omega
      have c2 : decide (((F + k : Nat) : Int) < (N : Int)) = false := by rw [decide_eq_false]; omega
      simp only [↓eD0, ↓eD1, eC0, eC1, eC2, eC3, eC4, eC5, eC6, wantedE, ↓reduceIte, Nat.reduceEqDiff, Option.map_some, Option.map_none, reread, List.nil_append, List.cons_append, List.map_cons, List.map_nil, List.length_nil, List.length_cons, Value.cells, List.getElem?_cons_zero, List.getElem?_cons_succ, outE, lks, lkR, rdV, neg1, evs, opt, Nat.reduceAdd, Nat.reduceMul, and_self, reduceCtorEq, List.size_toArray, List.all_cons, List.all_nil, Value.oneCell', List.set_cons_zero, List.set_cons_succ, sets, fillL, Nat.reduceLeDiff, List.drop_succ_cons, List.drop_zero, List.take_succ_cons, List.take_zero, List.toList_toArray, argsE, Array.append_empty, Array.empty_append, List.getElem?_toArray, Int.reduceLT, Int.reduceLE, Int.reduceToNat, Int.reduceEq, Nat.reduceLT, c1, w5, c2, w2]
      refine appK_of (crc40_app hb (by rw [natI_length]; exact rb.Old hO) (by rw [natI_length]; omega) (hN.Old hO)) ?_
      rintro _ _ ⟨e2, rfl⟩
      rw [e2, natI_nat]
      clear e2
      simp only [↓eD0, ↓eD1, eC0, eC1, eC2, eC3, eC4, eC5, eC6, wantedE, ↓reduceIte, Nat.reduceEqDiff, Option.map_some, Option.map_none, reread, List.nil_append, List.cons_append, List.map_cons, List.map_nil, List.length_nil, List.length_cons, Value.cells, List.getElem?_cons_zero, List.getElem?_cons_succ, outE, lks, lkR, rdV, neg1, evs, opt, Nat.reduceAdd, Nat.reduceMul, and_self, reduceCtorEq, List.size_toArray, List.all_cons, List.all_nil, Value.oneCell', List.set_cons_zero, List.set_cons_succ, sets, fillL, Nat.reduceLeDiff, List.drop_succ_cons, List.drop_zero, List.take_succ_cons, List.take_zero, List.toList_toArray, argsE, Array.append_empty, Array.empty_append, List.getElem?_toArray, Int.reduceLT, Int.reduceLE, Int.reduceToNat, Int.reduceEq, Nat.reduceLT]
      refine appK_of (crc40_app (natI_byt ho8) (by rw [natI_length, hol]; exact burst_whl hol hbg hbk hcap hc) (by rw [natI_length]; omega) (hN.Old hO)) ?_
      rintro _ _ ⟨e2, rfl⟩
      rw [e2, natI_nat]
      clear e2
      simp only [↓eD0, ↓eD1, eC0, eC1, eC2, eC3, eC4, eC5, eC6, wantedE, ↓reduceIte, Nat.reduceEqDiff, Option.map_some, Option.map_none, reread, List.nil_append, List.cons_append, List.map_cons, List.map_nil, List.length_nil, List.length_cons, Value.cells, List.getElem?_cons_zero, List.getElem?_cons_succ, outE, lks, lkR, rdV, neg1, evs, opt, Nat.reduceAdd, Nat.reduceMul, and_self, reduceCtorEq, List.size_toArray, List.all_cons, List.all_nil, Value.oneCell', List.set_cons_zero, List.set_cons_succ, sets, fillL, Nat.reduceLeDiff, List.drop_succ_cons, List.drop_zero, List.take_succ_cons, List.take_zero, List.toList_toArray, argsE, Array.append_empty, Array.empty_append, List.getElem?_toArray, Int.reduceLT, Int.reduceLE, Int.reduceToNat, Int.reduceEq, Nat.reduceLT, burst_eq hk hrun]
      rw [ap_nil]; exact hO
  · have c1 : decide ((k : Int) < 40) = false := by rw [decide_eq_false]; omega
    simp only [↓eD0, ↓eD1, eC0, eC1, eC2, eC3, eC4, eC5, eC6, wantedE, ↓reduceIte, Nat.reduceEqDiff, Option.map_some, Option.map_none, reread, List.nil_append, List.cons_append, List.map_cons, List.map_nil, List.length_nil, List.length_cons, Value.cells, List.getElem?_cons_zero, List.getElem?_cons_succ, outE, lks, lkR, rdV, neg1, evs, opt, Nat.reduceAdd, Nat.reduceMul, and_self, reduceCtorEq, List.size_toArray, List.all_cons, List.all_nil, Value.oneCell', List.set_cons_zero, List.set_cons_succ, sets, fillL, Nat.reduceLeDiff, List.drop_succ_cons, List.drop_zero, List.take_succ_cons, List.take_zero, List.toList_toArray, argsE, Array.append_empty, Array.empty_append, List.getElem?_toArray, Int.reduceLT, Int.reduceLE, Int.reduceToNat, Int.reduceEq, Nat.reduceLT, c1, undef_eq]
    refine appK_of (crc40_app hb (by rw [natI_length]; exact rb.Old hO) (by rw [natI_length]; omega) (hN.Old hO)) ?_
    rintro _ _ ⟨e2, rfl⟩
    rw [e2, natI_nat]
    clear e2
    simp only [↓eD0, ↓eD1, eC0, eC1, eC2, eC3, eC4, eC5, eC6, wantedE, ↓reduceIte, Nat.reduceEqDiff, Option.map_some, Option.map_none, reread, List.nil_append, List.cons_append, List.map_cons, List.map_nil, List.length_nil, List.length_cons, Value.cells, List.getElem?_cons_zero, List.getElem?_cons_succ, outE, lks, lkR, rdV, neg1, evs, opt, Nat.reduceAdd, Nat.reduceMul, and_self, reduceCtorEq, List.size_toArray, List.all_cons, List.all_nil, Value.oneCell', List.set_cons_zero, List.set_cons_succ, sets, fillL, Nat.reduceLeDiff, List.drop_succ_cons, List.drop_zero, List.take_succ_cons, List.take_zero, List.toList_toArray, argsE, Array.append_empty, Array.empty_append, List.getElem?_toArray, Int.reduceLT, Int.reduceLE, Int.reduceToNat, Int.reduceEq, Nat.reduceLT]
    refine appK_of (crc40_app (natI_byt ho8) (by rw [natI_length, hol]; exact burst_whl hol hbg hbk hcap hc) (by rw [natI_length]; omega) (hN.Old hO)) ?_
    rintro _ _ ⟨e2, rfl⟩
    rw [e2, natI_nat]
    clear e2
    simp only [↓eD0, ↓eD1, eC0, eC1, eC2, eC3, eC4, eC5, eC6, wantedE, ↓reduceIte, Nat.reduceEqDiff, Option.map_some, Option.map_none, reread, List.nil_append, List.cons_append, List.map_cons, List.map_nil, List.length_nil, List.length_cons, Value.cells, List.getElem?_cons_zero, List.getElem?_cons_succ, outE, lks, lkR, rdV, neg1, evs, opt, Nat.reduceAdd, Nat.reduceMul, and_self, reduceCtorEq, List.size_toArray, List.all_cons, List.all_nil, Value.oneCell', List.set_cons_zero, List.set_cons_succ, sets, fillL, Nat.reduceLeDiff, List.drop_succ_cons, List.drop_zero, List.take_succ_cons, List.take_zero, List.toList_toArray, argsE, Array.append_empty, Array.empty_append, List.getElem?_toArray, Int.reduceLT, Int.reduceLE, Int.reduceToNat, Int.reduceEq, Nat.reduceLT, burst_eq hk hrun]
    rw [ap_nil]; exact hO
end Go.Proofs.YtoegoigfbldkoaaDoor
