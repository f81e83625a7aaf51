/- Walks and plain laws. Conditions: none. -/
import Derived.Test.YtoegoigfbldkoaaDoorHh
set_option linter.all false
set_option linter.unusedSimpArgs false
set_option linter.unusedVariables false
set_option maxRecDepth 10000
set_option maxHeartbeats 2000000
namespace Go.Proofs.YtoegoigfbldkoaaDoor
open Go Go.Cn Go.RowKit
attribute [local irreducible] evL sem onG onI onV

/-! ### Inputs are different -/
theorem var_inj : ∀ {f : Nat} {z w : Int} {x y : List Int}, 0 ≤ z → z < 128 ^ f → z < 18446744073709551616 → 0 ≤ w → w < 128 ^ f → w < 18446744073709551616 → varF f z ++ x = varF f w ++ y → z = w ∧ x = y
  | 0, z, w, x, y, h1, h2, _, h3, h4, _, h => by
    rw [Int.pow_zero] at h2 h4
    exact ⟨by omega, h⟩
  | f + 1, z, w, x, y, h1, h2, h5, h3, h4, h6, h => by
    rw [Int.pow_succ] at h2 h4
    generalize hp : (128 : Int) ^ f = P at h2 h4
    have hd : ∀ u : Int, 0 ≤ u → u < 18446744073709551616 → IntKind.wrap .u64 (u.tdiv 128) = u / 128 := fun u a b => by
      rw [Int.tdiv_eq_ediv_of_nonneg a]
      exact wrap_u64 (by omega) (by omega)
    have hm : ∀ u : Int, 0 ≤ u → IntKind.wrap .u8 (IntKind.wrap .u8 (u.tmod 128) + 128) = u % 128 + 128 := fun u a => by
      rw [Int.tmod_eq_emod_of_nonneg a, wrap_u8 (n := u % 128) (by omega) (by omega), wrap_u8 (by omega) (by omega)]
    rw [varF, varF] at h
    by_cases a : 128 ≤ z
    · rw [if_pos a] at h
      by_cases b : 128 ≤ w
      · rw [if_pos b, hd z h1 h5, hd w h3 h6, hm z h1, hm w h3] at h
        injection h with g1 g2
        have ih := var_inj (f := f) (z := z / 128) (w := w / 128) (x := x) (y := y) (by omega) (by rw [hp]; omega) (by omega) (by omega) (by rw [hp]; omega) (by omega) g2
        exact ⟨by omega, ih.2⟩
      · rw [if_neg b, hm z h1, wrap_u8 h3 (by omega)] at h
        injection h with g1 g2
        omega
    · rw [if_neg a] at h
      by_cases b : 128 ≤ w
      · rw [if_pos b, hm w h3, wrap_u8 h1 (by omega)] at h
        injection h with g1 g2
        omega
      · rw [if_neg b, wrap_u8 h1 (by omega), wrap_u8 h3 (by omega)] at h
        injection h with g1 g2
        exact ⟨g1, g2⟩
theorem int_inj {n m : Nat} {x y : List Int} (hn : n < 4000000000000000000) (hm : m < 4000000000000000000) (h : intF n ++ x = intF m ++ y) : n = m ∧ x = y := by
  have hz : ∀ k : Nat, k < 4000000000000000000 → zF (k : Int) = 2 * (k : Int) := fun k hk => by
    unfold zF
    rw [if_neg (by omega), wrap_u64 (n := (k : Int)) (by omega) (by omega), wrap_u64 (by omega) (by omega)]
    omega
  unfold intF at h
  rw [hz n hn, hz m hm] at h
  have := var_inj (f := 10) (by omega) (by have : (128 : Int) ^ 10 = 1180591620717411303424 := by decide
                                           omega) (by omega) (by omega) (by have : (128 : Int) ^ 10 = 1180591620717411303424 := by decide
                                                                            omega) (by omega) h
  exact ⟨by omega, this.2⟩
theorem strI_inj {s t : ByteArray} (h : strI s = strI t) : s = t := by
  have h2 : s.data.toList = t.data.toList := by
    unfold strI at h
    refine List.map_inj_right (fun a b hab => ?_) |>.1 h
    have : a.toNat = b.toNat := by omega
    exact UInt8.toNat_inj.1 this
  obtain ⟨⟨a⟩⟩ := s
  obtain ⟨⟨b⟩⟩ := t
  simp only at h2
  rw [h2]
theorem bytesF_ne {s : ByteArray} {x : List Int} : bytesF s ++ x ≠ [] := by
  unfold bytesF intF
  rw [varF]
  split <;> simp
theorem bytesF_inj {s t : ByteArray} {x y : List Int} (hs : s.size < 4000000000000000000) (ht : t.size < 4000000000000000000) (h : bytesF s ++ x = bytesF t ++ y) : s = t ∧ x = y := by
  unfold bytesF at h
  rw [List.append_assoc, List.append_assoc] at h
  obtain ⟨h1, h2⟩ := int_inj hs ht h
  obtain ⟨h3, h4⟩ := List.append_inj h2 (by rw [strI_len, strI_len, h1])
  exact ⟨strI_inj h3, h4⟩
theorem parts_inj : ∀ {a b : List ByteArray}, (∀ s ∈ a, s.size < 4000000000000000000) → (∀ s ∈ b, s.size < 4000000000000000000) → partsF a = partsF b → a = b
  | [], [], _, _, _ => rfl
  | s :: a, [], _, _, h => absurd h bytesF_ne
  | [], t :: b, _, _, h => absurd h.symm bytesF_ne
  | s :: a, t :: b, ha, hb, h => by
    obtain ⟨h1, h2⟩ := bytesF_inj (x := partsF a) (y := partsF b) (ha s List.mem_cons_self) (hb t List.mem_cons_self) h
    rw [h1, parts_inj (fun u hu => ha u (List.mem_cons_of_mem _ hu)) (fun u hu => hb u (List.mem_cons_of_mem _ hu)) h2]
theorem input_inj {n m : Int} {a b : List ByteArray} (n0 : 0 ≤ n) (n1 : n ≤ 255) (m0 : 0 ≤ m) (m1 : m ≤ 255) (ha : ∀ s ∈ a, s.size < 4000000000000000000) (hb : ∀ s ∈ b, s.size < 4000000000000000000) : inputF n a = inputF m b ↔ n = m ∧ a = b := by
  constructor
  · intro h
    unfold inputF at h
    injection h with h1 h2
    rw [wrap_u8 n0 (by omega), wrap_u8 m0 (by omega)] at h1
    exact ⟨h1, parts_inj ha hb h2⟩
  · rintro ⟨rfl, rfl⟩; rfl
theorem inputF_byte {n : Int} {a : List ByteArray} : inputF n a = inputF n a := rfl

theorem input_cells {σ τ : H} {v : Value} {n : Int} {a : List ByteArray} (h : Grown σ τ 1 v (digC (inputF n a)) (inputF n a).length) : ∃ p : Nat × Nat, v = .slice (some ⟨p.1, 0, none⟩) (inputF n a).length p.2 ∧ rdN τ ⟨p.1, 0, none⟩ (inputF n a).length = some (digC (inputF n a)) := by
  obtain ⟨h1, h2, ⟨h0, -⟩ | ⟨bk, ver, cap, hbk, hcap, rfl, hc⟩⟩ := h
  · simp [inputF] at h0
  · exact ⟨(bk, cap), rfl, rdN_all hc (by rw [h1, Nat.mul_one])⟩
theorem parts_len {N : Nat} : ∀ {l : List ByteArray}, (∀ s ∈ l, s.size ≤ N) → (partsF l).length ≤ l.length * (N + 10)
  | [], _ => by simp [partsF]
  | s :: l, h => by
    have ih := parts_len (l := l) fun t ht => h t (List.mem_cons_of_mem _ ht)
    have h1 := h s List.mem_cons_self
    have h2 : (intF (s.size : Int)).length ≤ 10 := intF_len
    rw [show partsF (s :: l) = (intF s.size ++ strI s) ++ partsF l from rfl, List.length_append, List.length_append, strI_len, List.length_cons, Nat.add_mul]
    omega
theorem input_len {n : Int} {a : List ByteArray} (hl : a.length ≤ 12) (hs : ∀ s ∈ a, s.size ≤ 400) : (inputF n a).length ≤ 5000 := by
  have := parts_len hs
  rw [inputF, List.length_cons]
  omega
/-- Two sequences begin alike. -/
def pfx (g h : List Int) (k : Nat) : Bool := decide (g.take k = h.take k)
theorem pfx_succ {g h : List Int} {k : Nat} (h1 : k < g.length) (h2 : k < h.length) : pfx g h (k + 1) = (pfx g h k && decide (g[k] = h[k])) := by
  unfold pfx
  rw [List.take_succ_eq_append_getElem h1, List.take_succ_eq_append_getElem h2, ← Bool.decide_and]
  congr 1
  refine propext ⟨fun e => ?_, fun ⟨e1, e2⟩ => by rw [e1, e2]⟩
  have := List.append_inj e (by simp; omega)
  exact ⟨this.1, by simpa using this.2⟩
theorem law14 {n m : Int} {a b : List ByteArray} {sa sb : Value} {σ : H} (hn : 0 ≤ n ∧ n ≤ 255) (hm : 0 ≤ m ∧ m ≤ 255) (ra : Whl σ 1 sa a.length (a.map .string)) (rb : Whl σ 1 sb b.length (b.map .string)) (hN : NGlob σ) (hG : HGlob σ) :
    App Tryd.prog (.func 14) #[] #[.agg #[.int .u8 n, .int .u8 m], sa, sb] σ fun v σ' => Old σ σ' ∧ v = .bool true := by
  refine App.of_sem mixed Tryd.func14 t14 k14 r14 (Nat.le_of_ble_eq_true rfl) ?_
  obtain ⟨ba, ca, rfl⟩ := ra.slice
  obtain ⟨bb, cb, rfl⟩ := rb.slice
  unfold s14
  rw [← ap_nil (σ := σ)]
  simp only [↓eD0, ↓eD1, eC0, eC1, eC2, eC3, eC4, eC5, eC6, wantedE, ↓reduceIte, Nat.reduceEqDiff, Option.map_some, Option.map_none, reread, List.nil_append, List.cons_append, List.map_cons, List.map_nil, List.length_nil, List.length_cons, Value.cells, List.getElem?_cons_zero, List.getElem?_cons_succ, outE, lks, lkR, rdV, neg1, evs, opt, Nat.reduceAdd, Nat.reduceMul, and_self, reduceCtorEq, List.size_toArray, List.all_cons, List.all_nil, Value.oneCell', List.set_cons_zero, List.set_cons_succ, sets, fillL, Nat.reduceLeDiff, List.drop_succ_cons, List.drop_zero, List.take_succ_cons, List.take_zero, List.toList_toArray, argsE, Array.append_empty, Array.empty_append, List.getElem?_toArray, Int.reduceLT, Int.reduceLE, Int.reduceToNat, Int.reduceEq, Nat.reduceLT]
  refine appK_of (sanity_app (hN.Old .ap) (hG.Old .ap)) ?_
  rintro _ _ ⟨e2, rfl⟩
  rw [e2]
  clear e2
  simp only [↓eD0, ↓eD1, eC0, eC1, eC2, eC3, eC4, eC5, eC6, wantedE, ↓reduceIte, Nat.reduceEqDiff, Option.map_some, Option.map_none, reread, List.nil_append, List.cons_append, List.map_cons, List.map_nil, List.length_nil, List.length_cons, Value.cells, List.getElem?_cons_zero, List.getElem?_cons_succ, outE, lks, lkR, rdV, neg1, evs, opt, Nat.reduceAdd, Nat.reduceMul, and_self, reduceCtorEq, List.size_toArray, List.all_cons, List.all_nil, Value.oneCell', List.set_cons_zero, List.set_cons_succ, sets, fillL, Nat.reduceLeDiff, List.drop_succ_cons, List.drop_zero, List.take_succ_cons, List.take_zero, List.toList_toArray, argsE, Array.append_empty, Array.empty_append, List.getElem?_toArray, Int.reduceLT, Int.reduceLE, Int.reduceToNat, Int.reduceEq, Nat.reduceLT]
  refine appK_of (few_app (ra.Old .ap)) ?_
  rintro _ _ ⟨e2, rfl⟩
  rw [e2]
  clear e2
  cases hfa : fewF a with
  | false =>
    simp only [↓eD0, ↓eD1, eC0, eC1, eC2, eC3, eC4, eC5, eC6, wantedE, ↓reduceIte, Nat.reduceEqDiff, Option.map_some, Option.map_none, reread, List.nil_append, List.cons_append, List.map_cons, List.map_nil, List.length_nil, List.length_cons, Value.cells, List.getElem?_cons_zero, List.getElem?_cons_succ, outE, lks, lkR, rdV, neg1, evs, opt, Nat.reduceAdd, Nat.reduceMul, and_self, reduceCtorEq, List.size_toArray, List.all_cons, List.all_nil, Value.oneCell', List.set_cons_zero, List.set_cons_succ, sets, fillL, Nat.reduceLeDiff, List.drop_succ_cons, List.drop_zero, List.take_succ_cons, List.take_zero, List.toList_toArray, argsE, Array.append_empty, Array.empty_append, List.getElem?_toArray, Int.reduceLT, Int.reduceLE, Int.reduceToNat, Int.reduceEq, Nat.reduceLT, Bool.not_false, undef_eq]
    rw [ap_nil]
    exact .ap
  | true =>
    simp only [↓eD0, ↓eD1, eC0, eC1, eC2, eC3, eC4, eC5, eC6, wantedE, ↓reduceIte, Nat.reduceEqDiff, Option.map_some, Option.map_none, reread, List.nil_append, List.cons_append, List.map_cons, List.map_nil, List.length_nil, List.length_cons, Value.cells, List.getElem?_cons_zero, List.getElem?_cons_succ, outE, lks, lkR, rdV, neg1, evs, opt, Nat.reduceAdd, Nat.reduceMul, and_self, reduceCtorEq, List.size_toArray, List.all_cons, List.all_nil, Value.oneCell', List.set_cons_zero, List.set_cons_succ, sets, fillL, Nat.reduceLeDiff, List.drop_succ_cons, List.drop_zero, List.take_succ_cons, List.take_zero, List.toList_toArray, argsE, Array.append_empty, Array.empty_append, List.getElem?_toArray, Int.reduceLT, Int.reduceLE, Int.reduceToNat, Int.reduceEq, Nat.reduceLT, Bool.not_true, undef_eq]
    refine appK_of (few_app (rb.Old .ap)) ?_
    rintro _ _ ⟨e2, rfl⟩
    rw [e2]
    clear e2
    cases hfb : fewF b with
    | false =>
      simp only [↓eD0, ↓eD1, eC0, eC1, eC2, eC3, eC4, eC5, eC6, wantedE, ↓reduceIte, Nat.reduceEqDiff, Option.map_some, Option.map_none, reread, List.nil_append, List.cons_append, List.map_cons, List.map_nil, List.length_nil, List.length_cons, Value.cells, List.getElem?_cons_zero, List.getElem?_cons_succ, outE, lks, lkR, rdV, neg1, evs, opt, Nat.reduceAdd, Nat.reduceMul, and_self, reduceCtorEq, List.size_toArray, List.all_cons, List.all_nil, Value.oneCell', List.set_cons_zero, List.set_cons_succ, sets, fillL, Nat.reduceLeDiff, List.drop_succ_cons, List.drop_zero, List.take_succ_cons, List.take_zero, List.toList_toArray, argsE, Array.append_empty, Array.empty_append, List.getElem?_toArray, Int.reduceLT, Int.reduceLE, Int.reduceToNat, Int.reduceEq, Nat.reduceLT, Bool.not_false, undef_eq]
      rw [ap_nil]
      exact .ap
    | true =>
      obtain ⟨hla, hsa⟩ := few_iff.1 hfa
      obtain ⟨hlb, hsb⟩ := few_iff.1 hfb
      have hc2 : ((2 : Nat) : Int) = 2 := rfl
      have hba : ∀ s ∈ a, s.size < 100000000000 := fun s h => Nat.lt_of_le_of_lt (hsa s h) (by omega)
      have hbb : ∀ s ∈ b, s.size < 100000000000 := fun s h => Nat.lt_of_le_of_lt (hsb s h) (by omega)
      have hinj := input_inj (a := a) (b := b) hn.1 hn.2 hm.1 hm.2 (fun s h => Nat.lt_of_le_of_lt (hsa s h) (by omega)) (fun s h => Nat.lt_of_le_of_lt (hsb s h) (by omega))
      have wn : IntKind.wrap .i64 n = n := wrap64' (by omega) (by omega)
      have wm : IntKind.wrap .i64 m = m := wrap64' (by omega) (by omega)
      obtain ⟨S, hS⟩ : ∃ S : Nat → Bool, S = fun i => decide (n = m ∧ a.length = b.length ∧ a.take i = b.take i) := ⟨_, rfl⟩
      have S0 : ∀ x, decide (n = m) = x → S 0 = (x && decide ((a.length : Int) = (b.length : Int))) := by
        rintro _ rfl
        rw [hS]
        have he : decide ((a.length : Int) = (b.length : Int)) = decide (a.length = b.length) := by
          by_cases h : a.length = b.length
          · rw [decide_eq_true h, decide_eq_true (by omega)]
          · rw [decide_eq_false h, decide_eq_false (by omega)]
        rw [he]
        simp
      have Sn : S a.length = decide (n = m ∧ a = b) := by
        rw [hS]
        show decide _ = decide _
        congr 1
        refine propext ⟨fun ⟨h1, h2, h3⟩ => ⟨h1, ?_⟩, ?_⟩
        · rw [List.take_length, h2, List.take_length] at h3; exact h3
        · rintro ⟨rfl, rfl⟩; exact ⟨rfl, rfl, rfl⟩
      have Sf : ∀ i, S i = false → decide (n = m ∧ a = b) = false := by
        intro i h
        refine decide_eq_false ?_
        rintro ⟨rfl, rfl⟩
        rw [hS] at h
        simp at h
      have Ss : ∀ i (h1 : i < a.length) (h2 : i < b.length), S i = true → S (i + 1) = decide (a[i] = b[i]) := by
        intro i h1 h2 h
        rw [hS] at h ⊢
        have h := of_decide_eq_true h
        show decide _ = decide _
        congr 1
        refine propext ⟨fun ⟨_, _, h3⟩ => ?_, fun h3 => ⟨h.1, h.2.1, ?_⟩⟩
        · have := congrArg (fun l => l[i]?) h3
          simp [h1, h2] at this
          exact this
        · rw [List.take_succ_eq_append_getElem h1, List.take_succ_eq_append_getElem h2, h.2.2, h3]
      have Sl : ∀ i, S i = true → a.length = b.length := fun i h => by
        rw [hS] at h
        exact (of_decide_eq_true h).2.1
      simp only [↓eD0, ↓eD1, eC0, eC1, eC2, eC3, eC4, eC5, eC6, wantedE, ↓reduceIte, Nat.reduceEqDiff, Option.map_some, Option.map_none, reread, List.nil_append, List.cons_append, List.map_cons, List.map_nil, List.length_nil, List.length_cons, Value.cells, List.getElem?_cons_zero, List.getElem?_cons_succ, outE, lks, lkR, rdV, neg1, evs, opt, Nat.reduceAdd, Nat.reduceMul, and_self, reduceCtorEq, List.size_toArray, List.all_cons, List.all_nil, Value.oneCell', List.set_cons_zero, List.set_cons_succ, sets, fillL, Nat.reduceLeDiff, List.drop_succ_cons, List.drop_zero, List.take_succ_cons, List.take_zero, List.toList_toArray, argsE, Array.append_empty, Array.empty_append, List.getElem?_toArray, Int.reduceLT, Int.reduceLE, Int.reduceToNat, Int.reduceEq, Nat.reduceLT, Bool.not_true, hc2]
      cases hd : decide (n = m)
      all_goals
        simp only [↓eD0, ↓eD1, eC0, eC1, eC2, eC3, eC4, eC5, eC6, wantedE, ↓reduceIte, Nat.reduceEqDiff, Option.map_some, Option.map_none, reread, List.nil_append, List.cons_append, List.map_cons, List.map_nil, List.length_nil, List.length_cons, Value.cells, List.getElem?_cons_zero, List.getElem?_cons_succ, outE, lks, lkR, rdV, neg1, evs, opt, Nat.reduceAdd, Nat.reduceMul, and_self, reduceCtorEq, List.size_toArray, List.all_cons, List.all_nil, Value.oneCell', List.set_cons_zero, List.set_cons_succ, sets, fillL, Nat.reduceLeDiff, List.drop_succ_cons, List.drop_zero, List.take_succ_cons, List.take_zero, List.toList_toArray, argsE, Array.append_empty, Array.empty_append, List.getElem?_toArray, Int.reduceLT, Int.reduceLE, Int.reduceToNat, Int.reduceEq, Nat.reduceLT, hd]
        refine loop_for (J := fun i e τ => i ≤ a.length ∧ e = [(1, .slice ba a.length ca), (2, .slice bb b.length cb), (3, .pointer (some ⟨σ.size, 0, none⟩)), (7, .bool true), (8, .bool (S i)), (9, .int .i64 (i : Int))] ∧ τ = ap σ [.cells 0 [.int .u8 n, .int .u8 m] (0, 0)]) a.length ⟨by omega, by rw [S0 _ hd]; rfl, rfl⟩ ?_
        rintro i e τ hi ⟨_, rfl, rfl⟩
        by_cases hcont : i < a.length ∧ S i = true
        · obtain ⟨hlt, hSi⟩ := hcont
          have hln := Sl i hSi
          have hltb : i < b.length := by omega
          have dl : decide ((i : Int) < (a.length : Int)) = true := by rw [decide_eq_true]; omega
          have hbd : (0:Int) ≤ (i:Int) ∧ (i:Int) < (a.length : Int) := by omega
          have hbe : (0:Int) ≤ (i:Int) ∧ (i:Int) < (b.length : Int) := by omega
          have hw : IntKind.wrap .i64 ((i:Int) + 1) = ((i + 1 : Nat) : Int) := by rw [wrap64' (by omega) (by omega)]; omega
          obtain ⟨bk, off, rfl, h1⟩ := (ra.Old (Old.ap (l := [.cells 0 [.int .u8 n, .int .u8 m] (0, 0)]))).at (by omega)
          obtain ⟨bk', off', rfl, h1'⟩ := (rb.Old (Old.ap (l := [.cells 0 [.int .u8 n, .int .u8 m] (0, 0)]))).at (by omega)
          have hrd := rd1_row h1 (j := i) (v := .string a[i]) (by simp [hlt])
          have hrd' := rd1_row h1' (j := i) (v := .string b[i]) (by simp [hltb])
          simp only [↓eD0, ↓eD1, eC0, eC1, eC2, eC3, eC4, eC5, eC6, wantedE, ↓reduceIte, Nat.reduceEqDiff, Option.map_some, Option.map_none, reread, List.nil_append, List.cons_append, List.map_cons, List.map_nil, List.length_nil, List.length_cons, Value.cells, List.getElem?_cons_zero, List.getElem?_cons_succ, outE, lks, lkR, rdV, neg1, evs, opt, Nat.reduceAdd, Nat.reduceMul, and_self, reduceCtorEq, List.size_toArray, List.all_cons, List.all_nil, Value.oneCell', List.set_cons_zero, List.set_cons_succ, sets, fillL, Nat.reduceLeDiff, List.drop_succ_cons, List.drop_zero, List.take_succ_cons, List.take_zero, List.toList_toArray, argsE, Array.append_empty, Array.empty_append, List.getElem?_toArray, Int.reduceLT, Int.reduceLE, Int.reduceToNat, Int.reduceEq, Nat.reduceLT, dl, hSi, hbd, hbe, Int.toNat_natCast, Nat.mul_one, hrd, hrd', hw]
          exact ⟨hlt, by omega, by rw [Ss i hlt hltb hSi]⟩
        obtain ⟨D, hD⟩ : ∃ D, D = decide (n = m ∧ a = b) := ⟨_, rfl⟩
        have hSD : S i = D := by
          rw [hD]
          by_cases hlt : i < a.length
          · cases hSi : S i with
            | true => exact absurd ⟨hlt, hSi⟩ hcont
            | false => exact (Sf i hSi).symm
          · have : i = a.length := by omega
            rw [this]; exact Sn
        rw [hSD] at hcont ⊢
        have hg0 : rd1 (ap σ [.cells 0 [.int .u8 n, .int .u8 m] (0, 0)]) ⟨σ.size, 0, none⟩ = some (.int .u8 n) := by rw [rd1_ap0]; rfl
        have hg1 : rd1 (ap σ [.cells 0 [.int .u8 n, .int .u8 m] (0, 0)]) ⟨σ.size, 1, none⟩ = some (.int .u8 m) := by rw [rd1_ap0]; rfl
        cases D with
        | true =>
          obtain ⟨rfl, rfl⟩ := of_decide_eq_true hD.symm
          have hlt : decide ((i : Int) < (a.length : Int)) = false := by rw [decide_eq_false]; intro h; exact hcont ⟨by omega, rfl⟩
          simp only [↓eD0, ↓eD1, eC0, eC1, eC2, eC3, eC4, eC5, eC6, wantedE, ↓reduceIte, Nat.reduceEqDiff, Option.map_some, Option.map_none, reread, List.nil_append, List.cons_append, List.map_cons, List.map_nil, List.length_nil, List.length_cons, Value.cells, List.getElem?_cons_zero, List.getElem?_cons_succ, outE, lks, lkR, rdV, neg1, evs, opt, Nat.reduceAdd, Nat.reduceMul, and_self, reduceCtorEq, List.size_toArray, List.all_cons, List.all_nil, Value.oneCell', List.set_cons_zero, List.set_cons_succ, sets, fillL, Nat.reduceLeDiff, List.drop_succ_cons, List.drop_zero, List.take_succ_cons, List.take_zero, List.toList_toArray, argsE, Array.append_empty, Array.empty_append, List.getElem?_toArray, Int.reduceLT, Int.reduceLE, Int.reduceToNat, Int.reduceEq, Nat.reduceLT, hlt, wn, hc2]
          refine appK_of (input_app (ra.Old .ap) (by omega) hba) ?_
          rintro x σ1 ⟨o1, g1⟩
          obtain ⟨x, rfl, r1⟩ := input_cells g1
          have hp1 := rd1_Old o1 hg1
          simp only [↓eD0, ↓eD1, eC0, eC1, eC2, eC3, eC4, eC5, eC6, wantedE, ↓reduceIte, Nat.reduceEqDiff, Option.map_some, Option.map_none, reread, List.nil_append, List.cons_append, List.map_cons, List.map_nil, List.length_nil, List.length_cons, Value.cells, List.getElem?_cons_zero, List.getElem?_cons_succ, outE, lks, lkR, rdV, neg1, evs, opt, Nat.reduceAdd, Nat.reduceMul, and_self, reduceCtorEq, List.size_toArray, List.all_cons, List.all_nil, Value.oneCell', List.set_cons_zero, List.set_cons_succ, sets, fillL, Nat.reduceLeDiff, List.drop_succ_cons, List.drop_zero, List.take_succ_cons, List.take_zero, List.toList_toArray, argsE, Array.append_empty, Array.empty_append, List.getElem?_toArray, Int.reduceLT, Int.reduceLE, Int.reduceToNat, Int.reduceEq, Nat.reduceLT, hp1, wn, hc2]
          refine appK_of (input_app ((rb.Old .ap).Old o1) (by omega) hbb) ?_
          rintro y σ2 ⟨o2, g2⟩
          obtain ⟨y, rfl, r2⟩ := input_cells g2
          have r1' := rdN_Old o2 r1
          simp only [↓eD0, ↓eD1, eC0, eC1, eC2, eC3, eC4, eC5, eC6, wantedE, ↓reduceIte, Nat.reduceEqDiff, Option.map_some, Option.map_none, reread, List.nil_append, List.cons_append, List.map_cons, List.map_nil, List.length_nil, List.length_cons, Value.cells, List.getElem?_cons_zero, List.getElem?_cons_succ, outE, lks, lkR, rdV, neg1, evs, opt, Nat.reduceAdd, Nat.reduceMul, and_self, reduceCtorEq, List.size_toArray, List.all_cons, List.all_nil, Value.oneCell', List.set_cons_zero, List.set_cons_succ, sets, fillL, Nat.reduceLeDiff, List.drop_succ_cons, List.drop_zero, List.take_succ_cons, List.take_zero, List.toList_toArray, argsE, Array.append_empty, Array.empty_append, List.getElem?_toArray, Int.reduceLT, Int.reduceLE, Int.reduceToNat, Int.reduceEq, Nat.reduceLT, r1', r2, Option.bind_some, bytesOf_dig]
          rw [ap_nil]
          exact (Old.ap.trans o1).trans o2
        | false =>
          have hne := of_decide_eq_false hD.symm
          have hni : inputF n a ≠ inputF m b := fun h => hne (hinj.1 h)
          cases hlt : decide ((i : Int) < (a.length : Int))
          all_goals
            simp only [↓eD0, ↓eD1, eC0, eC1, eC2, eC3, eC4, eC5, eC6, wantedE, ↓reduceIte, Nat.reduceEqDiff, Option.map_some, Option.map_none, reread, List.nil_append, List.cons_append, List.map_cons, List.map_nil, List.length_nil, List.length_cons, Value.cells, List.getElem?_cons_zero, List.getElem?_cons_succ, outE, lks, lkR, rdV, neg1, evs, opt, Nat.reduceAdd, Nat.reduceMul, and_self, reduceCtorEq, List.size_toArray, List.all_cons, List.all_nil, Value.oneCell', List.set_cons_zero, List.set_cons_succ, sets, fillL, Nat.reduceLeDiff, List.drop_succ_cons, List.drop_zero, List.take_succ_cons, List.take_zero, List.toList_toArray, argsE, Array.append_empty, Array.empty_append, List.getElem?_toArray, Int.reduceLT, Int.reduceLE, Int.reduceToNat, Int.reduceEq, Nat.reduceLT, hlt, wn, hc2]
            refine appK_of (input_app (ra.Old .ap) (by omega) hba) ?_
            rintro x σ1 ⟨o1, g1⟩
            have wx := g1.whl
            obtain ⟨x, rfl, r1⟩ := input_cells g1
            have hp1 := rd1_Old o1 hg1
            simp only [↓eD0, ↓eD1, eC0, eC1, eC2, eC3, eC4, eC5, eC6, wantedE, ↓reduceIte, Nat.reduceEqDiff, Option.map_some, Option.map_none, reread, List.nil_append, List.cons_append, List.map_cons, List.map_nil, List.length_nil, List.length_cons, Value.cells, List.getElem?_cons_zero, List.getElem?_cons_succ, outE, lks, lkR, rdV, neg1, evs, opt, Nat.reduceAdd, Nat.reduceMul, and_self, reduceCtorEq, List.size_toArray, List.all_cons, List.all_nil, Value.oneCell', List.set_cons_zero, List.set_cons_succ, sets, fillL, Nat.reduceLeDiff, List.drop_succ_cons, List.drop_zero, List.take_succ_cons, List.take_zero, List.toList_toArray, argsE, Array.append_empty, Array.empty_append, List.getElem?_toArray, Int.reduceLT, Int.reduceLE, Int.reduceToNat, Int.reduceEq, Nat.reduceLT, hp1, wm, hc2]
            refine appK_of (input_app ((rb.Old .ap).Old o1) (by omega) hbb) ?_
            rintro y σ2 ⟨o2, g2⟩
            have wy := g2.whl
            obtain ⟨y, rfl, r2⟩ := input_cells g2
            have r1' := rdN_Old o2 r1
            have wx' := wx.Old o2
            have O2 : Old σ σ2 := (Old.ap.trans o1).trans o2
            have hq0 := rd1_Old o2 (rd1_Old o1 hg0)
            have hq1 := rd1_Old o2 hp1
            have hq1' : ∀ l, rd1 (ap σ2 l) ⟨σ.size, 1, none⟩ = some (.int .u8 m) := fun l => rd1_old hq1
            have t1 := digC_take (l := ofF n a) ofF_len
            have s1 := digC_sets (z := List.replicate 16 0) (l := ofF n a) (by simp [ofF_len])
            have n1 := digC_ne' (l := ofF n a) ofF_len (by omega)
            have t2 := digC_take (l := ofF m b) ofF_len
            have s2 := digC_sets (z := List.replicate 16 0) (l := ofF m b) (by simp [ofF_len])
            have n2 := digC_ne' (l := ofF m b) ofF_len (by omega)
            have ae := aggEq_u8 (a := ofF n a) (b := ofF m b) (n := 16) ofF_len ofF_len
            clear r1 hp1 g1 g2 hg0 hg1 wx
            rw [← ap_nil (σ := σ2)] at hq0 ⊢
            simp only [↓eD0, ↓eD1, eC0, eC1, eC2, eC3, eC4, eC5, eC6, wantedE, ↓reduceIte, Nat.reduceEqDiff, Option.map_some, Option.map_none, reread, List.nil_append, List.cons_append, List.map_cons, List.map_nil, List.length_nil, List.length_cons, Value.cells, List.getElem?_cons_zero, List.getElem?_cons_succ, outE, lks, lkR, rdV, neg1, evs, opt, Nat.reduceAdd, Nat.reduceMul, and_self, reduceCtorEq, List.size_toArray, List.all_cons, List.all_nil, Value.oneCell', List.set_cons_zero, List.set_cons_succ, sets, fillL, Nat.reduceLeDiff, List.drop_succ_cons, List.drop_zero, List.take_succ_cons, List.take_zero, List.toList_toArray, argsE, Array.append_empty, Array.empty_append, List.getElem?_toArray, Int.reduceLT, Int.reduceLE, Int.reduceToNat, Int.reduceEq, Nat.reduceLT, hq0, hq1', wn, wm, hc2]
            refine appK_of (hof_app ((ra.Old O2).Old .ap) (by omega) hba ((hG.Old O2).Old .ap)) ?_
            rintro _ _ ⟨e2, rfl⟩
            rw [e2]
            clear e2
            simp only [↓eD0, ↓eD1, eC0, eC1, eC2, eC3, eC4, eC5, eC6, wantedE, ↓reduceIte, Nat.reduceEqDiff, Option.map_some, Option.map_none, reread, List.nil_append, List.cons_append, List.map_cons, List.map_nil, List.length_nil, List.length_cons, Value.cells, List.getElem?_cons_zero, List.getElem?_cons_succ, outE, lks, lkR, rdV, neg1, evs, opt, Nat.reduceAdd, Nat.reduceMul, and_self, reduceCtorEq, List.size_toArray, List.all_cons, List.all_nil, Value.oneCell', List.set_cons_zero, List.set_cons_succ, sets, fillL, Nat.reduceLeDiff, List.drop_succ_cons, List.drop_zero, List.take_succ_cons, List.take_zero, List.toList_toArray, argsE, Array.append_empty, Array.empty_append, List.getElem?_toArray, Int.reduceLT, Int.reduceLE, Int.reduceToNat, Int.reduceEq, Nat.reduceLT, digC_rep, digC_length, ofF_len, t1, s1, n1, digC_one, List.length_replicate, hq1', wm, hc2]
            refine appK_of (hof_app ((rb.Old O2).Old .ap) (by omega) hbb ((hG.Old O2).Old .ap)) ?_
            rintro _ _ ⟨e2, rfl⟩
            rw [e2]
            clear e2
            simp only [↓eD0, ↓eD1, eC0, eC1, eC2, eC3, eC4, eC5, eC6, wantedE, ↓reduceIte, Nat.reduceEqDiff, Option.map_some, Option.map_none, reread, List.nil_append, List.cons_append, List.map_cons, List.map_nil, List.length_nil, List.length_cons, Value.cells, List.getElem?_cons_zero, List.getElem?_cons_succ, outE, lks, lkR, rdV, neg1, evs, opt, Nat.reduceAdd, Nat.reduceMul, and_self, reduceCtorEq, List.size_toArray, List.all_cons, List.all_nil, Value.oneCell', List.set_cons_zero, List.set_cons_succ, sets, fillL, Nat.reduceLeDiff, List.drop_succ_cons, List.drop_zero, List.take_succ_cons, List.take_zero, List.toList_toArray, argsE, Array.append_empty, Array.empty_append, List.getElem?_toArray, Int.reduceLT, Int.reduceLE, Int.reduceToNat, Int.reduceEq, Nat.reduceLT, digC_rep, digC_length, ofF_len, t2, s2, n2, digC_one, List.length_replicate, hq1', wm, hc2]
            have lx := input_len (n := n) (a := a) (by omega) hsa
            have ly := input_len (n := m) (a := b) (by omega) hsb
            refine appK_of (hsum_app inputF_byt (wx'.Old .ap) (by omega) ((hG.Old O2).Old .ap)) ?_
            rintro _ _ ⟨e2, rfl⟩
            rw [e2]
            clear e2
            have t3 := digC_take (l := sumF (inputF n a)) sumF_len
            have s3 := digC_sets (z := List.replicate 32 0) (l := sumF (inputF n a)) (by simp [sumF_len])
            have n3 := digC_ne' (l := sumF (inputF n a)) sumF_len (by omega)
            have t4 := digC_take (l := sumF (inputF m b)) sumF_len
            have s4 := digC_sets (z := List.replicate 32 0) (l := sumF (inputF m b)) (by simp [sumF_len])
            have n4 := digC_ne' (l := sumF (inputF m b)) sumF_len (by omega)
            simp only [↓eD0, ↓eD1, eC0, eC1, eC2, eC3, eC4, eC5, eC6, wantedE, ↓reduceIte, Nat.reduceEqDiff, Option.map_some, Option.map_none, reread, List.nil_append, List.cons_append, List.map_cons, List.map_nil, List.length_nil, List.length_cons, Value.cells, List.getElem?_cons_zero, List.getElem?_cons_succ, outE, lks, lkR, rdV, neg1, evs, opt, Nat.reduceAdd, Nat.reduceMul, and_self, reduceCtorEq, List.size_toArray, List.all_cons, List.all_nil, Value.oneCell', List.set_cons_zero, List.set_cons_succ, sets, fillL, Nat.reduceLeDiff, List.drop_succ_cons, List.drop_zero, List.take_succ_cons, List.take_zero, List.toList_toArray, argsE, Array.append_empty, Array.empty_append, List.getElem?_toArray, Int.reduceLT, Int.reduceLE, Int.reduceToNat, Int.reduceEq, Nat.reduceLT, digC_rep, digC_length, sumF_len, t3, s3, n3, digC_one, List.length_replicate]
            refine appK_of (hsum_app inputF_byt (wy.Old .ap) (by omega) ((hG.Old O2).Old .ap)) ?_
            rintro _ _ ⟨e2, rfl⟩
            rw [e2]
            clear e2
            simp only [↓eD0, ↓eD1, eC0, eC1, eC2, eC3, eC4, eC5, eC6, wantedE, ↓reduceIte, Nat.reduceEqDiff, Option.map_some, Option.map_none, reread, List.nil_append, List.cons_append, List.map_cons, List.map_nil, List.length_nil, List.length_cons, Value.cells, List.getElem?_cons_zero, List.getElem?_cons_succ, outE, lks, lkR, rdV, neg1, evs, opt, Nat.reduceAdd, Nat.reduceMul, and_self, reduceCtorEq, List.size_toArray, List.all_cons, List.all_nil, Value.oneCell', List.set_cons_zero, List.set_cons_succ, sets, fillL, Nat.reduceLeDiff, List.drop_succ_cons, List.drop_zero, List.take_succ_cons, List.take_zero, List.toList_toArray, argsE, Array.append_empty, Array.empty_append, List.getElem?_toArray, Int.reduceLT, Int.reduceLE, Int.reduceToNat, Int.reduceEq, Nat.reduceLT, digC_rep, digC_length, sumF_len, t4, s4, n4, digC_one, List.length_replicate]
            obtain ⟨L, hL⟩ : ∃ L : List Blk, L = [.cells 1 (digC (ofF n a)) (0, 0), .cells 1 (digC (ofF m b)) (0, 0), .cells 1 (digC (sumF (inputF n a))) (0, 0), .cells 1 (digC (sumF (inputF m b))) (0, 0)] := ⟨_, rfl⟩
            rw [← hL]
            have C0 : pfx (sumF (inputF n a)) (sumF (inputF m b)) 0 = true := by simp [pfx]
            refine loop_for (J := fun k e τ => k ≤ 16 ∧ e = [(7, .bool true), (10, .slice (some ⟨x.1, 0, none⟩) (inputF n a).length x.2), (11, .slice (some ⟨y.1, 0, none⟩) (inputF m b).length y.2), (12, .pointer (some ⟨σ2.size, 0, none⟩)), (13, .pointer (some ⟨σ2.size + 1, 0, none⟩)), (14, .pointer (some ⟨σ2.size + 2, 0, none⟩)), (15, .pointer (some ⟨σ2.size + 3, 0, none⟩)), (16, .bool (pfx (sumF (inputF n a)) (sumF (inputF m b)) k)), (17, .int .i64 (k : Int))] ∧ τ = ap σ2 L) 16 ⟨by omega, by rw [C0]; rfl, rfl⟩ ?_
            rintro k e τ hk ⟨_, rfl, rfl⟩
            by_cases hk16 : k < 16
            · have c1 : decide ((k : Int) < 16) = true := by rw [decide_eq_true]; omega
              have wk : IntKind.wrap .i64 ((k : Int) + 1) = ((k + 1 : Nat) : Int) := by rw [wrap64' (by omega) (by omega)]; omega
              have p1 : k < (sumF (inputF n a)).length := by rw [sumF_len]; omega
              have p2 : k < (sumF (inputF m b)).length := by rw [sumF_len]; omega
              have hbd : (0:Int) ≤ (k:Int) ∧ (k:Int) < ((32 : Nat) : Int) := by omega
              have hr1 : rd1 (ap σ2 L) ⟨σ2.size + 2, k, none⟩ = some (.int .u8 ((sumF (inputF n a))[k]'p1)) := by
                have := rd1_row (rdN_all (σ := ap σ2 L) (b := σ2.size + 2) (ver := 1) (cs := digC (sumF (inputF n a))) (fz := (0, 0)) (by rw [ap_new, hL]; rfl) rfl) (j := k) (v := .int .u8 ((sumF (inputF n a))[k]'p1)) (by simp [digC, p1])
                rwa [Nat.zero_add] at this
              have hr2 : rd1 (ap σ2 L) ⟨σ2.size + 3, k, none⟩ = some (.int .u8 ((sumF (inputF m b))[k]'p2)) := by
                have := rd1_row (rdN_all (σ := ap σ2 L) (b := σ2.size + 3) (ver := 1) (cs := digC (sumF (inputF m b))) (fz := (0, 0)) (by rw [ap_new, hL]; rfl) rfl) (j := k) (v := .int .u8 ((sumF (inputF m b))[k]'p2)) (by simp [digC, p2])
                rwa [Nat.zero_add] at this
              have ps := pfx_succ p1 p2
              cases hp : pfx (sumF (inputF n a)) (sumF (inputF m b)) k with
              | true =>
                simp only [↓eD0, ↓eD1, eC0, eC1, eC2, eC3, eC4, eC5, eC6, wantedE, ↓reduceIte, Nat.reduceEqDiff, Option.map_some, Option.map_none, reread, List.nil_append, List.cons_append, List.map_cons, List.map_nil, List.length_nil, List.length_cons, Value.cells, List.getElem?_cons_zero, List.getElem?_cons_succ, outE, lks, lkR, rdV, neg1, evs, opt, Nat.reduceAdd, Nat.reduceMul, and_self, reduceCtorEq, List.size_toArray, List.all_cons, List.all_nil, Value.oneCell', List.set_cons_zero, List.set_cons_succ, sets, fillL, Nat.reduceLeDiff, List.drop_succ_cons, List.drop_zero, List.take_succ_cons, List.take_zero, List.toList_toArray, argsE, Array.append_empty, Array.empty_append, List.getElem?_toArray, Int.reduceLT, Int.reduceLE, Int.reduceToNat, Int.reduceEq, Nat.reduceLT, c1, hbd, Int.toNat_natCast, Nat.mul_one, Nat.zero_add, hr1, hr2, wk, hp]
                exact ⟨hk16, by omega, by rw [ps, hp]; rfl⟩
              | false =>
                simp only [↓eD0, ↓eD1, eC0, eC1, eC2, eC3, eC4, eC5, eC6, wantedE, ↓reduceIte, Nat.reduceEqDiff, Option.map_some, Option.map_none, reread, List.nil_append, List.cons_append, List.map_cons, List.map_nil, List.length_nil, List.length_cons, Value.cells, List.getElem?_cons_zero, List.getElem?_cons_succ, outE, lks, lkR, rdV, neg1, evs, opt, Nat.reduceAdd, Nat.reduceMul, and_self, reduceCtorEq, List.size_toArray, List.all_cons, List.all_nil, Value.oneCell', List.set_cons_zero, List.set_cons_succ, sets, fillL, Nat.reduceLeDiff, List.drop_succ_cons, List.drop_zero, List.take_succ_cons, List.take_zero, List.toList_toArray, argsE, Array.append_empty, Array.empty_append, List.getElem?_toArray, Int.reduceLT, Int.reduceLE, Int.reduceToNat, Int.reduceEq, Nat.reduceLT, c1, hbd, Int.toNat_natCast, Nat.mul_one, Nat.zero_add, hr1, hr2, wk, hp]
                exact ⟨hk16, by omega, by rw [ps, hp]; rfl⟩
            have hk' : k = 16 := by omega
            subst hk'
            have c1 : decide (((16 : Nat) : Int) < 16) = false := rfl
            have q1 : ∀ l, rdN (ap σ2 l) ⟨x.1, 0, none⟩ (inputF n a).length = some (digC (inputF n a)) := fun l => rdN_old r1'
            have q2 : ∀ l, rdN (ap σ2 l) ⟨y.1, 0, none⟩ (inputF m b).length = some (digC (inputF m b)) := fun l => rdN_old r2
            have hsd : decide (bytesS (inputF n a) = bytesS (inputF m b)) = false := decide_eq_false fun h => hni (by
              have := congrArg strI h
              rwa [strI_bytesS inputF_byt, strI_bytesS inputF_byt] at this)
            unfold bytesS at hsd
            have hfin : decide (ofF n a = ofF m b) = pfx (sumF (inputF n a)) (sumF (inputF m b)) 16 := by unfold ofF shortF pfx; rfl
            simp only [↓eD0, ↓eD1, eC0, eC1, eC2, eC3, eC4, eC5, eC6, wantedE, ↓reduceIte, Nat.reduceEqDiff, Option.map_some, Option.map_none, reread, List.nil_append, List.cons_append, List.map_cons, List.map_nil, List.length_nil, List.length_cons, Value.cells, List.getElem?_cons_zero, List.getElem?_cons_succ, outE, lks, lkR, rdV, neg1, evs, opt, Nat.reduceAdd, Nat.reduceMul, and_self, reduceCtorEq, List.size_toArray, List.all_cons, List.all_nil, Value.oneCell', List.set_cons_zero, List.set_cons_succ, sets, fillL, Nat.reduceLeDiff, List.drop_succ_cons, List.drop_zero, List.take_succ_cons, List.take_zero, List.toList_toArray, argsE, Array.append_empty, Array.empty_append, List.getElem?_toArray, Int.reduceLT, Int.reduceLE, Int.reduceToNat, Int.reduceEq, Nat.reduceLT, c1, q1, q2, Option.bind_some, bytesOf_dig, hsd, Bool.not_false]
            subst hL
            simp only [↓eD0, ↓eD1, eC0, eC1, eC2, eC3, eC4, eC5, eC6, wantedE, ↓reduceIte, Nat.reduceEqDiff, Option.map_some, Option.map_none, reread, List.nil_append, List.cons_append, List.map_cons, List.map_nil, List.length_nil, List.length_cons, Value.cells, List.getElem?_cons_zero, List.getElem?_cons_succ, outE, lks, lkR, rdV, neg1, evs, opt, Nat.reduceAdd, Nat.reduceMul, and_self, reduceCtorEq, List.size_toArray, List.all_cons, List.all_nil, Value.oneCell', List.set_cons_zero, List.set_cons_succ, sets, fillL, Nat.reduceLeDiff, List.drop_succ_cons, List.drop_zero, List.take_succ_cons, List.take_zero, List.toList_toArray, argsE, Array.append_empty, Array.empty_append, List.getElem?_toArray, Int.reduceLT, Int.reduceLE, Int.reduceToNat, Int.reduceEq, Nat.reduceLT, digC_length, ofF_len, t1, t2, ae, bin_seql, hfin]
            rw [ap_nil]
            exact O2.trans .ap
end Go.Proofs.YtoegoigfbldkoaaDoor
