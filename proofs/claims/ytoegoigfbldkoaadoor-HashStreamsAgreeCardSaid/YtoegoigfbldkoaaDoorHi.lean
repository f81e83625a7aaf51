/- Walks and plain laws. Conditions: none. -/
import Derived.Test.YtoegoigfbldkoaaDoorHh
set_option linter.all false
set_option linter.unusedSimpArgs false
set_option linter.unusedVariables false
set_option maxRecDepth 10000
set_option maxHeartbeats 2000000
namespace Go.Proofs.YtoegoigfbldkoaaDoor
open Go Go.Cn Go.RowKit
attribute [local irreducible] evL sem onG onI onV

theorem natL_append {a b : ByteArray} : natL (a ++ b) = natL a ++ natL b := by simp [natL, ByteArray.data_append]
theorem runY_app {r : V40} {a b : List Nat} : runY r (a ++ b) = runY (runY r a) b := by simp [runY, bitsY, runB_app]
theorem strI_nat {s : ByteArray} : (strI s).map Int.toNat = natL s := by
  rw [natL_strI]
  exact natI_nat
theorem joinS_all {l : List ByteArray} {n : Nat} (hs : ∀ s ∈ l, s.size ≤ n) : (joinS l).size ≤ l.length * n := by
  have := joinS_size hs l.length
  rwa [List.take_length] at this

theorem crc_str_app {L : List Blk} {j : Nat} {s : ByteArray} {σ : H} (h : L[j]? = some (.cells 0 (byteCells s) (0, 0))) (hs : s.size < 100000000000000) (hN : NGlob (ap σ L)) :
    App Tryd.prog (.func 16) #[] #[.slice (some ⟨σ.size + j, 0, none⟩) s.size (inex 1 s.size)] (ap σ L) fun v σ' => σ' = ap σ L ∧ v = .int .i64 (valF (runY (BitVec.allOnes 40) (natL s))) := by
  have hw := whl_str (σ := σ) h (big_lt (n := s.size) (by omega))
  have hl : (strI s).length = s.size := strI_len
  have := crc40_app strI_byt (by rw [hl]; exact hw) (by omega) hN
  rw [strI_nat] at this
  exact this

theorem law4 {l : List ByteArray} {sl : Value} {o : ByteArray} {t : Int} {σ : H} (hr : Whl σ 1 sl l.length (l.map .string)) (t0 : 0 ≤ t) (t1 : t ≤ 255) (hN : NGlob σ) (hG : HGlob σ) :
    App Tryd.prog (.func 4) #[] #[sl, .string o, .int .u8 t] σ fun v σ' => Old σ σ' ∧ v = .bool true := by
  refine App.of_sem mixed Tryd.func4 t4 k4 r4 (Nat.le_of_ble_eq_true rfl) ?_
  obtain ⟨bs, cc, rfl⟩ := hr.slice
  unfold s4
  rw [← ap_nil (σ := σ)]
  simp only [↓eD0, ↓eD1, eC0, eC1, eC2, eC3, eC4, eC5, eC6, wantedE, ↓reduceIte, Nat.reduceEqDiff, Option.map_some, Option.map_none, reread, List.nil_append, List.cons_append, List.map_cons, List.map_nil, List.length_nil, List.length_cons, Value.cells, List.getElem?_cons_zero, List.getElem?_cons_succ, outE, lks, lkR, rdV, neg1, evs, opt, Nat.reduceAdd, Nat.reduceMul, and_self, reduceCtorEq, List.size_toArray, List.all_cons, List.all_nil, Value.oneCell', List.set_cons_zero, List.set_cons_succ, sets, fillL, Nat.reduceLeDiff, List.drop_succ_cons, List.drop_zero, List.take_succ_cons, List.take_zero, List.toList_toArray, argsE, Array.append_empty, Array.empty_append, List.getElem?_toArray, Int.reduceLT, Int.reduceLE, Int.reduceToNat, Int.reduceEq, Nat.reduceLT]
  refine appK_of (sanity_app (hN.Old .ap) (hG.Old .ap)) ?_
  rintro _ _ ⟨e2, rfl⟩
  rw [e2]
  clear e2
  simp only [↓eD0, ↓eD1, eC0, eC1, eC2, eC3, eC4, eC5, eC6, wantedE, ↓reduceIte, Nat.reduceEqDiff, Option.map_some, Option.map_none, reread, List.nil_append, List.cons_append, List.map_cons, List.map_nil, List.length_nil, List.length_cons, Value.cells, List.getElem?_cons_zero, List.getElem?_cons_succ, outE, lks, lkR, rdV, neg1, evs, opt, Nat.reduceAdd, Nat.reduceMul, and_self, reduceCtorEq, List.size_toArray, List.all_cons, List.all_nil, Value.oneCell', List.set_cons_zero, List.set_cons_succ, sets, fillL, Nat.reduceLeDiff, List.drop_succ_cons, List.drop_zero, List.take_succ_cons, List.take_zero, List.toList_toArray, argsE, Array.append_empty, Array.empty_append, List.getElem?_toArray, Int.reduceLT, Int.reduceLE, Int.reduceToNat, Int.reduceEq, Nat.reduceLT]
  refine appK_of (few_app (hr.Old .ap)) ?_
  rintro _ _ ⟨e2, rfl⟩
  rw [e2]
  clear e2
  cases hf : fewF l with
  | false =>
    simp only [↓eD0, ↓eD1, eC0, eC1, eC2, eC3, eC4, eC5, eC6, wantedE, ↓reduceIte, Nat.reduceEqDiff, Option.map_some, Option.map_none, reread, List.nil_append, List.cons_append, List.map_cons, List.map_nil, List.length_nil, List.length_cons, Value.cells, List.getElem?_cons_zero, List.getElem?_cons_succ, outE, lks, lkR, rdV, neg1, evs, opt, Nat.reduceAdd, Nat.reduceMul, and_self, reduceCtorEq, List.size_toArray, List.all_cons, List.all_nil, Value.oneCell', List.set_cons_zero, List.set_cons_succ, sets, fillL, Nat.reduceLeDiff, List.drop_succ_cons, List.drop_zero, List.take_succ_cons, List.take_zero, List.toList_toArray, argsE, Array.append_empty, Array.empty_append, List.getElem?_toArray, Int.reduceLT, Int.reduceLE, Int.reduceToNat, Int.reduceEq, Nat.reduceLT, Bool.not_false, undef_eq]
    rw [ap_nil]
    exact .refl
  | true =>
    obtain ⟨hl, hs⟩ := few_iff.1 hf
    by_cases h4 : o.size ≤ 400
    case neg =>
      have d : decide ((400 : Int) < (o.size : Int)) = true := by rw [decide_eq_true]; omega
      simp only [↓eD0, ↓eD1, eC0, eC1, eC2, eC3, eC4, eC5, eC6, wantedE, ↓reduceIte, Nat.reduceEqDiff, Option.map_some, Option.map_none, reread, List.nil_append, List.cons_append, List.map_cons, List.map_nil, List.length_nil, List.length_cons, Value.cells, List.getElem?_cons_zero, List.getElem?_cons_succ, outE, lks, lkR, rdV, neg1, evs, opt, Nat.reduceAdd, Nat.reduceMul, and_self, reduceCtorEq, List.size_toArray, List.all_cons, List.all_nil, Value.oneCell', List.set_cons_zero, List.set_cons_succ, sets, fillL, Nat.reduceLeDiff, List.drop_succ_cons, List.drop_zero, List.take_succ_cons, List.take_zero, List.toList_toArray, argsE, Array.append_empty, Array.empty_append, List.getElem?_toArray, Int.reduceLT, Int.reduceLE, Int.reduceToNat, Int.reduceEq, Nat.reduceLT, Bool.not_true, d, undef_eq]
      rw [ap_nil]
      exact .refl
    have d : decide ((400 : Int) < (o.size : Int)) = false := by rw [decide_eq_false]; omega
    obtain ⟨K, hK⟩ : ∃ K : Nat, K = t.toNat % (l.length + 1) := ⟨_, rfl⟩
    have hKl : K ≤ l.length := by have : t.toNat % (l.length + 1) < l.length + 1 := Nat.mod_lt _ (by omega); omega
    have w1 : IntKind.wrap .i64 t = t := wrap64' (by omega) (by omega)
    have w2 : IntKind.wrap .i64 ((l.length : Int) + 1) = ((l.length + 1 : Nat) : Int) := by rw [wrap64' (by omega) (by omega)]; omega
    have w3 : t.tmod ((l.length + 1 : Nat) : Int) = (K : Int) := by
      rw [Int.tmod_eq_emod_of_nonneg t0]
      obtain ⟨t, rfl⟩ : ∃ n : Nat, t = (n : Int) := ⟨t.toNat, by omega⟩
      rw [hK, Int.toNat_natCast]; exact (Int.natCast_emod _ _).symm
    have w4 : IntKind.wrap .i64 (K : Int) = (K : Int) := wrap64' (by omega) (by omega)
    simp only [↓eD0, ↓eD1, eC0, eC1, eC2, eC3, eC4, eC5, eC6, wantedE, ↓reduceIte, Nat.reduceEqDiff, Option.map_some, Option.map_none, reread, List.nil_append, List.cons_append, List.map_cons, List.map_nil, List.length_nil, List.length_cons, Value.cells, List.getElem?_cons_zero, List.getElem?_cons_succ, outE, lks, lkR, rdV, neg1, evs, opt, Nat.reduceAdd, Nat.reduceMul, and_self, reduceCtorEq, List.size_toArray, List.all_cons, List.all_nil, Value.oneCell', List.set_cons_zero, List.set_cons_succ, sets, fillL, Nat.reduceLeDiff, List.drop_succ_cons, List.drop_zero, List.take_succ_cons, List.take_zero, List.toList_toArray, argsE, Array.append_empty, Array.empty_append, List.getElem?_toArray, Int.reduceLT, Int.reduceLE, Int.reduceToNat, Int.reduceEq, Nat.reduceLT, Bool.not_true, d, w1, w2, w3, w4]
    rw [if_neg (by omega)]
    simp only [↓eD0, ↓eD1, eC0, eC1, eC2, eC3, eC4, eC5, eC6, wantedE, ↓reduceIte, Nat.reduceEqDiff, Option.map_some, Option.map_none, reread, List.nil_append, List.cons_append, List.map_cons, List.map_nil, List.length_nil, List.length_cons, Value.cells, List.getElem?_cons_zero, List.getElem?_cons_succ, outE, lks, lkR, rdV, neg1, evs, opt, Nat.reduceAdd, Nat.reduceMul, and_self, reduceCtorEq, List.size_toArray, List.all_cons, List.all_nil, Value.oneCell', List.set_cons_zero, List.set_cons_succ, sets, fillL, Nat.reduceLeDiff, List.drop_succ_cons, List.drop_zero, List.take_succ_cons, List.take_zero, List.toList_toArray, argsE, Array.append_empty, Array.empty_append, List.getElem?_toArray, Int.reduceLT, Int.reduceLE, Int.reduceToNat, Int.reduceEq, Nat.reduceLT]
    refine appK_of begin_crc_app ?_
    rintro _ _ ⟨e2, rfl⟩
    rw [e2]
    clear e2
    have rs : ∀ i, (joinS (l.take i)).size ≤ i * 400 := joinS_size hs
    have rg : ∀ i, i ≤ l.length → (joinS (l.take i)).size ≤ 4800 := fun i hi => Nat.le_trans (rs i) (by omega)
    have stp : ∀ i (h : i < l.length), runY (runY (BitVec.allOnes 40) (natL (joinS (l.take i)))) (natL l[i]) = runY (BitVec.allOnes 40) (natL (joinS (l.take (i + 1)))) := by
      intro i h
      rw [joinS_take h, natL_append, runY_app]
    simp only [↓eD0, ↓eD1, eC0, eC1, eC2, eC3, eC4, eC5, eC6, wantedE, ↓reduceIte, Nat.reduceEqDiff, Option.map_some, Option.map_none, reread, List.nil_append, List.cons_append, List.map_cons, List.map_nil, List.length_nil, List.length_cons, Value.cells, List.getElem?_cons_zero, List.getElem?_cons_succ, outE, lks, lkR, rdV, neg1, evs, opt, Nat.reduceAdd, Nat.reduceMul, and_self, reduceCtorEq, List.size_toArray, List.all_cons, List.all_nil, Value.oneCell', List.set_cons_zero, List.set_cons_succ, sets, fillL, Nat.reduceLeDiff, List.drop_succ_cons, List.drop_zero, List.take_succ_cons, List.take_zero, List.toList_toArray, argsE, Array.append_empty, Array.empty_append, List.getElem?_toArray, Int.reduceLT, Int.reduceLE, Int.reduceToNat, Int.reduceEq, Nat.reduceLT]
    refine loop_for (J := fun i e τ => i ≤ K ∧ ∃ v, e = [(0, .slice bs l.length cc), (1, .string o), (7, .bool true), (8, .int .i64 (K : Int)), (9, .pointer (some ⟨σ.size, 0, none⟩)), (10, .int .i64 (i : Int))] ∧ τ = ap σ [.cells v [.int .u64 ((runY (BitVec.allOnes 40) (natL (joinS (l.take i)))).toNat : Int)] (0, 0)]) K ⟨by omega, _, rfl, rfl⟩ ?_
    rintro i e τ hi ⟨_, v, rfl, rfl⟩
    by_cases hlt : i < K
    · have dl : decide ((i : Int) < (K : Int)) = true := by rw [decide_eq_true]; omega
      have hbd : (0:Int) ≤ (i:Int) ∧ (i:Int) < (l.length : Int) := by omega
      have hw : IntKind.wrap .i64 ((i:Int) + 1) = ((i + 1 : Nat) : Int) := by rw [wrap64' (by omega) (by omega)]; omega
      obtain ⟨bk, off, rfl, h1⟩ := (hr.Old (Old.ap (l := [.cells v [.int .u64 ((runY (BitVec.allOnes 40) (natL (joinS (l.take i)))).toNat : Int)] (0, 0)]))).at (by omega)
      have hrd := rd1_row h1 (j := i) (v := .string l[i]) (by simp [show i < l.length by omega])
      have hsi := hs l[i] (List.getElem_mem _)
      simp only [↓eD0, ↓eD1, eC0, eC1, eC2, eC3, eC4, eC5, eC6, wantedE, ↓reduceIte, Nat.reduceEqDiff, Option.map_some, Option.map_none, reread, List.nil_append, List.cons_append, List.map_cons, List.map_nil, List.length_nil, List.length_cons, Value.cells, List.getElem?_cons_zero, List.getElem?_cons_succ, outE, lks, lkR, rdV, neg1, evs, opt, Nat.reduceAdd, Nat.reduceMul, and_self, reduceCtorEq, List.size_toArray, List.all_cons, List.all_nil, Value.oneCell', List.set_cons_zero, List.set_cons_succ, sets, fillL, Nat.reduceLeDiff, List.drop_succ_cons, List.drop_zero, List.take_succ_cons, List.take_zero, List.toList_toArray, argsE, Array.append_empty, Array.empty_append, List.getElem?_toArray, Int.reduceLT, Int.reduceLE, Int.reduceToNat, Int.reduceEq, Nat.reduceLT, dl, hbd, Int.toNat_natCast, Nat.mul_one, hrd]
      refine appK_of (add_crc_app (by omega) (hN.Old .ap)) ?_
      rintro _ _ ⟨e2, rfl⟩
      rw [e2, stp i (by omega)]
      clear e2
      simp only [↓eD0, ↓eD1, eC0, eC1, eC2, eC3, eC4, eC5, eC6, wantedE, ↓reduceIte, Nat.reduceEqDiff, Option.map_some, Option.map_none, reread, List.nil_append, List.cons_append, List.map_cons, List.map_nil, List.length_nil, List.length_cons, Value.cells, List.getElem?_cons_zero, List.getElem?_cons_succ, outE, lks, lkR, rdV, neg1, evs, opt, Nat.reduceAdd, Nat.reduceMul, and_self, reduceCtorEq, List.size_toArray, List.all_cons, List.all_nil, Value.oneCell', List.set_cons_zero, List.set_cons_succ, sets, fillL, Nat.reduceLeDiff, List.drop_succ_cons, List.drop_zero, List.take_succ_cons, List.take_zero, List.toList_toArray, argsE, Array.append_empty, Array.empty_append, List.getElem?_toArray, Int.reduceLT, Int.reduceLE, Int.reduceToNat, Int.reduceEq, Nat.reduceLT, hw]
      exact ⟨hlt, by omega, v + 1, rfl⟩
    have : i = K := by omega
    subst this
    have dl : decide ((i : Int) < (i : Int)) = false := by rw [decide_eq_false]; omega
    simp only [↓eD0, ↓eD1, eC0, eC1, eC2, eC3, eC4, eC5, eC6, wantedE, ↓reduceIte, Nat.reduceEqDiff, Option.map_some, Option.map_none, reread, List.nil_append, List.cons_append, List.map_cons, List.map_nil, List.length_nil, List.length_cons, Value.cells, List.getElem?_cons_zero, List.getElem?_cons_succ, outE, lks, lkR, rdV, neg1, evs, opt, Nat.reduceAdd, Nat.reduceMul, and_self, reduceCtorEq, List.size_toArray, List.all_cons, List.all_nil, Value.oneCell', List.set_cons_zero, List.set_cons_succ, sets, fillL, Nat.reduceLeDiff, List.drop_succ_cons, List.drop_zero, List.take_succ_cons, List.take_zero, List.toList_toArray, argsE, Array.append_empty, Array.empty_append, List.getElem?_toArray, Int.reduceLT, Int.reduceLE, Int.reduceToNat, Int.reduceEq, Nat.reduceLT, dl]
    generalize hR : runY (BitVec.allOnes 40) (natL (joinS (l.take i))) = R
    refine loop_for (J := fun j e τ => i + j ≤ l.length ∧ ∃ w, e = [(0, .slice bs l.length cc), (1, .string o), (7, .bool true), (8, .int .i64 (i : Int)), (9, .pointer (some ⟨σ.size, 0, none⟩)), (11, .pointer (some ⟨σ.size + 1, 0, none⟩)), (12, .int .i64 ((i + j : Nat) : Int))] ∧ τ = ap σ [.cells w [.int .u64 ((runY (BitVec.allOnes 40) (natL (joinS (l.take (i + j))))).toNat : Int)] (0, 0), .cells 1 [.int .u64 (R.toNat : Int)] (0, 0)]) (l.length - i) ⟨by omega, v, rfl, by rw [Nat.add_zero, hR]⟩ ?_
    rintro j e τ hj ⟨hij, w, rfl, rfl⟩
    generalize hk : i + j = k at *
    by_cases hlt : k < l.length
    · have dl : decide ((k : Int) < (l.length : Int)) = true := by rw [decide_eq_true]; omega
      have hbd : (0:Int) ≤ (k:Int) ∧ (k:Int) < (l.length : Int) := by omega
      have hw : IntKind.wrap .i64 ((k:Int) + 1) = ((i + (j + 1) : Nat) : Int) := by rw [wrap64' (by omega) (by omega)]; omega
      obtain ⟨bk, off, rfl, h1⟩ := (hr.Old (Old.ap (l := [.cells w [.int .u64 ((runY (BitVec.allOnes 40) (natL (joinS (l.take k)))).toNat : Int)] (0, 0), .cells 1 [.int .u64 (R.toNat : Int)] (0, 0)]))).at (by omega)
      have hrd := rd1_row h1 (j := k) (v := .string l[k]) (by simp [hlt])
      have hsi := hs l[k] (List.getElem_mem _)
      simp only [↓eD0, ↓eD1, eC0, eC1, eC2, eC3, eC4, eC5, eC6, wantedE, ↓reduceIte, Nat.reduceEqDiff, Option.map_some, Option.map_none, reread, List.nil_append, List.cons_append, List.map_cons, List.map_nil, List.length_nil, List.length_cons, Value.cells, List.getElem?_cons_zero, List.getElem?_cons_succ, outE, lks, lkR, rdV, neg1, evs, opt, Nat.reduceAdd, Nat.reduceMul, and_self, reduceCtorEq, List.size_toArray, List.all_cons, List.all_nil, Value.oneCell', List.set_cons_zero, List.set_cons_succ, sets, fillL, Nat.reduceLeDiff, List.drop_succ_cons, List.drop_zero, List.take_succ_cons, List.take_zero, List.toList_toArray, argsE, Array.append_empty, Array.empty_append, List.getElem?_toArray, Int.reduceLT, Int.reduceLE, Int.reduceToNat, Int.reduceEq, Nat.reduceLT, dl, hbd, Int.toNat_natCast, Nat.mul_one, hrd]
      refine appK_of (add_crc_app (by omega) (hN.Old .ap)) ?_
      rintro _ _ ⟨e2, rfl⟩
      rw [e2, stp k hlt]
      clear e2
      simp only [↓eD0, ↓eD1, eC0, eC1, eC2, eC3, eC4, eC5, eC6, wantedE, ↓reduceIte, Nat.reduceEqDiff, Option.map_some, Option.map_none, reread, List.nil_append, List.cons_append, List.map_cons, List.map_nil, List.length_nil, List.length_cons, Value.cells, List.getElem?_cons_zero, List.getElem?_cons_succ, outE, lks, lkR, rdV, neg1, evs, opt, Nat.reduceAdd, Nat.reduceMul, and_self, reduceCtorEq, List.size_toArray, List.all_cons, List.all_nil, Value.oneCell', List.set_cons_zero, List.set_cons_succ, sets, fillL, Nat.reduceLeDiff, List.drop_succ_cons, List.drop_zero, List.take_succ_cons, List.take_zero, List.toList_toArray, argsE, Array.append_empty, Array.empty_append, List.getElem?_toArray, Int.reduceLT, Int.reduceLE, Int.reduceToNat, Int.reduceEq, Nat.reduceLT, hw]
      exact ⟨by omega, by omega, w + 1, by rw [← Nat.add_assoc, hk]⟩
    have hkl : k = l.length := by omega
    subst hkl
    have dl : decide ((l.length : Int) < (l.length : Int)) = false := by rw [decide_eq_false]; omega
    simp only [↓eD0, ↓eD1, eC0, eC1, eC2, eC3, eC4, eC5, eC6, wantedE, ↓reduceIte, Nat.reduceEqDiff, Option.map_some, Option.map_none, reread, List.nil_append, List.cons_append, List.map_cons, List.map_nil, List.length_nil, List.length_cons, Value.cells, List.getElem?_cons_zero, List.getElem?_cons_succ, outE, lks, lkR, rdV, neg1, evs, opt, Nat.reduceAdd, Nat.reduceMul, and_self, reduceCtorEq, List.size_toArray, List.all_cons, List.all_nil, Value.oneCell', List.set_cons_zero, List.set_cons_succ, sets, fillL, Nat.reduceLeDiff, List.drop_succ_cons, List.drop_zero, List.take_succ_cons, List.take_zero, List.toList_toArray, argsE, Array.append_empty, Array.empty_append, List.getElem?_toArray, Int.reduceLT, Int.reduceLE, Int.reduceToNat, Int.reduceEq, Nat.reduceLT, dl]
    rw [List.take_length]
    refine appK_of (add_crc_app (by omega) (hN.Old .ap)) ?_
    rintro _ _ ⟨e2, rfl⟩
    rw [e2]
    clear e2
    simp only [↓eD0, ↓eD1, eC0, eC1, eC2, eC3, eC4, eC5, eC6, wantedE, ↓reduceIte, Nat.reduceEqDiff, Option.map_some, Option.map_none, reread, List.nil_append, List.cons_append, List.map_cons, List.map_nil, List.length_nil, List.length_cons, Value.cells, List.getElem?_cons_zero, List.getElem?_cons_succ, outE, lks, lkR, rdV, neg1, evs, opt, Nat.reduceAdd, Nat.reduceMul, and_self, reduceCtorEq, List.size_toArray, List.all_cons, List.all_nil, Value.oneCell', List.set_cons_zero, List.set_cons_succ, sets, fillL, Nat.reduceLeDiff, List.drop_succ_cons, List.drop_zero, List.take_succ_cons, List.take_zero, List.toList_toArray, argsE, Array.append_empty, Array.empty_append, List.getElem?_toArray, Int.reduceLT, Int.reduceLE, Int.reduceToNat, Int.reduceEq, Nat.reduceLT]
    refine appK_of (joined_app (hr.Old .ap) (by omega) (fun s h => Nat.le_trans (hs s h) (by omega))) ?_
    rintro _ _ ⟨e2, rfl⟩
    rw [e2]
    clear e2
    obtain ⟨v', hsl, hW⟩ := sliceV_whl (L := none) (lo := 0) (hi := i) hr (.inr ⟨rfl, rfl⟩) (by omega) hKl
    have hcs : ((l.map Value.string).drop (0 * 1)).take ((i - 0) * 1) = (l.take i).map Value.string := by simp [List.map_take]
    rw [hcs, show i - 0 = (l.take i).length by rw [List.length_take]; omega] at hW
    simp only [↓eD0, ↓eD1, eC0, eC1, eC2, eC3, eC4, eC5, eC6, wantedE, ↓reduceIte, Nat.reduceEqDiff, Option.map_some, Option.map_none, reread, List.nil_append, List.cons_append, List.map_cons, List.map_nil, List.length_nil, List.length_cons, Value.cells, List.getElem?_cons_zero, List.getElem?_cons_succ, outE, lks, lkR, rdV, neg1, evs, opt, Nat.reduceAdd, Nat.reduceMul, and_self, reduceCtorEq, List.size_toArray, List.all_cons, List.all_nil, Value.oneCell', List.set_cons_zero, List.set_cons_succ, sets, fillL, Nat.reduceLeDiff, List.drop_succ_cons, List.drop_zero, List.take_succ_cons, List.take_zero, List.toList_toArray, argsE, Array.append_empty, Array.empty_append, List.getElem?_toArray, Int.reduceLT, Int.reduceLE, Int.reduceToNat, Int.reduceEq, Nat.reduceLT, hsl]
    refine appK_of (joined_app (hW.Old .ap) (by rw [List.length_take]; omega) (fun s h => Nat.le_trans (hs s (List.mem_of_mem_take h)) (by omega))) ?_
    rintro _ _ ⟨e2, rfl⟩
    rw [e2]
    clear e2
    have hri := rg i hKl
    have hrl := rg l.length (Nat.le_refl _)
    rw [List.take_length] at hrl
    generalize hP : joinS l = Pw at *
    generalize hH : joinS (l.take i) = Ph at *
    simp only [↓eD0, ↓eD1, eC0, eC1, eC2, eC3, eC4, eC5, eC6, wantedE, ↓reduceIte, Nat.reduceEqDiff, Option.map_some, Option.map_none, reread, List.nil_append, List.cons_append, List.map_cons, List.map_nil, List.length_nil, List.length_cons, Value.cells, List.getElem?_cons_zero, List.getElem?_cons_succ, outE, lks, lkR, rdV, neg1, evs, opt, Nat.reduceAdd, Nat.reduceMul, and_self, reduceCtorEq, List.size_toArray, List.all_cons, List.all_nil, Value.oneCell', List.set_cons_zero, List.set_cons_succ, sets, fillL, Nat.reduceLeDiff, List.drop_succ_cons, List.drop_zero, List.take_succ_cons, List.take_zero, List.toList_toArray, argsE, Array.append_empty, Array.empty_append, List.getElem?_toArray, Int.reduceLT, Int.reduceLE, Int.reduceToNat, Int.reduceEq, Nat.reduceLT]
    refine appK_of value_app ?_
    rintro _ _ ⟨e2, rfl⟩
    rw [e2]
    clear e2
    have bP : (Pw.size < big) = True := eq_true (big_lt (by omega))
    have bH : (Ph.size < big) = True := eq_true (big_lt (by omega))
    simp only [↓eD0, ↓eD1, eC0, eC1, eC2, eC3, eC4, eC5, eC6, wantedE, ↓reduceIte, Nat.reduceEqDiff, Option.map_some, Option.map_none, reread, List.nil_append, List.cons_append, List.map_cons, List.map_nil, List.length_nil, List.length_cons, Value.cells, List.getElem?_cons_zero, List.getElem?_cons_succ, outE, lks, lkR, rdV, neg1, evs, opt, Nat.reduceAdd, Nat.reduceMul, and_self, reduceCtorEq, List.size_toArray, List.all_cons, List.all_nil, Value.oneCell', List.set_cons_zero, List.set_cons_succ, sets, fillL, Nat.reduceLeDiff, List.drop_succ_cons, List.drop_zero, List.take_succ_cons, List.take_zero, List.toList_toArray, argsE, Array.append_empty, Array.empty_append, List.getElem?_toArray, Int.reduceLT, Int.reduceLE, Int.reduceToNat, Int.reduceEq, Nat.reduceLT, bP, bH]
    refine appK_of (crc_str_app (j := 3) rfl (by omega) (hN.Old .ap)) ?_
    rintro _ _ ⟨e2, rfl⟩
    rw [e2]
    clear e2
    simp only [↓eD0, ↓eD1, eC0, eC1, eC2, eC3, eC4, eC5, eC6, wantedE, ↓reduceIte, Nat.reduceEqDiff, Option.map_some, Option.map_none, reread, List.nil_append, List.cons_append, List.map_cons, List.map_nil, List.length_nil, List.length_cons, Value.cells, List.getElem?_cons_zero, List.getElem?_cons_succ, outE, lks, lkR, rdV, neg1, evs, opt, Nat.reduceAdd, Nat.reduceMul, and_self, reduceCtorEq, List.size_toArray, List.all_cons, List.all_nil, Value.oneCell', List.set_cons_zero, List.set_cons_succ, sets, fillL, Nat.reduceLeDiff, List.drop_succ_cons, List.drop_zero, List.take_succ_cons, List.take_zero, List.toList_toArray, argsE, Array.append_empty, Array.empty_append, List.getElem?_toArray, Int.reduceLT, Int.reduceLE, Int.reduceToNat, Int.reduceEq, Nat.reduceLT, bP, bH, decide_true]
    refine appK_of value_app ?_
    rintro _ _ ⟨e2, rfl⟩
    rw [e2]
    clear e2
    simp only [↓eD0, ↓eD1, eC0, eC1, eC2, eC3, eC4, eC5, eC6, wantedE, ↓reduceIte, Nat.reduceEqDiff, Option.map_some, Option.map_none, reread, List.nil_append, List.cons_append, List.map_cons, List.map_nil, List.length_nil, List.length_cons, Value.cells, List.getElem?_cons_zero, List.getElem?_cons_succ, outE, lks, lkR, rdV, neg1, evs, opt, Nat.reduceAdd, Nat.reduceMul, and_self, reduceCtorEq, List.size_toArray, List.all_cons, List.all_nil, Value.oneCell', List.set_cons_zero, List.set_cons_succ, sets, fillL, Nat.reduceLeDiff, List.drop_succ_cons, List.drop_zero, List.take_succ_cons, List.take_zero, List.toList_toArray, argsE, Array.append_empty, Array.empty_append, List.getElem?_toArray, Int.reduceLT, Int.reduceLE, Int.reduceToNat, Int.reduceEq, Nat.reduceLT, bP, bH, decide_true]
    refine appK_of (crc_str_app (j := 4) rfl (by omega) (hN.Old .ap)) ?_
    rintro _ _ ⟨e2, rfl⟩
    rw [e2, hR]
    clear e2
    simp only [↓eD0, ↓eD1, eC0, eC1, eC2, eC3, eC4, eC5, eC6, wantedE, ↓reduceIte, Nat.reduceEqDiff, Option.map_some, Option.map_none, reread, List.nil_append, List.cons_append, List.map_cons, List.map_nil, List.length_nil, List.length_cons, Value.cells, List.getElem?_cons_zero, List.getElem?_cons_succ, outE, lks, lkR, rdV, neg1, evs, opt, Nat.reduceAdd, Nat.reduceMul, and_self, reduceCtorEq, List.size_toArray, List.all_cons, List.all_nil, Value.oneCell', List.set_cons_zero, List.set_cons_succ, sets, fillL, Nat.reduceLeDiff, List.drop_succ_cons, List.drop_zero, List.take_succ_cons, List.take_zero, List.toList_toArray, argsE, Array.append_empty, Array.empty_append, List.getElem?_toArray, Int.reduceLT, Int.reduceLE, Int.reduceToNat, Int.reduceEq, Nat.reduceLT, bP, bH, decide_true]
    refine appK_of value_app ?_
    rintro _ _ ⟨e2, rfl⟩
    rw [e2]
    clear e2
    have sz : (Ph ++ o).size = Ph.size + o.size := ByteArray.size_append
    have bS : ((Ph ++ o).size < big) = True := eq_true (big_lt (by omega))
    have cS : Ph.size + o.size ≤ 9223372036854775807 := by omega
    simp only [↓eD0, ↓eD1, eC0, eC1, eC2, eC3, eC4, eC5, eC6, wantedE, ↓reduceIte, Nat.reduceEqDiff, Option.map_some, Option.map_none, reread, List.nil_append, List.cons_append, List.map_cons, List.map_nil, List.length_nil, List.length_cons, Value.cells, List.getElem?_cons_zero, List.getElem?_cons_succ, outE, lks, lkR, rdV, neg1, evs, opt, Nat.reduceAdd, Nat.reduceMul, and_self, reduceCtorEq, List.size_toArray, List.all_cons, List.all_nil, Value.oneCell', List.set_cons_zero, List.set_cons_succ, sets, fillL, Nat.reduceLeDiff, List.drop_succ_cons, List.drop_zero, List.take_succ_cons, List.take_zero, List.toList_toArray, argsE, Array.append_empty, Array.empty_append, List.getElem?_toArray, Int.reduceLT, Int.reduceLE, Int.reduceToNat, Int.reduceEq, Nat.reduceLT, bP, bH, decide_true, cS, bS]
    refine appK_of (crc_str_app (j := 5) rfl (by omega) (hN.Old .ap)) ?_
    rintro _ _ ⟨e2, rfl⟩
    rw [e2, natL_append, runY_app, hR]
    clear e2
    simp only [↓eD0, ↓eD1, eC0, eC1, eC2, eC3, eC4, eC5, eC6, wantedE, ↓reduceIte, Nat.reduceEqDiff, Option.map_some, Option.map_none, reread, List.nil_append, List.cons_append, List.map_cons, List.map_nil, List.length_nil, List.length_cons, Value.cells, List.getElem?_cons_zero, List.getElem?_cons_succ, outE, lks, lkR, rdV, neg1, evs, opt, Nat.reduceAdd, Nat.reduceMul, and_self, reduceCtorEq, List.size_toArray, List.all_cons, List.all_nil, Value.oneCell', List.set_cons_zero, List.set_cons_succ, sets, fillL, Nat.reduceLeDiff, List.drop_succ_cons, List.drop_zero, List.take_succ_cons, List.take_zero, List.toList_toArray, argsE, Array.append_empty, Array.empty_append, List.getElem?_toArray, Int.reduceLT, Int.reduceLE, Int.reduceToNat, Int.reduceEq, Nat.reduceLT, bP, bH, decide_true]
    rw [ap_nil]
    exact .ap
end Go.Proofs.YtoegoigfbldkoaaDoor
