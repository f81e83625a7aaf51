/- Walks of the functions that the claim reaches. Conditions: none. -/
import Derived.Test.YtoegoigfbldkoaaDoorHd
set_option linter.all false
set_option linter.unusedSimpArgs false
set_option linter.unusedVariables false
set_option maxRecDepth 10000
set_option maxHeartbeats 1000000
namespace Go.Proofs.YtoegoigfbldkoaaDoor
open Go Go.Cn Go.RowKit
attribute [local irreducible] evL sem onG onI onV

theorem bytes32_app {σ : H} {d : List Int} (hd : d.length = 32) : App Tryd.prog (.func 38) #[] #[.agg (digC d).toArray] σ fun v σ' => σ' = σ ∧ v = .string (bytesS d) := by
  refine App.forget (App.of_sem mixed Tryd.func38 t38 k38 r38 (Nat.le_of_ble_eq_true rfl) ?_)
  unfold s38
  have hd' : (digC d).length = 32 := by simp [digC, hd]
  rw [← ap_nil (σ := σ)]
  simp only [↓eD0, ↓eD1, eC0, eC1, eC2, eC3, eC4, eC5, eC6, wantedE, ↓reduceIte, Nat.reduceEqDiff, Option.map_some, Option.map_none, reread, List.nil_append, List.cons_append, List.map_cons, List.map_nil, List.length_nil, List.length_cons, Value.cells, List.getElem?_cons_zero, List.getElem?_cons_succ, outE, lks, lkR, rdV, neg1, evs, opt, Nat.reduceAdd, Nat.reduceMul, and_self, reduceCtorEq, List.size_toArray, List.all_cons, List.all_nil, Value.oneCell', List.set_cons_zero, List.set_cons_succ, sets, fillL, Nat.reduceLeDiff, List.drop_succ_cons, List.drop_zero, List.take_succ_cons, List.take_zero, List.toList_toArray, argsE, Array.append_empty, Array.empty_append, List.getElem?_toArray, Int.reduceLT, Int.reduceLE, Int.reduceToNat, Int.reduceEq, Nat.reduceLT, hd']
  refine loop_for (J := fun i e τ => i ≤ 32 ∧ ∃ v, e = [(1, .pointer (some ⟨σ.size, 0, none⟩)), (3, v), (4, .int .i64 i)] ∧ Old σ τ ∧ τ[σ.size]? = some (.cells 0 (digC d) (0, 0)) ∧ Grown (sized (σ.size + 1)) τ 1 v (digC (d.take i)) (d.take i).length) 32
    ⟨by omega, _, rfl, .ap, ap_new0, .nil⟩ ?_
  rintro i e τ hi ⟨_, v, rfl, ho, hb0, hg⟩
  have hlt1 : σ.size < τ.size := (Array.getElem?_eq_some_iff.1 hb0).1
  rw [← ap_nil (σ := τ)]
  by_cases hlt : i < 32
  · have dl : decide ((i : Int) < 32) = true := by rw [decide_eq_true]; omega
    have hrd : ∀ L, rd1 (ap τ L) ⟨σ.size, i, none⟩ = some (.int .u8 d[i]) := fun L => by rw [rd1_eq, ap_old hlt1, hb0, rdc1_cells]; simp [digC, hd, hlt]
    have hb : (0:Int) ≤ (i:Int) ∧ (i:Int) < ((32:Nat) : Int) := by omega
    have hw : IntKind.wrap .i64 ((i:Int) + 1) = ((i + 1 : Nat) : Int) := by rw [wrap64' (by omega) (by omega)]; omega
    simp only [↓eD0, ↓eD1, eC0, eC1, eC2, eC3, eC4, eC5, eC6, wantedE, ↓reduceIte, Nat.reduceEqDiff, Option.map_some, Option.map_none, reread, List.nil_append, List.cons_append, List.map_cons, List.map_nil, List.length_nil, List.length_cons, Value.cells, List.getElem?_cons_zero, List.getElem?_cons_succ, outE, lks, lkR, rdV, neg1, evs, opt, Nat.reduceAdd, Nat.reduceMul, and_self, reduceCtorEq, List.size_toArray, List.all_cons, List.all_nil, Value.oneCell', List.set_cons_zero, List.set_cons_succ, sets, fillL, Nat.reduceLeDiff, List.drop_succ_cons, List.drop_zero, List.take_succ_cons, List.take_zero, List.toList_toArray, argsE, Array.append_empty, Array.empty_append, List.getElem?_toArray, Int.reduceLT, Int.reduceLE, Int.reduceToNat, Int.reduceEq, Nat.reduceLT, dl, hb, Int.toNat_natCast, Nat.mul_one, Nat.one_mul, hrd]
    obtain ⟨v', τ', ha, hA⟩ := append_bytes (σ := ap τ [.cells 0 [.int .u8 d[i]] (0, 0)]) (hg.old .ap) (by rw [sized_size, ap_size]; omega) (x_one (j := 0) rfl) (by simp; omega)
    refine onV_of ha ?_
    simp only [↓eD0, ↓eD1, eC0, eC1, eC2, eC3, eC4, eC5, eC6, wantedE, ↓reduceIte, Nat.reduceEqDiff, Option.map_some, Option.map_none, reread, List.nil_append, List.cons_append, List.map_cons, List.map_nil, List.length_nil, List.length_cons, Value.cells, List.getElem?_cons_zero, List.getElem?_cons_succ, outE, lks, lkR, rdV, neg1, evs, opt, Nat.reduceAdd, Nat.reduceMul, and_self, reduceCtorEq, List.size_toArray, List.all_cons, List.all_nil, Value.oneCell', List.set_cons_zero, List.set_cons_succ, sets, fillL, Nat.reduceLeDiff, List.drop_succ_cons, List.drop_zero, List.take_succ_cons, List.take_zero, List.toList_toArray, argsE, Array.append_empty, Array.empty_append, List.getElem?_toArray, Int.reduceLT, Int.reduceLE, Int.reduceToNat, Int.reduceEq, Nat.reduceLT, hw]
    refine ⟨hlt, by omega, v', rfl, hA.Old' (hg.old .ap) (by rw [sized_size]; omega) (ho.trans .ap), hA.low (hg.old .ap) (by rw [sized_size]; omega) ((ap_old hlt1).trans hb0), ?_⟩
    rw [List.take_succ_eq_append_getElem (by omega)]
    exact hA.grown
  · have : i = 32 := by omega
    subst this
    have dl : decide (((32 : Nat) : Int) < 32) = false := by decide
    rw [List.take_of_length_le (by omega)] at hg
    obtain ⟨bs, cc, rfl⟩ := hg.slice
    obtain ⟨bk, off, rfl, h2⟩ := (hg.old (Old.ap (l := []))).whl.at (by omega)
    rw [Nat.mul_one] at h2
    simp only [↓eD0, ↓eD1, eC0, eC1, eC2, eC3, eC4, eC5, eC6, wantedE, ↓reduceIte, Nat.reduceEqDiff, Option.map_some, Option.map_none, reread, List.nil_append, List.cons_append, List.map_cons, List.map_nil, List.length_nil, List.length_cons, Value.cells, List.getElem?_cons_zero, List.getElem?_cons_succ, outE, lks, lkR, rdV, neg1, evs, opt, Nat.reduceAdd, Nat.reduceMul, and_self, reduceCtorEq, List.size_toArray, List.all_cons, List.all_nil, Value.oneCell', List.set_cons_zero, List.set_cons_succ, sets, fillL, Nat.reduceLeDiff, List.drop_succ_cons, List.drop_zero, List.take_succ_cons, List.take_zero, List.toList_toArray, argsE, Array.append_empty, Array.empty_append, List.getElem?_toArray, Int.reduceLT, Int.reduceLE, Int.reduceToNat, Int.reduceEq, Nat.reduceLT, dl, h2, Option.bind_some, bytesOf_dig]
    exact ⟨ho.trans .ap, by simp [flat], rfl⟩

def hexD : ByteArray := ⟨#[48, 49, 50, 51, 52, 53, 54, 55, 56, 57, 97, 98, 99, 100, 101, 102]⟩
def hexC (i : Nat) : Int := ((hexD.data.toList.getD i 0).toNat : Int)
def hexF (l : List Int) : List Int := l.flatMap fun x => [hexC (x.toNat / 16), hexC (x.toNat % 16)]
theorem hexD_get {i : Nat} (h : i < 16) : (hexD[i]?).map (fun b : UInt8 => Value.int .u8 (b.toNat : Int)) = some (.int .u8 (hexC i)) := by
  rw [str_get (s := hexD) (by show i < 16; exact h)]
  simp [hexC, hexD, h]
theorem hexF_len {l : List Int} : (hexF l).length = 2 * l.length := by
  unfold hexF
  induction l with
  | nil => rfl
  | cons a l ih => simp only [List.flatMap_cons, List.length_append, List.length_cons, List.length_nil, ih]; omega

theorem hex_app {σ : H} {s : ByteArray} (hs : s.size < 1000000000000) : App Tryd.prog (.func 37) #[] #[.string s] σ fun v σ' => σ' = σ ∧ v = .string (bytesS (hexF (strI s))) := by
  refine App.forget (App.of_sem mixed Tryd.func37 t37 k37 r37 (Nat.le_of_ble_eq_true rfl) ?_)
  unfold s37
  rw [← ap_nil (σ := σ)]
  simp only [↓eD0, ↓eD1, eC0, eC1, eC2, eC3, eC4, eC5, eC6, wantedE, ↓reduceIte, Nat.reduceEqDiff, Option.map_some, Option.map_none, reread, List.nil_append, List.cons_append, List.map_cons, List.map_nil, List.length_nil, List.length_cons, Value.cells, List.getElem?_cons_zero, List.getElem?_cons_succ, outE, lks, lkR, rdV, neg1, evs, opt, Nat.reduceAdd, Nat.reduceMul, and_self, reduceCtorEq, List.size_toArray, List.all_cons, List.all_nil, Value.oneCell', List.set_cons_zero, List.set_cons_succ, sets, fillL, Nat.reduceLeDiff, List.drop_succ_cons, List.drop_zero, List.take_succ_cons, List.take_zero, List.toList_toArray, argsE, Array.append_empty, Array.empty_append, List.getElem?_toArray, Int.reduceLT, Int.reduceLE, Int.reduceToNat, Int.reduceEq, Nat.reduceLT]
  refine loop_for (J := fun i e τ => i ≤ s.size ∧ ∃ v, e = [(0, .string s), (3, .string hexD), (4, v), (5, .int .i64 (i : Int))] ∧ Old σ τ ∧ Grown σ τ 1 v (digC (hexF ((strI s).take i))) (hexF ((strI s).take i)).length) s.size
    ⟨by omega, _, rfl, .ap, .nil⟩ ?_
  rintro i e τ hi ⟨_, v, rfl, ho, hg⟩
  rw [← ap_nil (σ := τ)]
  by_cases hlt : i < s.size
  · have dl : decide ((i : Int) < (s.size : Int)) = true := by rw [decide_eq_true]; omega
    have hb : (0:Int) ≤ (i:Int) := by omega
    have hw : IntKind.wrap .i64 ((i:Int) + 1) = ((i + 1 : Nat) : Int) := by rw [wrap64' (by omega) (by omega)]; omega
    have hg1 := str_get hlt
    have hil : i < (strI s).length := by rw [strI_len]; exact hlt
    have hx : ((s.data[i]'hlt).toNat : Int) = (strI s)[i] := by simp [strI]
    have hby := strI_byt (s := s) (strI s)[i] (List.getElem_mem _)
    have htk : hexF ((strI s).take (i + 1)) = hexF ((strI s).take i) ++ [hexC ((strI s)[i].toNat / 16), hexC ((strI s)[i].toNat % 16)] := by
      exact flat_take hil
    generalize (strI s)[i] = x at hx hby htk
    obtain ⟨n, rfl⟩ : ∃ n : Nat, x = (n : Int) := ⟨x.toNat, by omega⟩
    rw [Int.toNat_natCast] at htk
    have w1 : (n : Int).tdiv 16 = ((n / 16 : Nat) : Int) := by rw [Int.tdiv_eq_ediv_of_nonneg (by omega)]; omega
    have w2 : (n : Int).tmod 16 = ((n % 16 : Nat) : Int) := by rw [Int.tmod_eq_emod_of_nonneg (by omega)]; omega
    have w3 : IntKind.wrap .u8 ((n / 16 : Nat) : Int) = ((n / 16 : Nat) : Int) := wrap_u8 (by omega) (by omega)
    have w4 : IntKind.wrap .u8 ((n % 16 : Nat) : Int) = ((n % 16 : Nat) : Int) := wrap_u8 (by omega) (by omega)
    have b1 : (0:Int) ≤ ((n / 16 : Nat) : Int) := by omega
    have b2 : (0:Int) ≤ ((n % 16 : Nat) : Int) := by omega
    have g1 := hexD_get (i := n / 16) (by omega)
    have g2 := hexD_get (i := n % 16) (by omega)
    simp only [↓eD0, ↓eD1, eC0, eC1, eC2, eC3, eC4, eC5, eC6, wantedE, ↓reduceIte, Nat.reduceEqDiff, Option.map_some, Option.map_none, reread, List.nil_append, List.cons_append, List.map_cons, List.map_nil, List.length_nil, List.length_cons, Value.cells, List.getElem?_cons_zero, List.getElem?_cons_succ, outE, lks, lkR, rdV, neg1, evs, opt, Nat.reduceAdd, Nat.reduceMul, and_self, reduceCtorEq, List.size_toArray, List.all_cons, List.all_nil, Value.oneCell', List.set_cons_zero, List.set_cons_succ, sets, fillL, Nat.reduceLeDiff, List.drop_succ_cons, List.drop_zero, List.take_succ_cons, List.take_zero, List.toList_toArray, argsE, Array.append_empty, Array.empty_append, List.getElem?_toArray, Int.reduceLT, Int.reduceLE, Int.reduceToNat, Int.reduceEq, Nat.reduceLT, dl, hb, Int.toNat_natCast, hg1, hx, w1, w2, w3, w4, b1, b2, g1, g2]
    have hx2 : xcells (ap τ [.cells 0 [.int .u8 (hexC (n / 16)), .int .u8 (hexC (n % 16))] (0, 0)]) 1 (.slice (some ⟨τ.size, 0, none⟩) 2 2) = some ([hexC (n / 16), hexC (n % 16)].length, digC [hexC (n / 16), hexC (n % 16)]) := by
      simp [xcells, rdN_ap0, rdcN, digC]
    obtain ⟨v', τ', ha, hA⟩ := append_bytes (σ := ap τ [.cells 0 [.int .u8 (hexC (n / 16)), .int .u8 (hexC (n % 16))] (0, 0)]) (hg.old .ap) (Nat.le_trans ho.1 (Old.ap (l := _)).1) hx2 (by rw [hexF_len, List.length_take]; simp; omega)
    refine onV_of ha ?_
    simp only [↓eD0, ↓eD1, eC0, eC1, eC2, eC3, eC4, eC5, eC6, wantedE, ↓reduceIte, Nat.reduceEqDiff, Option.map_some, Option.map_none, reread, List.nil_append, List.cons_append, List.map_cons, List.map_nil, List.length_nil, List.length_cons, Value.cells, List.getElem?_cons_zero, List.getElem?_cons_succ, outE, lks, lkR, rdV, neg1, evs, opt, Nat.reduceAdd, Nat.reduceMul, and_self, reduceCtorEq, List.size_toArray, List.all_cons, List.all_nil, Value.oneCell', List.set_cons_zero, List.set_cons_succ, sets, fillL, Nat.reduceLeDiff, List.drop_succ_cons, List.drop_zero, List.take_succ_cons, List.take_zero, List.toList_toArray, argsE, Array.append_empty, Array.empty_append, List.getElem?_toArray, Int.reduceLT, Int.reduceLE, Int.reduceToNat, Int.reduceEq, Nat.reduceLT, hw]
    refine ⟨hlt, by omega, v', rfl, hA.Old (hg.old .ap) (ho.trans .ap), ?_⟩
    rw [htk]
    exact hA.grown
  · have : i = s.size := by omega
    subst this
    have dl : decide ((s.size : Int) < (s.size : Int)) = false := by rw [decide_eq_false]; omega
    rw [List.take_of_length_le (by rw [strI_len]; omega)] at hg
    generalize hexF (strI s) = L at hg
    obtain ⟨bs, cc, rfl⟩ := hg.slice
    cases bs with
    | none =>
      have h0 := Whl.none hg.whl
      have : L = [] := List.length_eq_zero_iff.1 h0
      subst this
      simp only [↓eD0, ↓eD1, eC0, eC1, eC2, eC3, eC4, eC5, eC6, wantedE, ↓reduceIte, Nat.reduceEqDiff, Option.map_some, Option.map_none, reread, List.nil_append, List.cons_append, List.map_cons, List.map_nil, List.length_nil, List.length_cons, Value.cells, List.getElem?_cons_zero, List.getElem?_cons_succ, outE, lks, lkR, rdV, neg1, evs, opt, Nat.reduceAdd, Nat.reduceMul, and_self, reduceCtorEq, List.size_toArray, List.all_cons, List.all_nil, Value.oneCell', List.set_cons_zero, List.set_cons_succ, sets, fillL, Nat.reduceLeDiff, List.drop_succ_cons, List.drop_zero, List.take_succ_cons, List.take_zero, List.toList_toArray, argsE, Array.append_empty, Array.empty_append, List.getElem?_toArray, Int.reduceLT, Int.reduceLE, Int.reduceToNat, Int.reduceEq, Nat.reduceLT, dl]
      rw [ap_nil]
      exact ⟨ho, by simp [flat], rfl⟩
    | some a =>
      have h2 : rdN (ap τ []) a L.length = some (digC L) := rdN_old (Whl.read hg.whl)
      simp only [↓eD0, ↓eD1, eC0, eC1, eC2, eC3, eC4, eC5, eC6, wantedE, ↓reduceIte, Nat.reduceEqDiff, Option.map_some, Option.map_none, reread, List.nil_append, List.cons_append, List.map_cons, List.map_nil, List.length_nil, List.length_cons, Value.cells, List.getElem?_cons_zero, List.getElem?_cons_succ, outE, lks, lkR, rdV, neg1, evs, opt, Nat.reduceAdd, Nat.reduceMul, and_self, reduceCtorEq, List.size_toArray, List.all_cons, List.all_nil, Value.oneCell', List.set_cons_zero, List.set_cons_succ, sets, fillL, Nat.reduceLeDiff, List.drop_succ_cons, List.drop_zero, List.take_succ_cons, List.take_zero, List.toList_toArray, argsE, Array.append_empty, Array.empty_append, List.getElem?_toArray, Int.reduceLT, Int.reduceLE, Int.reduceToNat, Int.reduceEq, Nat.reduceLT, dl, h2, Option.bind_some, bytesOf_dig]
      rw [ap_nil]
      exact ⟨ho, by simp [flat], rfl⟩

/-- At most 12 strings of at most 400 bytes. -/
def fewF (l : List ByteArray) : Bool := decide (l.length ≤ 12) && l.all fun s => decide (s.size ≤ 400)
theorem few_app {σ : H} {sl : Value} {l : List ByteArray} (hr : Whl σ 1 sl l.length (l.map .string)) : App Tryd.prog (.func 18) #[] #[sl] σ fun v σ' => σ' = σ ∧ v = .bool (fewF l) := by
  refine App.of_sem mixed Tryd.func18 t18 k18 r18 (Nat.le_of_ble_eq_true rfl) ?_
  obtain ⟨bs, cc, rfl⟩ := hr.slice
  unfold s18
  by_cases h12 : l.length ≤ 12
  case neg =>
    have d : decide ((12 : Int) < (l.length : Int)) = true := by rw [decide_eq_true]; omega
    have hf : fewF l = false := by unfold fewF; rw [decide_eq_false h12]; rfl
    simp only [↓eD0, ↓eD1, eC0, eC1, eC2, eC3, eC4, eC5, eC6, wantedE, ↓reduceIte, Nat.reduceEqDiff, Option.map_some, Option.map_none, reread, List.nil_append, List.cons_append, List.map_cons, List.map_nil, List.length_nil, List.length_cons, Value.cells, List.getElem?_cons_zero, List.getElem?_cons_succ, outE, lks, lkR, rdV, neg1, evs, opt, Nat.reduceAdd, Nat.reduceMul, and_self, reduceCtorEq, List.size_toArray, List.all_cons, List.all_nil, Value.oneCell', List.set_cons_zero, List.set_cons_succ, sets, fillL, Nat.reduceLeDiff, List.drop_succ_cons, List.drop_zero, List.take_succ_cons, List.take_zero, List.toList_toArray, argsE, Array.append_empty, Array.empty_append, List.getElem?_toArray, Int.reduceLT, Int.reduceLE, Int.reduceToNat, Int.reduceEq, Nat.reduceLT, d, hf]
  have d : decide ((12 : Int) < (l.length : Int)) = false := by rw [decide_eq_false]; omega
  simp only [↓eD0, ↓eD1, eC0, eC1, eC2, eC3, eC4, eC5, eC6, wantedE, ↓reduceIte, Nat.reduceEqDiff, Option.map_some, Option.map_none, reread, List.nil_append, List.cons_append, List.map_cons, List.map_nil, List.length_nil, List.length_cons, Value.cells, List.getElem?_cons_zero, List.getElem?_cons_succ, outE, lks, lkR, rdV, neg1, evs, opt, Nat.reduceAdd, Nat.reduceMul, and_self, reduceCtorEq, List.size_toArray, List.all_cons, List.all_nil, Value.oneCell', List.set_cons_zero, List.set_cons_succ, sets, fillL, Nat.reduceLeDiff, List.drop_succ_cons, List.drop_zero, List.take_succ_cons, List.take_zero, List.toList_toArray, argsE, Array.append_empty, Array.empty_append, List.getElem?_toArray, Int.reduceLT, Int.reduceLE, Int.reduceToNat, Int.reduceEq, Nat.reduceLT, d]
  refine loop_for (J := fun i e τ => i ≤ l.length ∧ e = [(0, .slice bs l.length cc), (3, .int .i64 (i : Int))] ∧ τ = σ ∧ (l.take i).all (fun s => decide (s.size ≤ 400)) = true) l.length ⟨by omega, rfl, rfl, rfl⟩ ?_
  rintro i e τ hi ⟨_, rfl, rfl, hall⟩
  by_cases hlt : i < l.length
  · have dl : decide ((i : Int) < (l.length : Int)) = true := by rw [decide_eq_true]; omega
    have hb : (0:Int) ≤ (i:Int) ∧ (i:Int) < (l.length : Int) := by omega
    have hw : IntKind.wrap .i64 ((i:Int) + 1) = ((i + 1 : Nat) : Int) := by rw [wrap64' (by omega) (by omega)]; omega
    obtain ⟨bk, off, rfl, h1⟩ := hr.at (by omega)
    have hrd : rd1 τ ⟨bk, off + i, none⟩ = some (.string l[i]) := rd1_row h1 (by simp [hlt])
    by_cases h4 : l[i].size ≤ 400
    · have d4 : decide ((400 : Int) < (l[i].size : Int)) = false := by rw [decide_eq_false]; omega
      simp only [↓eD0, ↓eD1, eC0, eC1, eC2, eC3, eC4, eC5, eC6, wantedE, ↓reduceIte, Nat.reduceEqDiff, Option.map_some, Option.map_none, reread, List.nil_append, List.cons_append, List.map_cons, List.map_nil, List.length_nil, List.length_cons, Value.cells, List.getElem?_cons_zero, List.getElem?_cons_succ, outE, lks, lkR, rdV, neg1, evs, opt, Nat.reduceAdd, Nat.reduceMul, and_self, reduceCtorEq, List.size_toArray, List.all_cons, List.all_nil, Value.oneCell', List.set_cons_zero, List.set_cons_succ, sets, fillL, Nat.reduceLeDiff, List.drop_succ_cons, List.drop_zero, List.take_succ_cons, List.take_zero, List.toList_toArray, argsE, Array.append_empty, Array.empty_append, List.getElem?_toArray, Int.reduceLT, Int.reduceLE, Int.reduceToNat, Int.reduceEq, Nat.reduceLT, dl, hb, Int.toNat_natCast, Nat.mul_one, hrd, d4, hw]
      refine ⟨hlt, by omega, ?_⟩
      rw [List.take_succ_eq_append_getElem hlt, List.all_append, hall]
      simp [h4]
    · have d4 : decide ((400 : Int) < (l[i].size : Int)) = true := by rw [decide_eq_true]; omega
      have hf : fewF l = false := by
        unfold fewF
        have : (l.all fun s => decide (s.size ≤ 400)) = false := by
          rw [List.all_eq_false]
          exact ⟨l[i], List.getElem_mem _, by simpa using h4⟩
        rw [this, Bool.and_false]
      simp only [↓eD0, ↓eD1, eC0, eC1, eC2, eC3, eC4, eC5, eC6, wantedE, ↓reduceIte, Nat.reduceEqDiff, Option.map_some, Option.map_none, reread, List.nil_append, List.cons_append, List.map_cons, List.map_nil, List.length_nil, List.length_cons, Value.cells, List.getElem?_cons_zero, List.getElem?_cons_succ, outE, lks, lkR, rdV, neg1, evs, opt, Nat.reduceAdd, Nat.reduceMul, and_self, reduceCtorEq, List.size_toArray, List.all_cons, List.all_nil, Value.oneCell', List.set_cons_zero, List.set_cons_succ, sets, fillL, Nat.reduceLeDiff, List.drop_succ_cons, List.drop_zero, List.take_succ_cons, List.take_zero, List.toList_toArray, argsE, Array.append_empty, Array.empty_append, List.getElem?_toArray, Int.reduceLT, Int.reduceLE, Int.reduceToNat, Int.reduceEq, Nat.reduceLT, dl, hb, Int.toNat_natCast, Nat.mul_one, hrd, d4, hf]
  · have : i = l.length := by omega
    subst this
    have dl : decide ((l.length : Int) < (l.length : Int)) = false := by rw [decide_eq_false]; omega
    rw [List.take_length] at hall
    have hf : fewF l = true := by unfold fewF; rw [decide_eq_true h12, hall]; rfl
    simp only [↓eD0, ↓eD1, eC0, eC1, eC2, eC3, eC4, eC5, eC6, wantedE, ↓reduceIte, Nat.reduceEqDiff, Option.map_some, Option.map_none, reread, List.nil_append, List.cons_append, List.map_cons, List.map_nil, List.length_nil, List.length_cons, Value.cells, List.getElem?_cons_zero, List.getElem?_cons_succ, outE, lks, lkR, rdV, neg1, evs, opt, Nat.reduceAdd, Nat.reduceMul, and_self, reduceCtorEq, List.size_toArray, List.all_cons, List.all_nil, Value.oneCell', List.set_cons_zero, List.set_cons_succ, sets, fillL, Nat.reduceLeDiff, List.drop_succ_cons, List.drop_zero, List.take_succ_cons, List.take_zero, List.toList_toArray, argsE, Array.append_empty, Array.empty_append, List.getElem?_toArray, Int.reduceLT, Int.reduceLE, Int.reduceToNat, Int.reduceEq, Nat.reduceLT, dl, hf]
theorem few_iff {l : List ByteArray} : fewF l = true ↔ l.length ≤ 12 ∧ ∀ s ∈ l, s.size ≤ 400 := by
  simp [fewF]

/-- Pieces, one after the other. -/
def joinS (l : List ByteArray) : ByteArray := l.foldl (· ++ ·) ByteArray.empty
theorem joinS_take {l : List ByteArray} {i : Nat} (h : i < l.length) : joinS (l.take (i + 1)) = joinS (l.take i) ++ l[i] := by
  rw [List.take_succ_eq_append_getElem h, joinS, joinS, List.foldl_append]; rfl
theorem strI_append {a b : ByteArray} : strI (a ++ b) = strI a ++ strI b := by simp [strI, ByteArray.data_append]
theorem joinS_strI {l : List ByteArray} : strI (joinS l) = l.flatMap strI := by
  have : ∀ (l : List ByteArray) (a : ByteArray), strI (l.foldl (· ++ ·) a) = strI a ++ l.flatMap strI := by
    intro l
    induction l with
    | nil => intro a; simp
    | cons x l ih => intro a; rw [List.foldl_cons, ih, strI_append, List.flatMap_cons, List.append_assoc]
  rw [joinS, this]
  rfl
theorem joinS_size {l : List ByteArray} {n : Nat} (hs : ∀ s ∈ l, s.size ≤ n) : ∀ i, (joinS (l.take i)).size ≤ i * n
  | 0 => by simp [joinS, ByteArray.size]
  | i + 1 => by
    have ih := joinS_size hs i
    by_cases h : i < l.length
    · have := hs l[i] (List.getElem_mem _)
      rw [joinS_take h, ByteArray.size_append, Nat.succ_mul]; omega
    · rw [List.take_of_length_le (by omega)]
      rw [List.take_of_length_le (by omega)] at ih
      exact Nat.le_trans ih (Nat.mul_le_mul_right _ (Nat.le_succ i))

theorem joined_app {σ : H} {sl : Value} {l : List ByteArray} (hr : Whl σ 1 sl l.length (l.map .string)) (hl : l.length ≤ 1000) (hs : ∀ s ∈ l, s.size ≤ 1000000) : App Tryd.prog (.func 21) #[] #[sl] σ fun v σ' => σ' = σ ∧ v = .string (joinS l) := by
  refine App.of_sem mixed Tryd.func21 t21 k21 r21 (Nat.le_of_ble_eq_true rfl) ?_
  obtain ⟨bs, cc, rfl⟩ := hr.slice
  unfold s21
  simp only [↓eD0, ↓eD1, eC0, eC1, eC2, eC3, eC4, eC5, eC6, wantedE, ↓reduceIte, Nat.reduceEqDiff, Option.map_some, Option.map_none, reread, List.nil_append, List.cons_append, List.map_cons, List.map_nil, List.length_nil, List.length_cons, Value.cells, List.getElem?_cons_zero, List.getElem?_cons_succ, outE, lks, lkR, rdV, neg1, evs, opt, Nat.reduceAdd, Nat.reduceMul, and_self, reduceCtorEq, List.size_toArray, List.all_cons, List.all_nil, Value.oneCell', List.set_cons_zero, List.set_cons_succ, sets, fillL, Nat.reduceLeDiff, List.drop_succ_cons, List.drop_zero, List.take_succ_cons, List.take_zero, List.toList_toArray, argsE, Array.append_empty, Array.empty_append, List.getElem?_toArray, Int.reduceLT, Int.reduceLE, Int.reduceToNat, Int.reduceEq, Nat.reduceLT]
  refine loop_for (J := fun i e τ => i ≤ l.length ∧ e = [(0, .slice bs l.length cc), (3, .string (joinS (l.take i))), (4, .int .i64 (i : Int))] ∧ τ = σ) l.length ⟨by omega, rfl, rfl⟩ ?_
  rintro i e τ hi ⟨_, rfl, rfl⟩
  by_cases hlt : i < l.length
  · have dl : decide ((i : Int) < (l.length : Int)) = true := by rw [decide_eq_true]; omega
    have hb : (0:Int) ≤ (i:Int) ∧ (i:Int) < (l.length : Int) := by omega
    have hw : IntKind.wrap .i64 ((i:Int) + 1) = ((i + 1 : Nat) : Int) := by rw [wrap64' (by omega) (by omega)]; omega
    obtain ⟨bk, off, rfl, h1⟩ := hr.at (by omega)
    have hrd : rd1 τ ⟨bk, off + i, none⟩ = some (.string l[i]) := rd1_row h1 (by simp [hlt])
    have hsz := joinS_size hs i
    have hsi := hs l[i] (List.getElem_mem _)
    have hle : (joinS (l.take i)).size + l[i].size ≤ 9223372036854775807 := by omega
    simp only [↓eD0, ↓eD1, eC0, eC1, eC2, eC3, eC4, eC5, eC6, wantedE, ↓reduceIte, Nat.reduceEqDiff, Option.map_some, Option.map_none, reread, List.nil_append, List.cons_append, List.map_cons, List.map_nil, List.length_nil, List.length_cons, Value.cells, List.getElem?_cons_zero, List.getElem?_cons_succ, outE, lks, lkR, rdV, neg1, evs, opt, Nat.reduceAdd, Nat.reduceMul, and_self, reduceCtorEq, List.size_toArray, List.all_cons, List.all_nil, Value.oneCell', List.set_cons_zero, List.set_cons_succ, sets, fillL, Nat.reduceLeDiff, List.drop_succ_cons, List.drop_zero, List.take_succ_cons, List.take_zero, List.toList_toArray, argsE, Array.append_empty, Array.empty_append, List.getElem?_toArray, Int.reduceLT, Int.reduceLE, Int.reduceToNat, Int.reduceEq, Nat.reduceLT, dl, hb, Int.toNat_natCast, Nat.mul_one, hrd, hle, hw]
    refine ⟨hlt, by omega, ?_⟩
    rw [joinS_take hlt]
  · have : i = l.length := by omega
    subst this
    have dl : decide ((l.length : Int) < (l.length : Int)) = false := by rw [decide_eq_false]; omega
    rw [List.take_length]
    simp only [↓eD0, ↓eD1, eC0, eC1, eC2, eC3, eC4, eC5, eC6, wantedE, ↓reduceIte, Nat.reduceEqDiff, Option.map_some, Option.map_none, reread, List.nil_append, List.cons_append, List.map_cons, List.map_nil, List.length_nil, List.length_cons, Value.cells, List.getElem?_cons_zero, List.getElem?_cons_succ, outE, lks, lkR, rdV, neg1, evs, opt, Nat.reduceAdd, Nat.reduceMul, and_self, reduceCtorEq, List.size_toArray, List.all_cons, List.all_nil, Value.oneCell', List.set_cons_zero, List.set_cons_succ, sets, fillL, Nat.reduceLeDiff, List.drop_succ_cons, List.drop_zero, List.take_succ_cons, List.take_zero, List.toList_toArray, argsE, Array.append_empty, Array.empty_append, List.getElem?_toArray, Int.reduceLT, Int.reduceLE, Int.reduceToNat, Int.reduceEq, Nat.reduceLT, dl]
end Go.Proofs.YtoegoigfbldkoaaDoor

set_option linter.unusedSimpArgs false
set_option linter.unusedVariables false
set_option maxRecDepth 100000
set_option maxHeartbeats 2000000
namespace Go.Proofs.YtoegoigfbldkoaaDoor
open Go Go.Cn Go.RowKit
attribute [local irreducible] evL sem onG onI onV

theorem sum_abc : sumF [97, 98, 99] = [186, 120, 22, 191, 143, 1, 207, 234, 65, 65, 64, 222, 93, 174, 34, 35, 176, 3, 97, 163, 150, 23, 122, 156, 180, 16, 255, 97, 242, 0, 21, 173] := by kernel_rfl
theorem of_one : ofF 1 [] = [75, 245, 18, 47, 52, 69, 84, 197, 59, 222, 46, 187, 140, 210, 183, 227] := by kernel_rfl
theorem crc_254 : crcF [254] = 75628790 := by kernel_rfl
theorem crc_ff : valF (runY (runY (BitVec.allOnes 40) [255]) [255]) = 65535 := by kernel_rfl
theorem words_one : wordsC [1099511627774] = 1099435999222 := by kernel_rfl
theorem join_1 : joinF 255 255 1 = 65535 ∧ joinF 255 0 1 = 65280 ∧ joinF 7 9 0 = 14 ∧ joinF 1 1 (-1) = 0 := ⟨by kernel_rfl, by kernel_rfl, by kernel_rfl, by kernel_rfl⟩
theorem hex_1 : bytesS (hexF (strI (bytesS (sumF [97, 98, 99])))) = ⟨#[98, 97, 55, 56, 49, 54, 98, 102, 56, 102, 48, 49, 99, 102, 101, 97, 52, 49, 52, 49, 52, 48, 100, 101, 53, 100, 97, 101, 50, 50, 50, 51, 98, 48, 48, 51, 54, 49, 97, 51, 57, 54, 49, 55, 55, 97, 57, 99, 98, 52, 49, 48, 102, 102, 54, 49, 102, 50, 48, 48, 49, 53, 97, 100]⟩ := by rw [sum_abc]; kernel_rfl
theorem hex_2 : bytesS (hexF (strI (bytesS (ofF 1 [])))) = ⟨#[52, 98, 102, 53, 49, 50, 50, 102, 51, 52, 52, 53, 53, 52, 99, 53, 51, 98, 100, 101, 50, 101, 98, 98, 56, 99, 100, 50, 98, 55, 101, 51]⟩ := by rw [of_one]; kernel_rfl
theorem aggEq_u8 : ∀ {a b : List Int} {n : Nat}, a.length = n → b.length = n → aggEq (List.replicate n (.int .u8)) (digC a) (digC b) = some (decide (a = b))
  | [], [], n, h1, h2 => by subst h1; rfl
  | x :: a, y :: b, n, h1, h2 => by
    obtain ⟨n, rfl⟩ : ∃ m, n = m + 1 := ⟨a.length, by simpa using h1.symm⟩
    have ih := aggEq_u8 (a := a) (b := b) (n := n) (by simpa using h1) (by simpa using h2)
    show aggEq (.int .u8 :: List.replicate n (.int .u8)) (.int .u8 x :: digC a) (.int .u8 y :: digC b) = _
    simp only [aggEq, Leaf.fits, leafEq, decide_true, and_self, ↓reduceIte, ih]
    by_cases hx : x = y <;> by_cases hab : a = b <;> simp [hx, hab]
  | [], y :: b, n, h1, h2 => by simp at h1; subst h1; simp at h2
  | x :: a, [], n, h1, h2 => by simp at h2; subst h2; simp at h1

theorem sanity_app {σ : H} (hN : NGlob σ) (hG : HGlob σ) : App Tryd.prog (.func 15) #[] #[] σ fun v σ' => σ' = σ ∧ v = .bool true := by
  refine App.forget (App.of_sem mixed Tryd.func15 t15 k15 r15 (Nat.le_of_ble_eq_true rfl) ?_)
  rw [← ap_nil (σ := σ)]
  unfold s15
  simp only [↓eD0, ↓eD1, eC0, eC1, eC2, eC3, eC4, eC5, eC6, wantedE, ↓reduceIte, Nat.reduceEqDiff, Option.map_some, Option.map_none, reread, List.nil_append, List.cons_append, List.map_cons, List.map_nil, List.length_nil, List.length_cons, Value.cells, List.getElem?_cons_zero, List.getElem?_cons_succ, outE, lks, lkR, rdV, neg1, evs, opt, Nat.reduceAdd, Nat.reduceMul, and_self, reduceCtorEq, List.size_toArray, List.all_cons, List.all_nil, Value.oneCell', List.set_cons_zero, List.set_cons_succ, sets, fillL, Nat.reduceLeDiff, List.drop_succ_cons, List.drop_zero, List.take_succ_cons, List.take_zero, List.toList_toArray, argsE, Array.append_empty, Array.empty_append, List.getElem?_toArray, Int.reduceLT, Int.reduceLE, Int.reduceToNat, Int.reduceEq, Nat.reduceLT]
  have mk : markV (.slice (some ⟨σ.size, 0, none⟩) 3 3) (ap σ [.cells 0 [.int .u8 97, .int .u8 98, .int .u8 99] (0, 0)]) = some (.slice (some ⟨σ.size + 1, 0, none⟩) 3 3, ap σ [.dead, .cells 0 [.int .u8 97, .int .u8 98, .int .u8 99] (0, 3)]) := by
    unfold markV
    simp only [ap_new0, List.getElem?_cons_zero]
    rw [if_pos ⟨by decide, by decide⟩]
    have hd : (ap σ [.cells 0 [.int .u8 97, .int .u8 98, .int .u8 99] (0, 0)]).setIfInBounds σ.size .dead = ap σ [.dead] := by
      apply Array.ext_getElem?
      intro j
      by_cases hj : σ.size = j
      · subst hj
        rw [Array.getElem?_setIfInBounds_self, ap_new0, if_pos (by rw [ap_size]; simp)]
        rfl
      · rw [Array.getElem?_setIfInBounds_ne hj]
        by_cases hlt : j < σ.size
        · rw [ap_old hlt, ap_old hlt]
        · rw [Array.getElem?_eq_none (by rw [ap_size]; simp; omega), Array.getElem?_eq_none (by rw [ap_size]; simp; omega)]
    rw [hd, push_ap, ap_size]
    rfl
  refine onV_of mk ?_
  simp only [↓eD0, ↓eD1, eC0, eC1, eC2, eC3, eC4, eC5, eC6, wantedE, ↓reduceIte, Nat.reduceEqDiff, Option.map_some, Option.map_none, reread, List.nil_append, List.cons_append, List.map_cons, List.map_nil, List.length_nil, List.length_cons, Value.cells, List.getElem?_cons_zero, List.getElem?_cons_succ, outE, lks, lkR, rdV, neg1, evs, opt, Nat.reduceAdd, Nat.reduceMul, and_self, reduceCtorEq, List.size_toArray, List.all_cons, List.all_nil, Value.oneCell', List.set_cons_zero, List.set_cons_succ, sets, fillL, Nat.reduceLeDiff, List.drop_succ_cons, List.drop_zero, List.take_succ_cons, List.take_zero, List.toList_toArray, argsE, Array.append_empty, Array.empty_append, List.getElem?_toArray, Int.reduceLT, Int.reduceLE, Int.reduceToNat, Int.reduceEq, Nat.reduceLT]
  refine appK_of (hsum_app (b := [97, 98, 99]) (by unfold Byt; decide) ⟨rfl, .inr ⟨_, _, _, rfl, ⟨by decide, .inl (by decide)⟩, by rw [rdN_ap]; rfl⟩⟩ (by decide) (hG.Old .ap)) ?_
  rintro _ _ ⟨e2, rfl⟩
  rw [e2]
  clear e2
  have hl1 : (sumF [97, 98, 99]).length = 32 := sumF_len
  have hx1 : decide (bytesS (hexF (strI (bytesS (sumF [97, 98, 99])))) = ⟨#[98, 97, 55, 56, 49, 54, 98, 102, 56, 102, 48, 49, 99, 102, 101, 97, 52, 49, 52, 49, 52, 48, 100, 101, 53, 100, 97, 101, 50, 50, 50, 51, 98, 48, 48, 51, 54, 49, 97, 51, 57, 54, 49, 55, 55, 97, 57, 99, 98, 52, 49, 48, 102, 102, 54, 49, 102, 50, 48, 48, 49, 53, 97, 100]⟩) = true := decide_eq_true hex_1
  have hx2 : decide (bytesS (hexF (strI (bytesS (ofF 1 [])))) = ⟨#[52, 98, 102, 53, 49, 50, 50, 102, 51, 52, 52, 53, 53, 52, 99, 53, 51, 98, 100, 101, 50, 101, 98, 98, 56, 99, 100, 50, 98, 55, 101, 51]⟩) = true := decide_eq_true hex_2
  obtain ⟨S, hS⟩ : ∃ S, S = sumF [97, 98, 99] := ⟨_, rfl⟩
  rw [← hS] at hl1 hx1
  have hS' : sumF [97, 98, 99] = S := hS.symm
  rw [hS']
  have t32 := digC_take (l := S) hl1
  have s32 := digC_sets (z := List.replicate 32 0) (l := S) (by simp [hl1])
  have n32 := digC_ne' (l := S) hl1 (by omega)
  simp only [↓eD0, ↓eD1, eC0, eC1, eC2, eC3, eC4, eC5, eC6, wantedE, ↓reduceIte, Nat.reduceEqDiff, Option.map_some, Option.map_none, reread, List.nil_append, List.cons_append, List.map_cons, List.map_nil, List.length_nil, List.length_cons, Value.cells, List.getElem?_cons_zero, List.getElem?_cons_succ, outE, lks, lkR, rdV, neg1, evs, opt, Nat.reduceAdd, Nat.reduceMul, and_self, reduceCtorEq, List.size_toArray, List.all_cons, List.all_nil, Value.oneCell', List.set_cons_zero, List.set_cons_succ, sets, fillL, Nat.reduceLeDiff, List.drop_succ_cons, List.drop_zero, List.take_succ_cons, List.take_zero, List.toList_toArray, argsE, Array.append_empty, Array.empty_append, List.getElem?_toArray, Int.reduceLT, Int.reduceLE, Int.reduceToNat, Int.reduceEq, Nat.reduceLT, digC_rep, digC_length, hl1, t32, s32, n32, digC_one, List.length_replicate]
  refine appK_of begin_app ?_
  rintro _ _ ⟨e2, cs0, rfl, hb0⟩
  rw [e2]
  clear e2
  simp only [↓eD0, ↓eD1, eC0, eC1, eC2, eC3, eC4, eC5, eC6, wantedE, ↓reduceIte, Nat.reduceEqDiff, Option.map_some, Option.map_none, reread, List.nil_append, List.cons_append, List.map_cons, List.map_nil, List.length_nil, List.length_cons, Value.cells, List.getElem?_cons_zero, List.getElem?_cons_succ, outE, lks, lkR, rdV, neg1, evs, opt, Nat.reduceAdd, Nat.reduceMul, and_self, reduceCtorEq, List.size_toArray, List.all_cons, List.all_nil, Value.oneCell', List.set_cons_zero, List.set_cons_succ, sets, fillL, Nat.reduceLeDiff, List.drop_succ_cons, List.drop_zero, List.take_succ_cons, List.take_zero, List.toList_toArray, argsE, Array.append_empty, Array.empty_append, List.getElem?_toArray, Int.reduceLT, Int.reduceLE, Int.reduceToNat, Int.reduceEq, Nat.reduceLT]
  refine appK_of (add_app (s := ⟨#[97]⟩) hb0 (by decide) (by decide) (hG.Old .ap)) ?_
  rintro _ _ ⟨e2, cs1, rfl, hb1⟩
  rw [e2]
  clear e2
  simp only [↓eD0, ↓eD1, eC0, eC1, eC2, eC3, eC4, eC5, eC6, wantedE, ↓reduceIte, Nat.reduceEqDiff, Option.map_some, Option.map_none, reread, List.nil_append, List.cons_append, List.map_cons, List.map_nil, List.length_nil, List.length_cons, Value.cells, List.getElem?_cons_zero, List.getElem?_cons_succ, outE, lks, lkR, rdV, neg1, evs, opt, Nat.reduceAdd, Nat.reduceMul, and_self, reduceCtorEq, List.size_toArray, List.all_cons, List.all_nil, Value.oneCell', List.set_cons_zero, List.set_cons_succ, sets, fillL, Nat.reduceLeDiff, List.drop_succ_cons, List.drop_zero, List.take_succ_cons, List.take_zero, List.toList_toArray, argsE, Array.append_empty, Array.empty_append, List.getElem?_toArray, Int.reduceLT, Int.reduceLE, Int.reduceToNat, Int.reduceEq, Nat.reduceLT]
  refine appK_of (add_app (s := ⟨#[98, 99]⟩) hb1 (by decide) (by decide) (hG.Old .ap)) ?_
  rintro _ _ ⟨e2, cs2, rfl, hb2⟩
  rw [e2]
  clear e2
  have hm : ([] ++ strI ⟨#[97]⟩ ++ strI ⟨#[98, 99]⟩ : List Int) = [97, 98, 99] := by decide
  rw [hm] at hb2
  simp only [↓eD0, ↓eD1, eC0, eC1, eC2, eC3, eC4, eC5, eC6, wantedE, ↓reduceIte, Nat.reduceEqDiff, Option.map_some, Option.map_none, reread, List.nil_append, List.cons_append, List.map_cons, List.map_nil, List.length_nil, List.length_cons, Value.cells, List.getElem?_cons_zero, List.getElem?_cons_succ, outE, lks, lkR, rdV, neg1, evs, opt, Nat.reduceAdd, Nat.reduceMul, and_self, reduceCtorEq, List.size_toArray, List.all_cons, List.all_nil, Value.oneCell', List.set_cons_zero, List.set_cons_succ, sets, fillL, Nat.reduceLeDiff, List.drop_succ_cons, List.drop_zero, List.take_succ_cons, List.take_zero, List.toList_toArray, argsE, Array.append_empty, Array.empty_append, List.getElem?_toArray, Int.reduceLT, Int.reduceLE, Int.reduceToNat, Int.reduceEq, Nat.reduceLT]
  refine appK_of (stream_sum_app hb2 (by decide) (hG.Old .ap)) ?_
  rintro _ _ ⟨e2, rfl⟩
  rw [e2, hS']
  clear e2
  simp only [↓eD0, ↓eD1, eC0, eC1, eC2, eC3, eC4, eC5, eC6, wantedE, ↓reduceIte, Nat.reduceEqDiff, Option.map_some, Option.map_none, reread, List.nil_append, List.cons_append, List.map_cons, List.map_nil, List.length_nil, List.length_cons, Value.cells, List.getElem?_cons_zero, List.getElem?_cons_succ, outE, lks, lkR, rdV, neg1, evs, opt, Nat.reduceAdd, Nat.reduceMul, and_self, reduceCtorEq, List.size_toArray, List.all_cons, List.all_nil, Value.oneCell', List.set_cons_zero, List.set_cons_succ, sets, fillL, Nat.reduceLeDiff, List.drop_succ_cons, List.drop_zero, List.take_succ_cons, List.take_zero, List.toList_toArray, argsE, Array.append_empty, Array.empty_append, List.getElem?_toArray, Int.reduceLT, Int.reduceLE, Int.reduceToNat, Int.reduceEq, Nat.reduceLT, digC_rep, digC_length, hl1, t32, s32, n32, digC_one, List.length_replicate]
  refine appK_of (hof_app (l := []) (tag := 1) ⟨rfl, .inl ⟨rfl, _, _, rfl, .inl rfl⟩⟩ (by decide) (fun s hs => by simp at hs) (hG.Old .ap)) ?_
  rintro _ _ ⟨e2, rfl⟩
  rw [e2]
  clear e2
  have hl2 : (ofF 1 []).length = 16 := ofF_len
  obtain ⟨D, hD⟩ : ∃ D, ofF 1 [] = D := ⟨_, rfl⟩
  rw [hD] at hl2 hx2 ⊢
  have t16 := digC_take (l := D) hl2
  have s16 := digC_sets (z := List.replicate 16 0) (l := D) (by simp [hl2])
  have n16 := digC_ne' (l := D) hl2 (by omega)
  simp only [↓eD0, ↓eD1, eC0, eC1, eC2, eC3, eC4, eC5, eC6, wantedE, ↓reduceIte, Nat.reduceEqDiff, Option.map_some, Option.map_none, reread, List.nil_append, List.cons_append, List.map_cons, List.map_nil, List.length_nil, List.length_cons, Value.cells, List.getElem?_cons_zero, List.getElem?_cons_succ, outE, lks, lkR, rdV, neg1, evs, opt, Nat.reduceAdd, Nat.reduceMul, and_self, reduceCtorEq, List.size_toArray, List.all_cons, List.all_nil, Value.oneCell', List.set_cons_zero, List.set_cons_succ, sets, fillL, Nat.reduceLeDiff, List.drop_succ_cons, List.drop_zero, List.take_succ_cons, List.take_zero, List.toList_toArray, argsE, Array.append_empty, Array.empty_append, List.getElem?_toArray, Int.reduceLT, Int.reduceLE, Int.reduceToNat, Int.reduceEq, Nat.reduceLT, digC_rep, digC_length, hl2, t16, s16, n16, digC_one, List.length_replicate]
  refine appK_of (crc40_app (b := [254]) (by unfold Byt; decide) ⟨rfl, .inr ⟨_, _, _, rfl, ⟨by decide, .inl (by decide)⟩, by rw [rdN_ap]; rfl⟩⟩ (by decide) (hN.Old .ap)) ?_
  rintro _ _ ⟨e2, rfl⟩
  rw [e2, show crcF (List.map Int.toNat [254]) = 75628790 from crc_254]
  clear e2
  simp only [↓eD0, ↓eD1, eC0, eC1, eC2, eC3, eC4, eC5, eC6, wantedE, ↓reduceIte, Nat.reduceEqDiff, Option.map_some, Option.map_none, reread, List.nil_append, List.cons_append, List.map_cons, List.map_nil, List.length_nil, List.length_cons, Value.cells, List.getElem?_cons_zero, List.getElem?_cons_succ, outE, lks, lkR, rdV, neg1, evs, opt, Nat.reduceAdd, Nat.reduceMul, and_self, reduceCtorEq, List.size_toArray, List.all_cons, List.all_nil, Value.oneCell', List.set_cons_zero, List.set_cons_succ, sets, fillL, Nat.reduceLeDiff, List.drop_succ_cons, List.drop_zero, List.take_succ_cons, List.take_zero, List.toList_toArray, argsE, Array.append_empty, Array.empty_append, List.getElem?_toArray, Int.reduceLT, Int.reduceLE, Int.reduceToNat, Int.reduceEq, Nat.reduceLT]
  refine appK_of begin_crc_app ?_
  rintro _ _ ⟨e2, rfl⟩
  rw [e2]
  clear e2
  simp only [↓eD0, ↓eD1, eC0, eC1, eC2, eC3, eC4, eC5, eC6, wantedE, ↓reduceIte, Nat.reduceEqDiff, Option.map_some, Option.map_none, reread, List.nil_append, List.cons_append, List.map_cons, List.map_nil, List.length_nil, List.length_cons, Value.cells, List.getElem?_cons_zero, List.getElem?_cons_succ, outE, lks, lkR, rdV, neg1, evs, opt, Nat.reduceAdd, Nat.reduceMul, and_self, reduceCtorEq, List.size_toArray, List.all_cons, List.all_nil, Value.oneCell', List.set_cons_zero, List.set_cons_succ, sets, fillL, Nat.reduceLeDiff, List.drop_succ_cons, List.drop_zero, List.take_succ_cons, List.take_zero, List.toList_toArray, argsE, Array.append_empty, Array.empty_append, List.getElem?_toArray, Int.reduceLT, Int.reduceLE, Int.reduceToNat, Int.reduceEq, Nat.reduceLT]
  refine appK_of (add_crc_app (r := BitVec.allOnes 40) (s := ⟨#[255]⟩) (by decide) (hN.Old .ap)) ?_
  rintro _ _ ⟨e2, rfl⟩
  rw [e2]
  clear e2
  simp only [↓eD0, ↓eD1, eC0, eC1, eC2, eC3, eC4, eC5, eC6, wantedE, ↓reduceIte, Nat.reduceEqDiff, Option.map_some, Option.map_none, reread, List.nil_append, List.cons_append, List.map_cons, List.map_nil, List.length_nil, List.length_cons, Value.cells, List.getElem?_cons_zero, List.getElem?_cons_succ, outE, lks, lkR, rdV, neg1, evs, opt, Nat.reduceAdd, Nat.reduceMul, and_self, reduceCtorEq, List.size_toArray, List.all_cons, List.all_nil, Value.oneCell', List.set_cons_zero, List.set_cons_succ, sets, fillL, Nat.reduceLeDiff, List.drop_succ_cons, List.drop_zero, List.take_succ_cons, List.take_zero, List.toList_toArray, argsE, Array.append_empty, Array.empty_append, List.getElem?_toArray, Int.reduceLT, Int.reduceLE, Int.reduceToNat, Int.reduceEq, Nat.reduceLT]
  refine appK_of (add_crc_app (r := runY (BitVec.allOnes 40) (natL ⟨#[255]⟩)) (s := ⟨#[255]⟩) (by decide) (hN.Old .ap)) ?_
  rintro _ _ ⟨e2, rfl⟩
  rw [e2]
  clear e2
  simp only [↓eD0, ↓eD1, eC0, eC1, eC2, eC3, eC4, eC5, eC6, wantedE, ↓reduceIte, Nat.reduceEqDiff, Option.map_some, Option.map_none, reread, List.nil_append, List.cons_append, List.map_cons, List.map_nil, List.length_nil, List.length_cons, Value.cells, List.getElem?_cons_zero, List.getElem?_cons_succ, outE, lks, lkR, rdV, neg1, evs, opt, Nat.reduceAdd, Nat.reduceMul, and_self, reduceCtorEq, List.size_toArray, List.all_cons, List.all_nil, Value.oneCell', List.set_cons_zero, List.set_cons_succ, sets, fillL, Nat.reduceLeDiff, List.drop_succ_cons, List.drop_zero, List.take_succ_cons, List.take_zero, List.toList_toArray, argsE, Array.append_empty, Array.empty_append, List.getElem?_toArray, Int.reduceLT, Int.reduceLE, Int.reduceToNat, Int.reduceEq, Nat.reduceLT]
  refine appK_of (value_app (r := runY (runY (BitVec.allOnes 40) (natL ⟨#[255]⟩)) (natL ⟨#[255]⟩))) ?_
  rintro _ _ ⟨e2, rfl⟩
  rw [e2, show valF (runY (runY (BitVec.allOnes 40) (natL ⟨#[255]⟩)) (natL ⟨#[255]⟩)) = 65535 from crc_ff]
  clear e2
  simp only [↓eD0, ↓eD1, eC0, eC1, eC2, eC3, eC4, eC5, eC6, wantedE, ↓reduceIte, Nat.reduceEqDiff, Option.map_some, Option.map_none, reread, List.nil_append, List.cons_append, List.map_cons, List.map_nil, List.length_nil, List.length_cons, Value.cells, List.getElem?_cons_zero, List.getElem?_cons_succ, outE, lks, lkR, rdV, neg1, evs, opt, Nat.reduceAdd, Nat.reduceMul, and_self, reduceCtorEq, List.size_toArray, List.all_cons, List.all_nil, Value.oneCell', List.set_cons_zero, List.set_cons_succ, sets, fillL, Nat.reduceLeDiff, List.drop_succ_cons, List.drop_zero, List.take_succ_cons, List.take_zero, List.toList_toArray, argsE, Array.append_empty, Array.empty_append, List.getElem?_toArray, Int.reduceLT, Int.reduceLE, Int.reduceToNat, Int.reduceEq, Nat.reduceLT]
  refine appK_of (hwords_app (l := [1099511627774]) (by decide) ⟨rfl, .inr ⟨_, _, _, rfl, ⟨by decide, .inl (by decide)⟩, by rw [rdN_ap]; rfl⟩⟩ (by decide) (hN.Old .ap)) ?_
  rintro _ _ ⟨e2, rfl⟩
  rw [e2, words_one]
  clear e2
  simp only [↓eD0, ↓eD1, eC0, eC1, eC2, eC3, eC4, eC5, eC6, wantedE, ↓reduceIte, Nat.reduceEqDiff, Option.map_some, Option.map_none, reread, List.nil_append, List.cons_append, List.map_cons, List.map_nil, List.length_nil, List.length_cons, Value.cells, List.getElem?_cons_zero, List.getElem?_cons_succ, outE, lks, lkR, rdV, neg1, evs, opt, Nat.reduceAdd, Nat.reduceMul, and_self, reduceCtorEq, List.size_toArray, List.all_cons, List.all_nil, Value.oneCell', List.set_cons_zero, List.set_cons_succ, sets, fillL, Nat.reduceLeDiff, List.drop_succ_cons, List.drop_zero, List.take_succ_cons, List.take_zero, List.toList_toArray, argsE, Array.append_empty, Array.empty_append, List.getElem?_toArray, Int.reduceLT, Int.reduceLE, Int.reduceToNat, Int.reduceEq, Nat.reduceLT]
  refine appK_of (join_app (a := 255) (b := 255) (n := 1) (by decide) (hN.Old .ap)) ?_
  rintro _ _ ⟨e2, rfl⟩
  rw [e2, join_1.1]
  clear e2
  simp only [↓eD0, ↓eD1, eC0, eC1, eC2, eC3, eC4, eC5, eC6, wantedE, ↓reduceIte, Nat.reduceEqDiff, Option.map_some, Option.map_none, reread, List.nil_append, List.cons_append, List.map_cons, List.map_nil, List.length_nil, List.length_cons, Value.cells, List.getElem?_cons_zero, List.getElem?_cons_succ, outE, lks, lkR, rdV, neg1, evs, opt, Nat.reduceAdd, Nat.reduceMul, and_self, reduceCtorEq, List.size_toArray, List.all_cons, List.all_nil, Value.oneCell', List.set_cons_zero, List.set_cons_succ, sets, fillL, Nat.reduceLeDiff, List.drop_succ_cons, List.drop_zero, List.take_succ_cons, List.take_zero, List.toList_toArray, argsE, Array.append_empty, Array.empty_append, List.getElem?_toArray, Int.reduceLT, Int.reduceLE, Int.reduceToNat, Int.reduceEq, Nat.reduceLT]
  refine appK_of (join_app (a := 255) (b := 0) (n := 1) (by decide) (hN.Old .ap)) ?_
  rintro _ _ ⟨e2, rfl⟩
  rw [e2, join_1.2.1]
  clear e2
  simp only [↓eD0, ↓eD1, eC0, eC1, eC2, eC3, eC4, eC5, eC6, wantedE, ↓reduceIte, Nat.reduceEqDiff, Option.map_some, Option.map_none, reread, List.nil_append, List.cons_append, List.map_cons, List.map_nil, List.length_nil, List.length_cons, Value.cells, List.getElem?_cons_zero, List.getElem?_cons_succ, outE, lks, lkR, rdV, neg1, evs, opt, Nat.reduceAdd, Nat.reduceMul, and_self, reduceCtorEq, List.size_toArray, List.all_cons, List.all_nil, Value.oneCell', List.set_cons_zero, List.set_cons_succ, sets, fillL, Nat.reduceLeDiff, List.drop_succ_cons, List.drop_zero, List.take_succ_cons, List.take_zero, List.toList_toArray, argsE, Array.append_empty, Array.empty_append, List.getElem?_toArray, Int.reduceLT, Int.reduceLE, Int.reduceToNat, Int.reduceEq, Nat.reduceLT]
  refine appK_of (join_app (a := 7) (b := 9) (n := 0) (by decide) (hN.Old .ap)) ?_
  rintro _ _ ⟨e2, rfl⟩
  rw [e2, join_1.2.2.1]
  clear e2
  simp only [↓eD0, ↓eD1, eC0, eC1, eC2, eC3, eC4, eC5, eC6, wantedE, ↓reduceIte, Nat.reduceEqDiff, Option.map_some, Option.map_none, reread, List.nil_append, List.cons_append, List.map_cons, List.map_nil, List.length_nil, List.length_cons, Value.cells, List.getElem?_cons_zero, List.getElem?_cons_succ, outE, lks, lkR, rdV, neg1, evs, opt, Nat.reduceAdd, Nat.reduceMul, and_self, reduceCtorEq, List.size_toArray, List.all_cons, List.all_nil, Value.oneCell', List.set_cons_zero, List.set_cons_succ, sets, fillL, Nat.reduceLeDiff, List.drop_succ_cons, List.drop_zero, List.take_succ_cons, List.take_zero, List.toList_toArray, argsE, Array.append_empty, Array.empty_append, List.getElem?_toArray, Int.reduceLT, Int.reduceLE, Int.reduceToNat, Int.reduceEq, Nat.reduceLT]
  refine appK_of (join_app (a := 1) (b := 1) (n := -1) (by decide) (hN.Old .ap)) ?_
  rintro _ _ ⟨e2, rfl⟩
  rw [e2, join_1.2.2.2]
  clear e2
  simp only [↓eD0, ↓eD1, eC0, eC1, eC2, eC3, eC4, eC5, eC6, wantedE, ↓reduceIte, Nat.reduceEqDiff, Option.map_some, Option.map_none, reread, List.nil_append, List.cons_append, List.map_cons, List.map_nil, List.length_nil, List.length_cons, Value.cells, List.getElem?_cons_zero, List.getElem?_cons_succ, outE, lks, lkR, rdV, neg1, evs, opt, Nat.reduceAdd, Nat.reduceMul, and_self, reduceCtorEq, List.size_toArray, List.all_cons, List.all_nil, Value.oneCell', List.set_cons_zero, List.set_cons_succ, sets, fillL, Nat.reduceLeDiff, List.drop_succ_cons, List.drop_zero, List.take_succ_cons, List.take_zero, List.toList_toArray, argsE, Array.append_empty, Array.empty_append, List.getElem?_toArray, Int.reduceLT, Int.reduceLE, Int.reduceToNat, Int.reduceEq, Nat.reduceLT, digC_length, hl1, t32]
  refine appK_of (bytes32_app (d := S) hl1) ?_
  rintro _ _ ⟨e2, rfl⟩
  rw [e2]
  clear e2
  simp only [↓eD0, ↓eD1, eC0, eC1, eC2, eC3, eC4, eC5, eC6, wantedE, ↓reduceIte, Nat.reduceEqDiff, Option.map_some, Option.map_none, reread, List.nil_append, List.cons_append, List.map_cons, List.map_nil, List.length_nil, List.length_cons, Value.cells, List.getElem?_cons_zero, List.getElem?_cons_succ, outE, lks, lkR, rdV, neg1, evs, opt, Nat.reduceAdd, Nat.reduceMul, and_self, reduceCtorEq, List.size_toArray, List.all_cons, List.all_nil, Value.oneCell', List.set_cons_zero, List.set_cons_succ, sets, fillL, Nat.reduceLeDiff, List.drop_succ_cons, List.drop_zero, List.take_succ_cons, List.take_zero, List.toList_toArray, argsE, Array.append_empty, Array.empty_append, List.getElem?_toArray, Int.reduceLT, Int.reduceLE, Int.reduceToNat, Int.reduceEq, Nat.reduceLT]
  refine appK_of (hex_app (s := bytesS S) (by rw [bytesS_size', hl1]; decide)) ?_
  rintro _ _ ⟨e2, rfl⟩
  rw [e2]
  clear e2
  have ae := aggEq_u8 (a := S) (b := S) (n := 32) hl1 hl1
  simp only [↓eD0, ↓eD1, eC0, eC1, eC2, eC3, eC4, eC5, eC6, wantedE, ↓reduceIte, Nat.reduceEqDiff, Option.map_some, Option.map_none, reread, List.nil_append, List.cons_append, List.map_cons, List.map_nil, List.length_nil, List.length_cons, Value.cells, List.getElem?_cons_zero, List.getElem?_cons_succ, outE, lks, lkR, rdV, neg1, evs, opt, Nat.reduceAdd, Nat.reduceMul, and_self, reduceCtorEq, List.size_toArray, List.all_cons, List.all_nil, Value.oneCell', List.set_cons_zero, List.set_cons_succ, sets, fillL, Nat.reduceLeDiff, List.drop_succ_cons, List.drop_zero, List.take_succ_cons, List.take_zero, List.toList_toArray, argsE, Array.append_empty, Array.empty_append, List.getElem?_toArray, Int.reduceLT, Int.reduceLE, Int.reduceToNat, Int.reduceEq, Nat.reduceLT, bin_seql, hx1, digC_length, hl1, t32, hl2, t16, ae]
  refine appK_of (digs_app (d := D) hl2) ?_
  rintro _ _ ⟨e2, rfl⟩
  rw [e2]
  clear e2
  simp only [↓eD0, ↓eD1, eC0, eC1, eC2, eC3, eC4, eC5, eC6, wantedE, ↓reduceIte, Nat.reduceEqDiff, Option.map_some, Option.map_none, reread, List.nil_append, List.cons_append, List.map_cons, List.map_nil, List.length_nil, List.length_cons, Value.cells, List.getElem?_cons_zero, List.getElem?_cons_succ, outE, lks, lkR, rdV, neg1, evs, opt, Nat.reduceAdd, Nat.reduceMul, and_self, reduceCtorEq, List.size_toArray, List.all_cons, List.all_nil, Value.oneCell', List.set_cons_zero, List.set_cons_succ, sets, fillL, Nat.reduceLeDiff, List.drop_succ_cons, List.drop_zero, List.take_succ_cons, List.take_zero, List.toList_toArray, argsE, Array.append_empty, Array.empty_append, List.getElem?_toArray, Int.reduceLT, Int.reduceLE, Int.reduceToNat, Int.reduceEq, Nat.reduceLT]
  refine appK_of (hex_app (s := bytesS D) (by rw [bytesS_size', hl2]; decide)) ?_
  rintro _ _ ⟨e2, rfl⟩
  rw [e2]
  clear e2
  simp only [↓eD0, ↓eD1, eC0, eC1, eC2, eC3, eC4, eC5, eC6, wantedE, ↓reduceIte, Nat.reduceEqDiff, Option.map_some, Option.map_none, reread, List.nil_append, List.cons_append, List.map_cons, List.map_nil, List.length_nil, List.length_cons, Value.cells, List.getElem?_cons_zero, List.getElem?_cons_succ, outE, lks, lkR, rdV, neg1, evs, opt, Nat.reduceAdd, Nat.reduceMul, and_self, reduceCtorEq, List.size_toArray, List.all_cons, List.all_nil, Value.oneCell', List.set_cons_zero, List.set_cons_succ, sets, fillL, Nat.reduceLeDiff, List.drop_succ_cons, List.drop_zero, List.take_succ_cons, List.take_zero, List.toList_toArray, argsE, Array.append_empty, Array.empty_append, List.getElem?_toArray, Int.reduceLT, Int.reduceLE, Int.reduceToNat, Int.reduceEq, Nat.reduceLT, bin_seql, hx2]
  rw [ap_nil]
  exact ⟨.ap, by simp [flat]⟩
end Go.Proofs.YtoegoigfbldkoaaDoor
