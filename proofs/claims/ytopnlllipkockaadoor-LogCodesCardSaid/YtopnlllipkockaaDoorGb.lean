/- Walks of the functions that the claim reaches. Conditions: none. -/
import Derived.Test.YtopnlllipkockaaDoorGa
set_option linter.all false
set_option maxRecDepth 10000
set_option maxHeartbeats 4000000
namespace Go.Proofs.YtopnlllipkockaaDoor
open Go Go.Cn Go.RowKit
attribute [local irreducible] evL sem onG onI onV
def I64 (n : Int) : Prop := -9223372036854775808 ≤ n ∧ n < 9223372036854775808
theorem wlist_app {σ : H} {sl : Value} {l : List Int} (hr : Whl σ 1 sl l.length (i64C l)) (hl : l.length < 10000000000) (hI : ∀ n ∈ l, I64 n) :
  App Tryd.prog (.func 74) #[] #[sl, .func (.func 49) #[] #[]] σ fun v σ' => Old σ σ' ∧ Grown σ σ' 1 v (digC (intsF l)) (intsF l).length := by
 refine App.of_sem mixed Tryd.func74 t74 k74 r74 (Nat.le_of_ble_eq_true rfl) ?_
 obtain ⟨base, cp, rfl⟩ := hr.slice
 unfold s74
 have e0 : ap σ [] = σ := ap_nil
 rw [← e0]
 simp only [↓eD, eZ, ↓reduceIte, Nat.reduceEqDiff, Nat.reduceAdd, Nat.reduceMul, reduceCtorEq, Nat.reduceLeDiff, Int.reduceLT, Int.reduceLE, Int.reduceToNat, Int.reduceEq, Nat.reduceLT]
 refine appK_of (wint_app (by omega) (by omega)) ?_
 rintro v σ1 ⟨ho1, hg1⟩
 simp only [↓eD, eZ, ↓reduceIte, Nat.reduceEqDiff, Nat.reduceAdd, Nat.reduceMul, reduceCtorEq, Nat.reduceLeDiff, Int.reduceLT, Int.reduceLE, Int.reduceToNat, Int.reduceEq, Nat.reduceLT]
 refine loop_for (J := fun i e τ => i ≤ l.length ∧ ∃ v, e = [(1, .func (.func 49) #[] #[]), (5, v), (11, .slice base l.length cp), (12, .int .i64 l.length), (13, .int .i64 i)] ∧ Old σ τ ∧ Grown σ τ 1 v (digC (intF l.length ++ (l.take i).flatMap intF)) (intF l.length ++ (l.take i).flatMap intF).length) l.length
  ⟨by omega, v, rfl, Old.ap.trans ho1, by simpa using hg1.from (by simp [ap_size])⟩ ?_
 rintro i e τ hi ⟨_, v, rfl, ho, hg⟩
 have e1 : ap τ [] = τ := ap_nil
 rw [← e1]
 by_cases hlt : i < l.length
 ·have dl : decide ((i : Int) < (l.length : Int)) = true := by rw [decide_eq_true]; omega
  obtain ⟨b, off, rfl, h1⟩ := hr.at (by omega)
  have hrd : ∀ L, rd1 (ap τ L) ⟨b, off + i, none⟩ = some (.int .i64 l[i]) := fun L => rd1_Old (ho.trans .ap) (rd1_row h1 (by simp [i64C, hlt]))
  have hb : (0:Int) ≤ (i:Int) ∧ (i:Int) < (l.length : Int) := by omega
  have hw : IntKind.wrap .i64 ((i:Int) + 1) = ((i + 1 : Nat) : Int) := by rw [wrap64' (by omega) (by omega)]; omega
  have hI' := hI l[i] (by simp)
  simp only [↓eD, eZ, ↓reduceIte, Nat.reduceEqDiff, Nat.reduceAdd, Nat.reduceMul, reduceCtorEq, Nat.reduceLeDiff, Int.reduceLT, Int.reduceLE, Int.reduceToNat, Int.reduceEq, Nat.reduceLT, dl, hb, Int.toNat_natCast, Nat.mul_one, hrd]
  refine appK_of (wint_app hI'.1 hI'.2) ?_
  rintro w τ2 ⟨ho2, hg2⟩
  simp only [↓eD, eZ, ↓reduceIte, Nat.reduceEqDiff, Nat.reduceAdd, Nat.reduceMul, reduceCtorEq, Nat.reduceLeDiff, Int.reduceLT, Int.reduceLE, Int.reduceToNat, Int.reduceEq, Nat.reduceLT]
  have hlen := flat_len (f := intF) (l := l) (i := i) fun x => intF_len
  have hlen2 : (intF l.length).length ≤ 10 := intF_len
  have hlen3 : (intF l[i]).length ≤ 10 := intF_len
  have hoo : Old σ τ2 := (ho.trans .ap).trans ho2
  have hgg := (hg.old (Old.ap (l := []))).old ho2
  obtain ⟨v', τ', ha, hA⟩ := append_bytes (new := intF l[i]) hgg hoo.1 hg2.whl.x (by rw [List.length_append]; omega)
  refine onV_of ha ?_
  simp only [↓eD, eZ, ↓reduceIte, Nat.reduceEqDiff, Nat.reduceAdd, Nat.reduceMul, reduceCtorEq, Nat.reduceLeDiff, Int.reduceLT, Int.reduceLE, Int.reduceToNat, Int.reduceEq, Nat.reduceLT, hw]
  refine ⟨hlt, by omega, v', rfl, hA.Old hgg hoo, ?_⟩
  rw [flat_take hlt, ← List.append_assoc]
  exact hA.grown
 ·have : i = l.length := by omega
  subst this
  have dl : decide ((l.length : Int) < (l.length : Int)) = false := by rw [decide_eq_false]; omega
  simp only [↓eD, eZ, ↓reduceIte, Nat.reduceEqDiff, Nat.reduceAdd, Nat.reduceMul, reduceCtorEq, Nat.reduceLeDiff, Int.reduceLT, Int.reduceLE, Int.reduceToNat, Int.reduceEq, Nat.reduceLT, dl]
  rw [List.take_length] at hg
  exact ⟨ho.trans .ap, hg.old .ap⟩
theorem wints_app {σ : H} {sl : Value} {l : List Int} (hr : Whl σ 1 sl l.length (i64C l)) (hl : l.length < 10000000000) (hI : ∀ n ∈ l, I64 n) :
  App Tryd.prog (.func 53) #[] #[sl] σ fun v σ' => Old σ σ' ∧ Grown σ σ' 1 v (digC (intsF l)) (intsF l).length := by
 refine App.of_sem mixed Tryd.func53 t53 k53 r53 (Nat.le_of_ble_eq_true rfl) ?_
 obtain ⟨base, cp, rfl⟩ := hr.slice
 unfold s53
 simp only [↓eD, eZ, ↓reduceIte, Nat.reduceEqDiff, Nat.reduceAdd, Nat.reduceMul, reduceCtorEq, Nat.reduceLeDiff, Int.reduceLT, Int.reduceLE, Int.reduceToNat, Int.reduceEq, Nat.reduceLT]
 refine appK_of (wlist_app hr hl hI) ?_
 rintro v σ1 ⟨ho1, hg1⟩
 simp only [↓eD, eZ, ↓reduceIte, Nat.reduceEqDiff, Nat.reduceAdd, Nat.reduceMul, reduceCtorEq, Nat.reduceLeDiff, Int.reduceLT, Int.reduceLE, Int.reduceToNat, Int.reduceEq, Nat.reduceLT]
 exact ⟨ho1, hg1⟩
theorem dig_str {d : List Int} : Value.string { data := (List.map (fun x : Int => UInt8.ofNat x.toNat) d).toArray } = .string (bytesS d) := rfl
theorem lbegin_app {σ : H} {d : List Int} {c : Int} (hd : d.length = 16) (hc : I64 c) (hG : HGlob σ) :
  App Tryd.prog (.func 17) #[] #[.agg (digC d).toArray, .int .i64 c] σ fun v σ' => σ' = σ ∧ v = .agg (digC (beginF d c)).toArray := by
 refine App.forget (App.of_sem mixed Tryd.func17 t17 k17 r17 (Nat.le_of_ble_eq_true rfl) ?_)
 unfold s17
 have e0 : ap σ [] = σ := ap_nil
 have hd' := digC_len hd
 have td := digC_take hd
 rw [← e0]
 have sa : sliceArr 16 1 (.pointer (some ⟨σ.size, 0, none⟩)) none none none = some (.slice (some ⟨σ.size, 0, none⟩) 16 16) := rfl
 simp only [↓eD, eZ, ↓reduceIte, Nat.reduceEqDiff, Nat.reduceAdd, Nat.reduceMul, reduceCtorEq, Nat.reduceLeDiff, Int.reduceLT, Int.reduceLE, Int.reduceToNat, Int.reduceEq, Nat.reduceLT, hd', td, sa, bytesOf_dig, dig_str, Option.bind_some]
 refine appK_of (wint_app hc.1 hc.2) ?_
 rintro v σ1 ⟨ho1, hg1⟩
 obtain ⟨bs, cc, rfl⟩ := hg1.slice
 have e1 : ap σ1 [] = σ1 := ap_nil
 obtain ⟨bk, off, rfl, h2⟩ := (hg1.old (Old.ap (l := []))).whl.at intF_pos
 rw [Nat.mul_one] at h2
 rw [← e1]
 have hz0 : σ1[σ.size]? = some (.cells 0 (digC d) (0, 0)) := (ho1.2 _ (by simp [ap_size])).trans (by rw [ap_new0]; rfl)
 have hlt0 : σ.size < σ1.size := (Array.getElem?_eq_some_iff.1 hz0).1
 have r0 : ∀ L, rdN (ap σ1 L) ⟨σ.size, 0, none⟩ 16 = some (digC d) := fun L => rdN_all ((ap_old hlt0).trans hz0) hd'
 simp only [↓eD, eZ, ↓reduceIte, Nat.reduceEqDiff, Nat.reduceAdd, Nat.reduceMul, reduceCtorEq, Nat.reduceLeDiff, Int.reduceLT, Int.reduceLE, Int.reduceToNat, Int.reduceEq, Nat.reduceLT, h2, Option.bind_some, bytesOf_dig, dig_str, r0]
 have hs2 : ∀ s ∈ [bytesS d, bytesS (intF c)], s.size < 100000000000 := by
  intro s hs
  have h10 : (intF c).length ≤ 10 := intF_len
  simp only [List.mem_cons, List.not_mem_nil, or_false] at hs
  rcases hs with rfl | rfl
  ·rw [bytesS_size]; omega
  ·rw [bytesS_size]; omega
 refine appK_at (hof_app (l := [bytesS d, bytesS (intF c)]) (whl_lit (ver := 0) (by rw [ap_new0]; rfl) rfl (by decide)) (by simp) hs2 (hG.Old ((Old.ap.trans ho1).trans .ap))) ?_
 have hz : σ1[σ.size + 1]? = some (.cells 0 (digC (List.replicate 16 0)) (0, 0)) := (ho1.2 _ (by simp [ap_size])).trans (by rw [ap_new]; rfl)
 have hlt : σ.size + 1 < σ1.size := (Array.getElem?_eq_some_iff.1 hz).1
 have hz' : ∀ L, (ap σ1 L)[σ.size + 1]? = some (.cells 0 (digC (List.replicate 16 0)) (0, 0)) := fun L => (ap_old hlt).trans hz
 have hof : ofF 293 [bytesS d, bytesS (intF c)] = beginF d c := by rw [beginF]
 have t16 := digC_take (l := beginF d c) beginF_len
 have u16 := digC_sets (z := List.replicate 16 0) (l := beginF d c) (by simp [beginF_len])
 have m16 := digC_ne' (l := beginF d c) beginF_len (by omega)
 have w2 : ∀ L, wrN (ap σ1 L) ⟨σ.size + 1, 0, none⟩ (digC (beginF d c)) = some ((ap σ1 L).setIfInBounds (σ.size + 1) (.cells 1 (digC (beginF d c)) (0, 0))) := fun L => by
  rw [wrN_eq, if_neg (by rw [m16]; exact id), hz', wrc_cells, u16, if_pos ⟨by simp [digC_length, beginF_len], digC_one⟩]; rfl
 have r2 : ∀ L, rdN ((ap σ1 L).setIfInBounds (σ.size + 1) (.cells 1 (digC (beginF d c)) (0, 0))) ⟨σ.size + 1, 0, none⟩ 16 = some (digC (beginF d c)) := fun L => rdN_all (get_set (hz' L)) (by rw [digC_length, beginF_len])
 simp only [↓eD, eZ, ↓reduceIte, Nat.reduceEqDiff, Nat.reduceAdd, Nat.reduceMul, reduceCtorEq, Nat.reduceLeDiff, Int.reduceLT, Int.reduceLE, Int.reduceToNat, Int.reduceEq, Nat.reduceLT, hof, digC_length, beginF_len, t16, w2, r2]
 exact ⟨((Old.ap.trans ho1).trans .ap).set (by omega), flat_dig⟩
theorem lnext_app {σ : H} {d : List Int} {e : Ent} (hd : d.length = 16) (h1 : I64 e.kind) (h2 : I64 e.cpu) (h3 : I64 e.count) (h4 : I64 e.n) (he : e.data.size < 100000000000) (hG : HGlob σ) :
  App Tryd.prog (.func 19) #[] #[.agg (digC d).toArray, .agg (entV e).toArray] σ fun v σ' => σ' = σ ∧ v = .agg (digC (nextF d e)).toArray := by
 refine App.forget (App.of_sem mixed Tryd.func19 t19 k19 r19 (Nat.le_of_ble_eq_true rfl) ?_)
 unfold s19
 have e0 : ap σ [] = σ := ap_nil
 have hd' := digC_len hd
 have td := digC_take hd
 have rep4 : List.replicate 4 (Value.int .i64 0) = [.int .i64 0, .int .i64 0, .int .i64 0, .int .i64 0] := rfl
 have sa : sliceArr 16 1 (.pointer (some ⟨σ.size, 0, none⟩)) none none none = some (.slice (some ⟨σ.size, 0, none⟩) 16 16) := rfl
 rw [← e0]
 simp only [↓eD, eZ, ↓reduceIte, Nat.reduceEqDiff, Nat.reduceAdd, Nat.reduceMul, reduceCtorEq, Nat.reduceLeDiff, Int.reduceLT, Int.reduceLE, Int.reduceToNat, Int.reduceEq, Nat.reduceLT, hd', td, sa, entV, rep4, bytesOf_dig, dig_str, Option.bind_some]
 refine appK_of (wints_app (l := [e.kind, e.cpu, e.count, e.n]) (whl_lit (ver := 0) (by rw [ap_new]; rfl) rfl (by decide)) (by simp) (by simp [h1, h2, h3, h4])) ?_
 rintro v σ1 ⟨ho1, hg1⟩
 obtain ⟨bs, cc, rfl⟩ := hg1.slice
 have e1 : ap σ1 [] = σ1 := ap_nil
 obtain ⟨bk, off, rfl, g2⟩ := (hg1.old (Old.ap (l := []))).whl.at intsF_pos
 rw [Nat.mul_one] at g2
 have hz0 : σ1[σ.size]? = some (.cells 0 (digC d) (0, 0)) := (ho1.2 _ (by simp [ap_size])).trans (by rw [ap_new0]; rfl)
 have hlt0 : σ.size < σ1.size := (Array.getElem?_eq_some_iff.1 hz0).1
 have r0 : ∀ L, rdN (ap σ1 L) ⟨σ.size, 0, none⟩ 16 = some (digC d) := fun L => rdN_all ((ap_old hlt0).trans hz0) hd'
 have hz : σ1[σ.size + 2]? = some (.cells 0 (digC (List.replicate 16 0)) (0, 0)) := (ho1.2 _ (by simp [ap_size])).trans (by rw [ap_new]; rfl)
 have hE : σ1[σ.size + 1]? = some (.cells 0 (entV e) (0, 0)) := (ho1.2 _ (by simp [ap_size])).trans (by rw [ap_new]; rfl)
 have hlt : σ.size + 2 < σ1.size := (Array.getElem?_eq_some_iff.1 hz).1
 have hz' : ∀ L, (ap σ1 L)[σ.size + 2]? = some (.cells 0 (digC (List.replicate 16 0)) (0, 0)) := fun L => (ap_old hlt).trans hz
 have hE4 : ∀ L, rd1 (ap σ1 L) ⟨σ.size + 1, 4, none⟩ = some (.string e.data) := fun L => by rw [rd1_eq, ap_old (b := σ.size + 1) (by omega), hE]; rfl
 rw [← e1]
 simp only [↓eD, eZ, ↓reduceIte, Nat.reduceEqDiff, Nat.reduceAdd, Nat.reduceMul, reduceCtorEq, Nat.reduceLeDiff, Int.reduceLT, Int.reduceLE, Int.reduceToNat, Int.reduceEq, Nat.reduceLT, g2, Option.bind_some, bytesOf_dig, dig_str, hE4, r0]
 have hs2 : ∀ s ∈ [bytesS d, bytesS (intsF [e.kind, e.cpu, e.count, e.n]), e.data], s.size < 100000000000 := by
  intro s hs
  have h10 : (intsF [e.kind, e.cpu, e.count, e.n]).length ≤ 50 := intsF_len
  simp only [List.mem_cons, List.not_mem_nil, or_false] at hs
  rcases hs with rfl | rfl | rfl
  ·rw [bytesS_size]; omega
  ·rw [bytesS_size]; omega
  ·exact he
 refine appK_at (hof_app (l := [bytesS d, bytesS (intsF [e.kind, e.cpu, e.count, e.n]), e.data]) (whl_lit (ver := 0) (by rw [ap_new0]; rfl) rfl (by decide)) (by simp) hs2 (hG.Old ((Old.ap.trans ho1).trans .ap))) ?_
 have hof : ofF 290 [bytesS d, bytesS (intsF [e.kind, e.cpu, e.count, e.n]), e.data] = nextF d e := by rw [nextF]
 have t16 := digC_take (l := nextF d e) nextF_len
 have u16 := digC_sets (z := List.replicate 16 0) (l := nextF d e) (by simp [nextF_len])
 have m16 := digC_ne' (l := nextF d e) nextF_len (by omega)
 have w2 : ∀ L, wrN (ap σ1 L) ⟨σ.size + 2, 0, none⟩ (digC (nextF d e)) = some ((ap σ1 L).setIfInBounds (σ.size + 2) (.cells 1 (digC (nextF d e)) (0, 0))) := fun L => by
  rw [wrN_eq, if_neg (by rw [m16]; exact id), hz', wrc_cells, u16, if_pos ⟨by simp [digC_length, nextF_len], digC_one⟩]; rfl
 have r2 : ∀ L, rdN ((ap σ1 L).setIfInBounds (σ.size + 2) (.cells 1 (digC (nextF d e)) (0, 0))) ⟨σ.size + 2, 0, none⟩ 16 = some (digC (nextF d e)) := fun L => rdN_all (get_set (hz' L)) (by rw [digC_length, nextF_len])
 simp only [↓eD, eZ, ↓reduceIte, Nat.reduceEqDiff, Nat.reduceAdd, Nat.reduceMul, reduceCtorEq, Nat.reduceLeDiff, Int.reduceLT, Int.reduceLE, Int.reduceToNat, Int.reduceEq, Nat.reduceLT, hof, digC_length, nextF_len, t16, w2, r2]
 exact ⟨((Old.ap.trans ho1).trans .ap).set (by simp [ap_size]), flat_dig⟩
def OldB (b : Nat) (σ τ : H) : Prop := σ.size ≤ τ.size ∧ ∀ c, c < σ.size → c ≠ b → τ[c]? = σ[c]?
def addF (C : List Int) (e : Ent) : Bool × List Int :=
 if e.count = C.getD e.cpu.toNat 0 then (true, if e.kind = 1 then C.set e.cpu.toNat (IntKind.wrap .i64 (C.getD e.cpu.toNat 0 + e.n)) else C) else (false, C)
theorem add_c_app {σ : H} {b ver : Nat} {C : List Int} {e : Ent} (hb : σ[b]? = some (.cells ver (i64C C) (0, 0))) (hC : C.length = 4) (h0 : 0 ≤ e.cpu) (h1 : e.cpu < 4) :
  App Tryd.prog (.func 45) #[] #[.pointer (some ⟨b, 0, none⟩), .agg (entV e).toArray] σ fun v σ' => v = .bool (addF C e).1 ∧ OldB b σ σ' ∧ ∃ ver', σ'[b]? = some (.cells ver' (i64C (addF C e).2) (0, 0)) := by
 refine App.of_sem mixed Tryd.func45 t45 k45 r45 (Nat.le_of_ble_eq_true rfl) ?_
 rw [← ap_nil (σ := σ)]
 unfold s45
 have hlt : b < σ.size := (Array.getElem?_eq_some_iff.1 hb).1
 have hp : e.cpu.toNat < C.length := by omega
 have hrd : ∀ L, rd1 (ap σ L) ⟨b, e.cpu.toNat, none⟩ = some (.int .i64 (C.getD e.cpu.toNat 0)) := fun L => by
  refine rd1_old ?_
  have := rd1_row (rdN_all hb rfl) (j := e.cpu.toNat) (v := .int .i64 (C.getD e.cpu.toNat 0)) (by simp [i64C, hp])
  rwa [Nat.zero_add] at this
 have hc4 : ((4 : Nat) : Int) = 4 := rfl
 have hbd : (0 : Int) ≤ e.cpu ∧ e.cpu < ((4 : Nat) : Int) := ⟨h0, h1⟩
 by_cases hq : e.count = C.getD e.cpu.toNat 0
 ·have d1 : decide (e.count = C.getD e.cpu.toNat 0) = true := decide_eq_true hq
  by_cases hk : e.kind = 1
  ·have d2 : decide (e.kind = 1) = true := decide_eq_true hk
   have hwr : ∀ L, wrN (ap σ L) ⟨b, e.cpu.toNat, none⟩ [.int .i64 (IntKind.wrap .i64 (C.getD e.cpu.toNat 0 + e.n))] = some ((ap σ L).setIfInBounds b (.cells (ver + 1) (i64C (C.set e.cpu.toNat (IntKind.wrap .i64 (C.getD e.cpu.toNat 0 + e.n)))) (0, 0))) := fun L => by
    rw [wrN_eq, if_neg (by simp), ap_old hlt, hb, wrc_cells, if_pos ⟨by simp [i64C]; omega, rfl⟩]
    simp [sets, i64C, List.map_set]
   simp only [↓eD, eZ, ↓reduceIte, Nat.reduceEqDiff, Nat.reduceAdd, Nat.reduceMul, reduceCtorEq, Nat.reduceLeDiff, Int.reduceLT, Int.reduceLE, Int.reduceToNat, Int.reduceEq, Nat.reduceLT, entV, hbd, Nat.mul_one, Nat.zero_add, hrd, d1, d2, hwr]
   rw [ap_nil]
   refine ⟨?_, ⟨by simp [ap_size], fun c hc hne => (get_set_ne (Ne.symm hne)).trans (ap_old hc)⟩, ver + 1, ?_⟩
   ·unfold addF; rw [if_pos hq]
   ·unfold addF; rw [if_pos hq, if_pos hk]; exact get_set ((ap_old hlt).trans hb)
  ·have d2 : decide (e.kind = 1) = false := decide_eq_false hk
   simp only [↓eD, eZ, ↓reduceIte, Nat.reduceEqDiff, Nat.reduceAdd, Nat.reduceMul, reduceCtorEq, Nat.reduceLeDiff, Int.reduceLT, Int.reduceLE, Int.reduceToNat, Int.reduceEq, Nat.reduceLT, entV, hbd, Nat.mul_one, Nat.zero_add, hrd, d1, d2]
   rw [ap_nil]
   refine ⟨?_, ⟨by simp [ap_size], fun c hc hne => ap_old hc⟩, ver, ?_⟩
   ·unfold addF; rw [if_pos hq]
   ·unfold addF; rw [if_pos hq, if_neg hk]; exact (ap_old hlt).trans hb
 ·have d1 : decide (e.count = C.getD e.cpu.toNat 0) = false := decide_eq_false hq
  simp only [↓eD, eZ, ↓reduceIte, Nat.reduceEqDiff, Nat.reduceAdd, Nat.reduceMul, reduceCtorEq, Nat.reduceLeDiff, Int.reduceLT, Int.reduceLE, Int.reduceToNat, Int.reduceEq, Nat.reduceLT, entV, hbd, Nat.mul_one, Nat.zero_add, hrd, d1]
  rw [ap_nil]
  refine ⟨?_, ⟨by simp [ap_size], fun c hc hne => ap_old hc⟩, ver, ?_⟩
  ·unfold addF; rw [if_neg hq]
  ·unfold addF; rw [if_neg hq]; exact (ap_old hlt).trans hb
def Ent.fit (e : Ent) : Prop := I64 e.kind ∧ I64 e.cpu ∧ I64 e.count ∧ I64 e.n ∧ e.data.size < 100000000000
structure Lg.fit (L : Lg) : Prop where
 d : L.d.length = 16
 c : I64 L.c
 E : ∀ e ∈ L.E, e.fit
 n : L.E.length < 2000000000000
def OldG (n : Nat) (τ τ' : H) : Prop := τ.size ≤ τ'.size ∧ ∀ c, c < n → τ'[c]? = τ[c]?
def OldU (n : Nat) (τ τ' : H) : Prop := τ.size ≤ τ'.size ∧ ∀ c, n ≤ c → c < τ.size → τ'[c]? = τ[c]?
theorem chain1_app {σ : H} {y : Fn} {q : Nat} {L : Lg} {a1 a2 : Option Addr} {b1 b2 : Nat} (hL : L.fit) (I : Nat → H → Prop) (S : H → Prop) (h0 : I 0 σ)
  (hst : ∀ i τ τ', I i τ → σ.size ≤ τ.size → OldG σ.size τ τ' → I i τ')
  (hq : ∀ i τ, I i τ → σ.size ≤ τ.size → τ[q]? = some (.cells 0 (recC L.d L.c (.slice a1 L.E.length b1) (.slice a2 L.S.length b2)) (0, 0)) ∧ Row τ 5 (.slice a1 L.E.length b1) (L.E.map entV) ∧ HGlob τ)
  (hy : ∀ i, i ≤ L.E.length → ∀ τ, σ.size ≤ τ.size → I i τ → App Tryd.prog y #[] #[.int .i64 (i : Int), .agg (digC (chainF L.d L.c L.E i)).toArray] τ fun v τ' => OldU σ.size τ τ' ∧ ((v = .bool true ∧ I (i + 1) τ') ∨ (v = .bool false ∧ S τ'))) :
  App Tryd.prog (.func 67) #[.pointer (some ⟨q, 0, none⟩)] #[.func y #[] #[]] σ fun _ τ => I (L.E.length + 1) τ ∨ S τ := by
 refine App.of_sem mixed Tryd.func67 t67 k67 r67 (Nat.le_of_ble_eq_true rfl) ?_
 unfold s67
 have hd := hL.d
 obtain ⟨hqb, hrow, hG⟩ := hq 0 σ h0 (Nat.le_refl _)
 have hql : q < σ.size := (Array.getElem?_eq_some_iff.1 hqb).1
 have g0 : rdN σ ⟨q, 0, none⟩ 16 = some (digC L.d) := by
  rw [rdN_eq, if_neg (by omega), hqb, rdcN_cells, if_pos (by rw [rec_len hd]; show 0 + 16 ≤ 19; omega)]
  show some (((recC _ _ _ _).drop 0).take 16) = _
  rw [List.drop_zero, rec_take16 hd]
 have g16 : rd1 σ ⟨q, 16, none⟩ = some (.int .i64 L.c) := by rw [rd1_eq, hqb]; exact rec16 hd
 have g17 : ∀ l, rd1 (ap σ l) ⟨q, 17, none⟩ = some (.slice a1 L.E.length b1) := fun l => rd1_old (by rw [rd1_eq, hqb]; exact rec17 hd)
 simp only [↓eD, eZ, ↓reduceIte, Nat.reduceEqDiff, Nat.reduceAdd, Nat.reduceMul, reduceCtorEq, Nat.reduceLeDiff, Int.reduceLT, Int.reduceLE, Int.reduceToNat, Int.reduceEq, Nat.reduceLT, g0, g16, Option.map_some]
 refine appK_at (lbegin_app hd hL.c hG) ?_
 have t16 := digC_take (l := beginF L.d L.c) beginF_len
 have u16 := digC_sets (z := List.replicate 16 0) (l := beginF L.d L.c) (by simp [beginF_len])
 have m16 := digC_ne' (l := beginF L.d L.c) beginF_len (by omega)
 rw [← ap_nil (σ := σ)]
 simp only [↓eD, eZ, ↓reduceIte, Nat.reduceEqDiff, Nat.reduceAdd, Nat.reduceMul, reduceCtorEq, Nat.reduceLeDiff, Int.reduceLT, Int.reduceLE, Int.reduceToNat, Int.reduceEq, Nat.reduceLT, digC_rep, digC_length, beginF_len, t16, u16, m16, digC_one, List.length_replicate, g17]
 refine loop_for (J := fun i e τ => i ≤ L.E.length ∧ e = [(0, .func y #[] #[]), (1, .pointer (some ⟨q, 0, none⟩)), (3, .pointer (some ⟨σ.size, 0, none⟩)), (12, .slice a1 L.E.length b1), (13, .int .i64 (L.E.length : Int)), (14, .int .i64 (i : Int))] ∧ σ.size + 1 ≤ τ.size ∧ I i τ ∧ ∃ ver, τ[σ.size]? = some (.cells ver (digC (chainF L.d L.c L.E i)) (0, 0))) L.E.length
  ⟨by omega, rfl, by simp [ap_size], hst 0 σ _ h0 (Nat.le_refl _) ⟨by simp [ap_size], fun c hc => ap_old hc⟩, 1, by rw [ap_new0]; rfl⟩ ?_
 rintro i e τ hi ⟨_, rfl, hsz, hI, ver, hD⟩
 obtain ⟨hqb', hrow', hG'⟩ := hq i τ hI (by omega)
 have hn := hL.n
 have cl : (digC (chainF L.d L.c L.E i)).length = 16 := by rw [digC_length, chainF_len]
 have gD : ∀ l, rdN (ap τ l) ⟨σ.size, 0, none⟩ 16 = some (digC (chainF L.d L.c L.E i)) := fun l => rdN_old (rdN_all hD cl)
 by_cases hlt : i < L.E.length
 ·have dl : decide ((i : Int) < (L.E.length : Int)) = true := by rw [decide_eq_true]; omega
  have hbd : (0:Int) ≤ (i:Int) ∧ (i:Int) < (L.E.length : Int) := by omega
  have hw : IntKind.wrap .i64 ((i:Int) + 1) = ((i + 1 : Nat) : Int) := by rw [wrap64' (by omega) (by omega)]; omega
  have hx : (L.E.map entV)[i]? = some (entV L.E[i]) := by simp [hlt]
  obtain ⟨b', off, rfl, h1⟩ := hrow'.at hx
  have hr : ∀ l, rdN (ap τ l) ⟨b', off + i * 5, none⟩ 5 = some (entV L.E[i]) := fun l => rdN_old h1
  rw [← ap_nil (σ := τ)]
  have fE := hL.E L.E[i] (by simp)
  generalize hEi : L.E[i] = ei at hr fE
  simp only [↓eD, eZ, ↓reduceIte, Nat.reduceEqDiff, Nat.reduceAdd, Nat.reduceMul, reduceCtorEq, Nat.reduceLeDiff, Int.reduceLT, Int.reduceLE, Int.reduceToNat, Int.reduceEq, Nat.reduceLT, dl, hbd, Int.toNat_natCast, hr, entV, gD]
  have hI1 : I i (ap τ [.cells 1 [.int .i64 ei.kind, .int .i64 ei.cpu, .int .i64 ei.count, .int .i64 ei.n, .string ei.data] (0, 0)]) := hst i τ _ hI (by omega) ⟨by simp [ap_size], fun c hc => ap_old (by omega)⟩
  refine appK_of (hy i (by omega) _ (by simp [ap_size]; omega) hI1) ?_
  rintro _ τ2 ⟨hU, ⟨rfl, hI2⟩ | ⟨rfl, hS⟩⟩
  case inr =>
   simp only [↓eD, eZ, ↓reduceIte, Nat.reduceEqDiff, Nat.reduceAdd, Nat.reduceMul, reduceCtorEq, Nat.reduceLeDiff, Int.reduceLT, Int.reduceLE, Int.reduceToNat, Int.reduceEq, Nat.reduceLT, undef_eq]
   exact .inr hS
  obtain ⟨hU1, hU2⟩ := hU
  have sz1 : (ap τ [.cells 1 [.int .i64 ei.kind, .int .i64 ei.cpu, .int .i64 ei.count, .int .i64 ei.n, .string ei.data] (0, 0)]).size = τ.size + 1 := by simp [ap_size]
  have hD2 : τ2[σ.size]? = some (.cells ver (digC (chainF L.d L.c L.E i)) (0, 0)) := (hU2 _ (Nat.le_refl _) (by omega)).trans ((ap_old (by omega)).trans hD)
  have hE2 : τ2[τ.size]? = some (.cells 1 [.int .i64 ei.kind, .int .i64 ei.cpu, .int .i64 ei.count, .int .i64 ei.n, .string ei.data] (0, 0)) := (hU2 _ (by omega) (by omega)).trans (by rw [ap_new0]; rfl)
  have gD2 : rdN τ2 ⟨σ.size, 0, none⟩ 16 = some (digC (chainF L.d L.c L.E i)) := rdN_all hD2 cl
  have gE2 : rdN τ2 ⟨τ.size, 0, none⟩ 5 = some [.int .i64 ei.kind, .int .i64 ei.cpu, .int .i64 ei.count, .int .i64 ei.n, .string ei.data] := rdN_all hE2 rfl
  have hG2 := (hq (i + 1) τ2 hI2 (by omega)).2.2
  simp only [↓eD, eZ, ↓reduceIte, Nat.reduceEqDiff, Nat.reduceAdd, Nat.reduceMul, reduceCtorEq, Nat.reduceLeDiff, Int.reduceLT, Int.reduceLE, Int.reduceToNat, Int.reduceEq, Nat.reduceLT, gD2, gE2]
  refine appK_at (lnext_app (e := ei) chainF_len fE.1 fE.2.1 fE.2.2.1 fE.2.2.2.1 fE.2.2.2.2 hG2) ?_
  have hsc : nextF (chainF L.d L.c L.E i) ei = chainF L.d L.c L.E (i + 1) := by rw [chainF_succ hlt, hEi]
  rw [hsc]
  have t2 := digC_take (l := chainF L.d L.c L.E (i + 1)) chainF_len
  have u2 := digC_sets (z := chainF L.d L.c L.E i) (l := chainF L.d L.c L.E (i + 1)) (by rw [chainF_len, chainF_len])
  have m2 := digC_ne' (l := chainF L.d L.c L.E (i + 1)) chainF_len (by omega)
  have w2 : wrN τ2 ⟨σ.size, 0, none⟩ (digC (chainF L.d L.c L.E (i + 1))) = some (τ2.setIfInBounds σ.size (.cells (ver + 1) (digC (chainF L.d L.c L.E (i + 1))) (0, 0))) := by
   rw [wrN_eq, if_neg (by rw [m2]; exact id), hD2, wrc_cells, u2, if_pos ⟨by rw [digC_length, digC_length, chainF_len, chainF_len]; show 0 + 16 ≤ 16; omega, digC_one⟩]; rfl
  simp only [↓eD, eZ, ↓reduceIte, Nat.reduceEqDiff, Nat.reduceAdd, Nat.reduceMul, reduceCtorEq, Nat.reduceLeDiff, Int.reduceLT, Int.reduceLE, Int.reduceToNat, Int.reduceEq, Nat.reduceLT, digC_length, chainF_len, t2, w2, hw]
  exact ⟨hlt, by omega, by simp; omega, hst (i + 1) τ2 _ hI2 (by omega) ⟨by simp, fun c hc => get_set_ne (by omega)⟩, ver + 1, get_set hD2⟩
 have : i = L.E.length := by omega
 subst this
 have dl : decide ((L.E.length : Int) < (L.E.length : Int)) = false := by rw [decide_eq_false]; omega
 have g17' : rd1 τ ⟨q, 17, none⟩ = some (.slice a1 L.E.length b1) := by rw [rd1_eq, hqb']; exact rec17 hd
 have gD' : rdN τ ⟨σ.size, 0, none⟩ 16 = some (digC (chainF L.d L.c L.E L.E.length)) := rdN_all hD cl
 simp only [↓eD, eZ, ↓reduceIte, Nat.reduceEqDiff, Nat.reduceAdd, Nat.reduceMul, reduceCtorEq, Nat.reduceLeDiff, Int.reduceLT, Int.reduceLE, Int.reduceToNat, Int.reduceEq, Nat.reduceLT, dl, g17', gD']
 refine appK_of (hy L.E.length (Nat.le_refl _) τ (by omega) hI) ?_
 rintro _ τ2 ⟨hU, ⟨rfl, hI2⟩ | ⟨rfl, hS⟩⟩
 ·simp only [↓eD, eZ, ↓reduceIte, Nat.reduceEqDiff, Nat.reduceAdd, Nat.reduceMul, reduceCtorEq, Nat.reduceLeDiff, Int.reduceLT, Int.reduceLE, Int.reduceToNat, Int.reduceEq, Nat.reduceLT]
  exact .inl hI2
 ·simp only [↓eD, eZ, ↓reduceIte, Nat.reduceEqDiff, Nat.reduceAdd, Nat.reduceMul, reduceCtorEq, Nat.reduceLeDiff, Int.reduceLT, Int.reduceLE, Int.reduceToNat, Int.reduceEq, Nat.reduceLT]
  exact .inr hS
theorem Row.tail {σ : H} {s n c : Nat} {a : Option Addr} {xs : List (List Value)} (h : Row σ s (.slice a n c) xs) (hc : CapOk s (.slice a n c)) (hn : 1 ≤ n) :
  ∃ v', sliceV s (.slice a n c) (some (.int .i64 1)) none none = some v' ∧ Row σ s v' (xs.drop 1) ∧ CapOk s v' := by
 obtain ⟨h1, h2⟩ := hc.slice
 have hx : n = xs.length := by obtain ⟨b, cap, h3, _⟩ := h; injection h3
 have e1 : bnd none n (capLow c) = some n := rfl
 have e2 : bnd (some (.int .i64 1)) 0 n = some 1 := by simp only [bnd, asI]; rw [if_pos (by omega)]; rfl
 obtain ⟨g1, g2⟩ := cap_sub (c := c) (l := 1) (by omega)
 refine ⟨.slice (a.map fun a => ⟨a.block, a.off + 1 * s, none⟩) (n - 1) (c - 1), ?_, ⟨a.map fun a => ⟨a.block, a.off + 1 * s, none⟩, c - 1, ?_, ?_⟩, ⟨_, _, _, rfl, by omega, by rw [g2]; exact h2⟩⟩
 ·unfold sliceV
  simp only
  rw [if_pos h2, bnds_eq (lo := 1) e2 e1]
 ·rw [List.length_drop, hx]
 ·intro j x hj
  rw [List.getElem?_drop] at hj
  obtain ⟨b, off, h3, h4⟩ := h.at hj
  refine ⟨b, off + 1 * s, ?_, ?_⟩
  ·rw [h3]; simp
  ·rw [Nat.add_assoc, ← Nat.add_mul]; exact h4
structure LgV (σ : H) (l : List Value) (L : Lg) (a1 : Option Addr) (b1 : Nat) (a2 : Option Addr) (b2 : Nat) : Prop where
 l : l = recC L.d L.c (.slice a1 L.E.length b1) (.slice a2 L.S.length b2)
 E : Row σ 5 (.slice a1 L.E.length b1) (L.E.map entV)
 S : Row σ 33 (.slice a2 L.S.length b2) (L.S.map seaV)
 cE : CapOk 5 (.slice a1 L.E.length b1)
 cS : CapOk 33 (.slice a2 L.S.length b2)
 fit : L.fit
 ok : ∀ s ∈ L.S, s.ok ∧ I64 s.end_
 nS : L.S.length < 2000000000000
theorem LgV.Old {σ τ : H} {l : List Value} {L : Lg} {a1 a2 : Option Addr} {b1 b2 : Nat} (h : LgV σ l L a1 b1 a2 b2) (ho : Old σ τ) : LgV τ l L a1 b1 a2 b2 :=
 ⟨h.l, h.E.Old ho, h.S.Old ho, h.cE, h.cS, h.fit, h.ok, h.nS⟩
theorem LgV.lg {σ : H} {l : List Value} {L : Lg} {a1 a2 : Option Addr} {b1 b2 : Nat} (h : LgV σ l L a1 b1 a2 b2) : IsLg σ l L := by
 rw [h.l]
 exact IsLg.mk' h.fit.d h.E h.S (fun s hs => (h.ok s hs).1) h.fit.n h.nS h.cE
theorem chainf_app {σ : H} {L : Lg} {v w : Value} (hd : L.d.length = 16) (hv : v.oneCell' = true) (hw : w.oneCell' = true) : App Tryd.prog (.func 46) #[] #[.agg (recC L.d L.c v w).toArray] σ fun x σ' => σ' = ap σ [.cells 0 (recC L.d L.c v w) (0, 0)] ∧ x = .func (.func 67) #[] #[.pointer (some ⟨σ.size, 0, none⟩)] := by
 refine App.of_sem mixed Tryd.func46 t46 k46 r46 (Nat.le_of_ble_eq_true rfl) ?_
 rw [← ap_nil (σ := σ)]
 unfold s46
 simp only [↓eD, eZ, ↓reduceIte, Nat.reduceEqDiff, Nat.reduceAdd, Nat.reduceMul, reduceCtorEq, Nat.reduceLeDiff, Int.reduceLT, Int.reduceLE, Int.reduceToNat, Int.reduceEq, Nat.reduceLT]
 rw [ap_nil]
def CntOk (C : List Int) (E : List Ent) : Prop := C.length = 4 ∧ ∀ p : Nat, p < 4 → C.getD p 0 = countF E (p : Int)
theorem cnt_nil : CntOk (List.replicate 4 0) [] := ⟨rfl, fun p hp => by
 have : p = 0 ∨ p = 1 ∨ p = 2 ∨ p = 3 := by omega
 rcases this with rfl | rfl | rfl | rfl <;> rfl⟩
theorem cnt_step {C : List Int} {E : List Ent} {e : Ent} (h : CntOk C E) (h0 : 0 ≤ e.cpu) (h1 : e.cpu < 4) (ha : (addF C e).1 = true) : CntOk (addF C e).2 (E ++ [e]) := by
 unfold addF at ha ⊢
 split at ha
 ·rename_i hq
  rw [if_pos hq]
  refine ⟨?_, fun p hp => ?_⟩
  ·dsimp only
   split
   ·rw [List.length_set]; exact h.1
   ·exact h.1
  ·have hc : countF (E ++ [e]) (p : Int) = countS p (countF E p) e := by unfold countF; rw [List.foldl_append]; rfl
   rw [hc, ← h.2 p hp]
   unfold countS
   have hl := h.1
   dsimp only
   by_cases hk : e.kind = 1
   ·rw [if_pos hk]
    by_cases hpe : e.cpu = (p : Int)
    ·rw [if_pos ⟨hk, hpe⟩, hpe, Int.toNat_natCast]
     simp [List.getD_eq_getElem?_getD, hl, hp]
    ·rw [if_neg (fun h => hpe h.2)]
     have : e.cpu.toNat ≠ p := by omega
     simp [List.getD_eq_getElem?_getD, List.getElem?_set, this]
   ·rw [if_neg hk, if_neg (fun h => hk h.1)]
 ·cases ha
theorem cnt_add {C : List Int} {E : List Ent} {e : Ent} (h : CntOk C E) (h0 : 0 ≤ e.cpu) (h1 : e.cpu < 4) : (addF C e).1 = decide (e.count = countF E e.cpu) := by
 have := h.2 e.cpu.toNat (by omega)
 rw [show ((e.cpu.toNat : Nat) : Int) = e.cpu by omega] at this
 unfold addF
 rw [this]
 by_cases hq : e.count = countF E e.cpu
 ·rw [if_pos hq]; exact (decide_eq_true hq).symm
 ·rw [if_neg hq]; exact (decide_eq_false hq).symm
theorem right_cpu {e : Ent} {c : Int} (h : rightF e c = true) : 0 ≤ e.cpu ∧ e.cpu < c := by
 unfold rightF at h
 split at h
 ·cases h
 ·omega
structure KB (σ τ : H) (l : List Value) (k : Blk) : Prop where
 old : Old σ τ
 sz : σ.size + 2 ≤ τ.size
 b0 : τ[σ.size]? = some (.cells 0 l (0, 0))
 b1 : τ[σ.size + 1]? = some k
theorem KB.old' {σ τ τ' : H} {l : List Value} {k : Blk} (h : KB σ τ l k) (ho : Old τ τ') : KB σ τ' l k :=
 ⟨h.old.trans ho, Nat.le_trans h.sz ho.1, (ho.2 _ (Array.getElem?_eq_some_iff.1 h.b0).1).trans h.b0, (ho.2 _ (Array.getElem?_eq_some_iff.1 h.b1).1).trans h.b1⟩
theorem KB.oldB {σ τ τ' : H} {l : List Value} {k : Blk} {b : Nat} (h : KB σ τ l k) (hb : σ.size + 2 ≤ b) (ho : OldB b τ τ') : KB σ τ' l k :=
 have q := h.sz
 ⟨⟨Nat.le_trans h.old.1 ho.1, fun c hc => by rw [ho.2 c (by omega) (by omega)]; exact h.old.2 c hc⟩, Nat.le_trans h.sz ho.1, (ho.2 _ (by omega) (by omega)).trans h.b0, (ho.2 _ (by omega) (by omega)).trans h.b1⟩
theorem ret_wr {θ : H} {b : Nat} {k : Int} (h : θ[b]? = some (.cells 0 [.int .i64 0] (0, 0))) : wrN θ ⟨b, 0, none⟩ [.int .i64 k] = some (θ.setIfInBounds b (.cells 1 [.int .i64 k] (0, 0))) := by
 rw [wrN_eq, if_neg (by simp), h, wrc_cells]; rfl
theorem ret_rd {θ : H} {b : Nat} {v : Value} {k : Blk} (h : θ[b]? = some k) : rd1 (θ.setIfInBounds b (.cells 1 [v] (0, 0))) ⟨b, 0, none⟩ = some v := by
 rw [rd1_eq, get_set h]; rfl
theorem chkE_step {L : Lg} {i : Nat} (h : i < L.E.length) : chkE L (L.E.length - i) i = if rightF L.E[i] L.c = true ∧ L.E[i].count = countF (L.E.take i) L.E[i].cpu then chkE L (L.E.length - (i + 1)) (i + 1) else false := by
 have : L.E.length - i = (L.E.length - (i + 1)) + 1 := by omega
 rw [this, chkE, List.getElem?_eq_getElem h]
theorem yield_step {l n ver ver1 : Nat} {R : Rnd} {W : List Value → H → (Env → H → Prop) → Prop} {B : Env → H → (Exit → Env → H → Prop) → Prop} {pend pend1 : Option Code} {τ : H} {vs : List Value} {Ky : Value → H → Prop} (hY : Cn.Yields Tryd.prog l n R W B) (hτ : τ[l]? = some (.loop ver .ready pend R)) (hn : vs.length = n)
  (E : Env) (τ1 : H) (h1 : ∀ A : Env → H → Prop, A E τ1 → W vs τ A) (hl : τ1[l]? = some (.loop ver1 .ready pend1 R)) (h2 : B E (τ1.setIfInBounds l (.loop (ver1 + 1) .busy pend1 R)) (Cn.roundK l R Ky)) : App Tryd.prog (.yield l) #[] vs.toArray τ Ky :=
 hY ver pend τ vs Ky hτ hn (h1 _ ⟨ver1, pend1, hl, h2⟩)
theorem chkS_le {n : Nat} {S : List Sea} {e e' : Int} (h : chkS n S e = true) (he : e' ≤ e) : chkS n S e' = true := by
 cases S with
 |nil => rfl
 |cons s r =>
  rw [chkS] at h ⊢
  split at h
  ·cases h
  ·rename_i hc
   rw [if_neg (by omega)]
   exact h
structure SealI (σ : H) (L : Lg) (i k : Nat) (v : Value) : Prop where
 row : Row σ 33 v ((L.S.drop k).map seaV)
 cap : CapOk 33 v
 chk : chkD L (L.S.drop k) = chkD L L.S
 ord : chkS L.E.length (L.S.drop k) ((i : Int) - 1) = true
theorem lcheck_app {σ : H} {l : List Value} {L : Lg} {a1 a2 : Option Addr} {b1 b2 : Nat} (h : LgV σ l L a1 b1 a2 b2) (hG : HGlob σ) :
  App Tryd.prog (.func 15) #[] #[.agg l.toArray] σ fun v σ' => σ' = σ ∧ v = .int .i64 (checkF L) := by
 refine App.forget (App.of_sem mixed Tryd.func15 t15 k15 r15 (Nat.le_of_ble_eq_true rfl) ?_)
 have hd := h.fit.d
 have hl := h.l
 subst hl
 unfold s15
 rw [← ap_nil (σ := σ)]
 have hfe := h.fit.n
 have hfs := h.nS
 by_cases hc1 : L.c < 1
 ·simp only [↓eD, eZ, ↓reduceIte, Nat.reduceEqDiff, Nat.reduceAdd, Nat.reduceMul, reduceCtorEq, Nat.reduceLeDiff, Int.reduceLT, Int.reduceLE, Int.reduceToNat, Int.reduceEq, Nat.reduceLT, hc1, rec16 hd, undef_eq]
  exact ⟨.ap, by simp [flat], by simp [checkF, hc1]⟩
 by_cases hc2 : 4 < L.c
 ·simp only [↓eD, eZ, ↓reduceIte, Nat.reduceEqDiff, Nat.reduceAdd, Nat.reduceMul, reduceCtorEq, Nat.reduceLeDiff, Int.reduceLT, Int.reduceLE, Int.reduceToNat, Int.reduceEq, Nat.reduceLT, hc1, hc2, rec16 hd, undef_eq]
  exact ⟨.ap, by simp [flat], by simp [checkF, hc2]⟩
 by_cases hn1 : (4096 : Int) < (L.E.length : Int)
 ·simp only [↓eD, eZ, ↓reduceIte, Nat.reduceEqDiff, Nat.reduceAdd, Nat.reduceMul, reduceCtorEq, Nat.reduceLeDiff, Int.reduceLT, Int.reduceLE, Int.reduceToNat, Int.reduceEq, Nat.reduceLT, hc1, hc2, hn1, rec16 hd, rec17 hd, rec18 hd, undef_eq]
  exact ⟨.ap, by simp [flat], by simp only [checkF, hc1, hc2, or_self, if_false]; rw [if_pos (by omega)]⟩
 by_cases hn2 : (256 : Int) < (L.S.length : Int)
 ·simp only [↓eD, eZ, ↓reduceIte, Nat.reduceEqDiff, Nat.reduceAdd, Nat.reduceMul, reduceCtorEq, Nat.reduceLeDiff, Int.reduceLT, Int.reduceLE, Int.reduceToNat, Int.reduceEq, Nat.reduceLT, hc1, hc2, hn1, hn2, rec16 hd, rec17 hd, rec18 hd, undef_eq]
  exact ⟨.ap, by simp [flat], by simp only [checkF, hc1, hc2, or_self, if_false]; rw [if_pos (by omega)]⟩
 have hck : checkF L = (if chkE L L.E.length 0 = false then 3 else if chkS L.E.length L.S 0 = false then 3 else if chkD L L.S = false then 290 else 0) := by
  simp only [checkF, hc1, hc2, or_self, if_false]; rw [if_neg (by omega)]
 have rep4 : List.replicate 4 (Value.int .i64 0) = i64C (List.replicate 4 0) := rfl
 simp only [↓eD, eZ, ↓reduceIte, Nat.reduceEqDiff, Nat.reduceAdd, Nat.reduceMul, reduceCtorEq, Nat.reduceLeDiff, Int.reduceLT, Int.reduceLE, Int.reduceToNat, Int.reduceEq, Nat.reduceLT, hc1, hc2, hn1, hn2, rec16 hd, rec17 hd, rec18 hd, undef_eq]
 generalize hRC : recC L.d L.c (.slice a1 L.E.length b1) (.slice a2 L.S.length b2) = RC at h
 refine loop_for (J := fun i e τ => i ≤ L.E.length ∧ e = [(1, .pointer (some ⟨σ.size, 0, none⟩)), (2, .pointer (some ⟨σ.size + 1, 0, none⟩)), (3, .pointer (some ⟨σ.size + 2, 0, none⟩)), (33, .slice a1 L.E.length b1), (34, .int .i64 (L.E.length : Int)), (35, .int .i64 (i : Int))] ∧ KB σ τ RC (.cells 0 [.int .i64 0] (0, 0)) ∧ σ.size + 3 ≤ τ.size ∧ (∃ ver C, τ[σ.size + 2]? = some (.cells ver (i64C C) (0, 0)) ∧ CntOk C (L.E.take i)) ∧ chkE L (L.E.length - i) i = chkE L L.E.length 0) L.E.length
  ⟨by omega, rfl, ⟨.ap, by simp [ap_size], by rw [ap_new0]; rfl, by rw [ap_new]; rfl⟩, by simp [ap_size], ⟨0, List.replicate 4 0, by rw [ap_new]; rfl, cnt_nil⟩, rfl⟩ ?_
 rintro i e τ hi ⟨_, rfl, hK, hsz, ⟨ver, C, hC, hCnt⟩, hE⟩
 have g16 : ∀ l, rd1 (ap τ l) ⟨σ.size, 16, none⟩ = some (.int .i64 L.c) := fun l => rd1_old (by rw [rd1_eq, hK.b0, ← hRC]; exact rec16 hd)
 by_cases hlt : i < L.E.length
 ·have dl : decide ((i : Int) < (L.E.length : Int)) = true := by rw [decide_eq_true]; omega
  have hbd : (0:Int) ≤ (i:Int) ∧ (i:Int) < (L.E.length : Int) := by omega
  have hw : IntKind.wrap .i64 ((i:Int) + 1) = ((i + 1 : Nat) : Int) := by rw [wrap64' (by omega) (by omega)]; omega
  have hx : (L.E.map entV)[i]? = some (entV L.E[i]) := by simp [hlt]
  obtain ⟨b', off, rfl, h1⟩ := (h.E.Old hK.old).at hx
  have hr : ∀ l, rdN (ap τ l) ⟨b', off + i * 5, none⟩ 5 = some (entV L.E[i]) := fun l => rdN_old h1
  have hstep := chkE_step hlt
  have htk : L.E.take (i + 1) = L.E.take i ++ [L.E[i]] := List.take_succ_eq_append_getElem hlt
  rw [← ap_nil (σ := τ)]
  generalize hEi : L.E[i] = ei at hr hstep htk
  simp only [↓eD, eZ, ↓reduceIte, Nat.reduceEqDiff, Nat.reduceAdd, Nat.reduceMul, reduceCtorEq, Nat.reduceLeDiff, Int.reduceLT, Int.reduceLE, Int.reduceToNat, Int.reduceEq, Nat.reduceLT, dl, hbd, Int.toNat_natCast, hr, entV, g16]
  refine appK_at (lright_app (e := ei)) ?_
  have hK1 := hK.old' (Old.ap (l := [.cells 1 [.int .i64 ei.kind, .int .i64 ei.cpu, .int .i64 ei.count, .int .i64 ei.n, .string ei.data] (0, 0)]))
  by_cases hR : rightF ei L.c = true
  case neg =>
   have hR' : rightF ei L.c = false := by simpa using hR
   have hf : chkE L L.E.length 0 = false := by rw [← hE, hstep, if_neg (fun h => hR h.1)]
   simp only [↓eD, eZ, ↓reduceIte, Nat.reduceEqDiff, Nat.reduceAdd, Nat.reduceMul, reduceCtorEq, Nat.reduceLeDiff, Int.reduceLT, Int.reduceLE, Int.reduceToNat, Int.reduceEq, Nat.reduceLT, hR', Bool.not_false, ret_wr hK1.b1, ret_rd hK1.b1, undef_eq]
   exact ⟨hK1.old.set (by omega), by simp [flat], by rw [hck, hf]; rfl⟩
  obtain ⟨hp0, hp1⟩ := right_cpu hR
  simp only [↓eD, eZ, ↓reduceIte, Nat.reduceEqDiff, Nat.reduceAdd, Nat.reduceMul, reduceCtorEq, Nat.reduceLeDiff, Int.reduceLT, Int.reduceLE, Int.reduceToNat, Int.reduceEq, Nat.reduceLT, hR, Bool.not_true]
  have hC1 : (ap τ [.cells 1 [.int .i64 ei.kind, .int .i64 ei.cpu, .int .i64 ei.count, .int .i64 ei.n, .string ei.data] (0, 0)])[σ.size + 2]? = some (.cells ver (i64C C) (0, 0)) := (ap_old (by omega)).trans hC
  refine appK_of (add_c_app (e := ei) hC1 hCnt.1 hp0 (by omega)) ?_
  rintro _ τ2 ⟨rfl, hOB, ver', hC2⟩
  have hK2 := hK1.oldB (by omega) hOB
  have hcnt := cnt_add hCnt hp0 (by omega)
  by_cases hq : ei.count = countF (L.E.take i) ei.cpu
  ·have ht : (addF C ei).1 = true := by rw [hcnt]; exact decide_eq_true hq
   simp only [↓eD, eZ, ↓reduceIte, Nat.reduceEqDiff, Nat.reduceAdd, Nat.reduceMul, reduceCtorEq, Nat.reduceLeDiff, Int.reduceLT, Int.reduceLE, Int.reduceToNat, Int.reduceEq, Nat.reduceLT, ht, Bool.not_true, hw, undef_eq]
   refine ⟨hlt, by omega, hK2, Nat.le_trans (by simp [ap_size]; omega) hOB.1, ⟨ver', _, hC2, ?_⟩, ?_⟩
   ·rw [htk]; exact cnt_step hCnt hp0 (by omega) ht
   ·rw [← hE, hstep, if_pos ⟨hR, hq⟩]
  ·have ht : (addF C ei).1 = false := by rw [hcnt]; exact decide_eq_false hq
   have hf : chkE L L.E.length 0 = false := by rw [← hE, hstep, if_neg (fun h => hq h.2)]
   simp only [↓eD, eZ, ↓reduceIte, Nat.reduceEqDiff, Nat.reduceAdd, Nat.reduceMul, reduceCtorEq, Nat.reduceLeDiff, Int.reduceLT, Int.reduceLE, Int.reduceToNat, Int.reduceEq, Nat.reduceLT, ht, Bool.not_false, ret_wr hK2.b1, ret_rd hK2.b1, undef_eq]
   exact ⟨hK2.old.set (by omega), by simp [flat], by rw [hck, hf]; rfl⟩
 have : i = L.E.length := by omega
 subst this
 have dl : decide ((L.E.length : Int) < (L.E.length : Int)) = false := by rw [decide_eq_false]; omega
 have hE' : chkE L L.E.length 0 = true := by rw [← hE, Nat.sub_self]; rfl
 rw [hE'] at hck
 have g18 : ∀ l, rd1 (ap τ l) ⟨σ.size, 18, none⟩ = some (.slice a2 L.S.length b2) := fun l => rd1_old (by rw [rd1_eq, hK.b0, ← hRC]; exact rec18 hd)
 rw [← ap_nil (σ := τ)]
 simp only [↓eD, eZ, ↓reduceIte, Nat.reduceEqDiff, Nat.reduceAdd, Nat.reduceMul, reduceCtorEq, Nat.reduceLeDiff, Int.reduceLT, Int.reduceLE, Int.reduceToNat, Int.reduceEq, Nat.reduceLT, dl, g18]
 refine loop_for (J := fun i e τ => i ≤ L.S.length ∧ ∃ z, e = [(1, .pointer (some ⟨σ.size, 0, none⟩)), (2, .pointer (some ⟨σ.size + 1, 0, none⟩)), (6, .int .i64 z), (51, .slice a2 L.S.length b2), (52, .int .i64 (L.S.length : Int)), (53, .int .i64 (i : Int))] ∧ KB σ τ RC (.cells 0 [.int .i64 0] (0, 0)) ∧ chkS L.E.length (L.S.drop i) z = chkS L.E.length L.S 0) L.S.length
  ⟨by omega, 0, rfl, hK.old' .ap, rfl⟩ ?_
 clear g18 g16 hC hCnt hK hsz dl hE
 rintro i e τ hi ⟨_, z, rfl, hK, hS⟩
 have g17 : ∀ l, rd1 (ap τ l) ⟨σ.size, 17, none⟩ = some (.slice a1 L.E.length b1) := fun l => rd1_old (by rw [rd1_eq, hK.b0, ← hRC]; exact rec17 hd)
 have g18 : ∀ l, rd1 (ap τ l) ⟨σ.size, 18, none⟩ = some (.slice a2 L.S.length b2) := fun l => rd1_old (by rw [rd1_eq, hK.b0, ← hRC]; exact rec18 hd)
 by_cases hlt : i < L.S.length
 ·have dl : decide ((i : Int) < (L.S.length : Int)) = true := by rw [decide_eq_true]; omega
  have hbd : (0:Int) ≤ (i:Int) ∧ (i:Int) < (L.S.length : Int) := by omega
  have hw : IntKind.wrap .i64 ((i:Int) + 1) = ((i + 1 : Nat) : Int) := by rw [wrap64' (by omega) (by omega)]; omega
  have hx : (L.S.map seaV)[i]? = some (seaV L.S[i]) := by simp [hlt]
  obtain ⟨b', off, rfl, h1⟩ := (h.S.Old hK.old).at hx
  have hr : ∀ l, rdN (ap τ l) ⟨b', off + i * 33, none⟩ 33 = some (seaV L.S[i]) := fun l => rdN_old h1
  have hok := (h.ok L.S[i] (by simp)).1
  have hstep : chkS L.E.length (L.S.drop i) z = if L.S[i].end_ ≤ z ∨ (L.E.length : Int) < L.S[i].end_ then false else chkS L.E.length (L.S.drop (i + 1)) L.S[i].end_ := by
   rw [List.drop_eq_getElem_cons hlt, chkS]
  generalize hSi : L.S[i] = si at hr hok hstep
  have sl := seaV_len hok
  have so := seaV_one (s := si)
  have sf : ∀ z : List Value, z.length = 33 → sets z 0 (seaV si) = seaV si := fun z hz => by rw [sets_all (by omega)]; simp [sl, hz]
  have st : (seaV si).take 33 = seaV si := List.take_of_length_le (by omega)
  have sn : (seaV si = []) = False := eq_false (by simp [seaV])
  have s0 : (seaV si)[0]? = some (.int .i64 si.end_) := rfl
  have hK1 := hK.old' (Old.ap (l := [.cells 1 (seaV si) (0, 0)]))
  have hstop : (si.end_ ≤ z ∨ (L.E.length : Int) < si.end_) → checkF L = 3 := fun h => by
   have hf : chkS L.E.length L.S 0 = false := by rw [← hS, hstep, if_pos h]
   rw [hck, hf]; rfl
  rw [← ap_nil (σ := τ)]
  by_cases hq1 : si.end_ ≤ z
  ·have d1 : decide (si.end_ ≤ z) = true := decide_eq_true hq1
   simp only [↓eD, eZ, ↓reduceIte, Nat.reduceEqDiff, Nat.reduceAdd, Nat.reduceMul, reduceCtorEq, Nat.reduceLeDiff, Int.reduceLT, Int.reduceLE, Int.reduceToNat, Int.reduceEq, Nat.reduceLT, dl, hbd, Int.toNat_natCast, hr, sl, so, sf, st, sn, s0, d1, undef_eq, ret_wr hK1.b1, ret_rd hK1.b1]
   exact ⟨hK1.old.set (by omega), by simp [flat], by rw [hstop (.inl hq1)]⟩
  ·have d1 : decide (si.end_ ≤ z) = false := decide_eq_false hq1
   by_cases hq2 : (L.E.length : Int) < si.end_
   ·have d2 : decide ((L.E.length : Int) < si.end_) = true := decide_eq_true hq2
    simp only [↓eD, eZ, ↓reduceIte, Nat.reduceEqDiff, Nat.reduceAdd, Nat.reduceMul, reduceCtorEq, Nat.reduceLeDiff, Int.reduceLT, Int.reduceLE, Int.reduceToNat, Int.reduceEq, Nat.reduceLT, dl, hbd, Int.toNat_natCast, hr, sl, so, sf, st, sn, s0, d1, d2, g17, undef_eq, ret_wr hK1.b1, ret_rd hK1.b1]
    exact ⟨hK1.old.set (by omega), by simp [flat], by rw [hstop (.inr hq2)]⟩
   ·have d2 : decide ((L.E.length : Int) < si.end_) = false := decide_eq_false hq2
    simp only [↓eD, eZ, ↓reduceIte, Nat.reduceEqDiff, Nat.reduceAdd, Nat.reduceMul, reduceCtorEq, Nat.reduceLeDiff, Int.reduceLT, Int.reduceLE, Int.reduceToNat, Int.reduceEq, Nat.reduceLT, dl, hbd, Int.toNat_natCast, hr, sl, so, sf, st, sn, s0, d1, d2, g17, undef_eq, hw]
    refine ⟨hlt, by omega, si.end_, rfl, hK1, ?_⟩
    rw [← hS, hstep, if_neg (by omega)]
 have : i = L.S.length := by omega
 subst this
 have dl : decide ((L.S.length : Int) < (L.S.length : Int)) = false := by rw [decide_eq_false]; omega
 have hS' : chkS L.E.length L.S 0 = true := by rw [← hS, List.drop_length]; rfl
 rw [hS'] at hck
 have g0 : ∀ l, rdN (ap τ l) ⟨σ.size, 0, none⟩ 19 = some RC := fun l => rdN_old (rdN_all hK.b0 (by rw [← hRC]; exact rec_len hd))
 rw [← ap_nil (σ := τ)]
 simp only [↓eD, eZ, ↓reduceIte, Nat.reduceEqDiff, Nat.reduceAdd, Nat.reduceMul, reduceCtorEq, Nat.reduceLeDiff, Int.reduceLT, Int.reduceLE, Int.reduceToNat, Int.reduceEq, Nat.reduceLT, dl, g18, g0]
 rw [← hRC]
 refine appK_of (chainf_app hd rfl rfl) ?_
 rintro _ _ ⟨rfl, rfl⟩
 rw [hRC]
 simp only [↓eD, eZ, ↓reduceIte, Nat.reduceEqDiff, Nat.reduceAdd, Nat.reduceMul, reduceCtorEq, Nat.reduceLeDiff, Int.reduceLT, Int.reduceLE, Int.reduceToNat, Int.reduceEq, Nat.reduceLT]
 have hKT := (hK.old' (Old.ap (l := [.cells 1 [.slice a2 L.S.length b2] (0, 0)]))).old' (Old.ap (l := [.cells 0 RC (0, 0)]))
 generalize hT : ap (ap τ [.cells 1 [.slice a2 L.S.length b2] (0, 0)]) [.cells 0 RC (0, 0)] = T at hKT
 have hTs : T.size = τ.size + 2 := by rw [← hT, ap_size, ap_size]; rfl
 have hsz := hK.sz
 have qS : T[τ.size]? = some (.cells 1 [.slice a2 L.S.length b2] (0, 0)) := by rw [← hT, ap_old (by simp [ap_size]), ap_new0]; rfl
 have qQ : T[τ.size + 1]? = some (.cells 0 RC (0, 0)) := by
  rw [← hT, show τ.size + 1 = (ap τ [.cells 1 [.slice a2 L.S.length b2] (0, 0)]).size by simp [ap_size]]
  exact ap_new0
 clear hT
 refine rng_of (by kernel_rfl) fun R hY => ?_
 have hO : Old σ T := hKT.old
 have hpz : (T.push (.loop 0 .ready none R)).size = T.size + 1 := by simp
 have hpo : Old T (T.push (.loop 0 .ready none R)) := old_push
 have hS1 : chkS L.E.length L.S 0 = true := hS'
 refine (chain1_app (L := L) (q := τ.size + 1) (a1 := a1) (b1 := b1) (a2 := a2) (b2 := b2) h.fit
  (fun i θ => Old σ θ ∧ T.size + 1 ≤ θ.size ∧ θ[σ.size + 1]? = some (.cells 0 [.int .i64 0] (0, 0)) ∧ θ[τ.size + 1]? = some (.cells 0 RC (0, 0)) ∧ (∃ ver, θ[T.size]? = some (.loop ver .ready none R)) ∧ ∃ k ver v, θ[τ.size]? = some (.cells ver [v] (0, 0)) ∧ SealI σ L i k v)
  (fun θ => Old σ θ ∧ θ[σ.size + 1]? = some (.cells 1 [.int .i64 290] (0, 0)) ∧ (∃ ver, θ[T.size]? = some (.loop ver .done (some .ret) R)) ∧ chkD L L.S = false)
  ⟨hO.trans hpo, by simp, (hpo.2 _ (by omega)).trans hKT.b1, (hpo.2 _ (by omega)).trans qQ, ⟨0, by simp⟩, 0, 1, _, (hpo.2 _ (by omega)).trans qS, h.S, h.cS, rfl, chkS_le hS1 (by omega)⟩ ?_ ?_ ?_).mono ?_
 ·rintro i θ θ' ⟨o, z, q1, q2, ⟨vl, q3⟩, k, vk, v, q4, q5⟩ _ ⟨m1, m2⟩
  rw [hpz] at m2
  exact ⟨⟨Nat.le_trans o.1 m1, fun c hc => (m2 c (by omega)).trans (o.2 c hc)⟩, by omega, (m2 _ (by omega)).trans q1, (m2 _ (by omega)).trans q2, ⟨vl, (m2 _ (by omega)).trans q3⟩, k, vk, v, (m2 _ (by omega)).trans q4, q5⟩
 ·rintro i θ ⟨o, z, q1, q2, _⟩ _
  exact ⟨by rw [hRC]; exact q2, h.E.Old o, hG.Old o⟩
 ·rintro i hi θ hz ⟨o, z, q1, q2, ⟨vl, q3⟩, k, vk, v, q4, q5⟩
  have cl : (digC (chainF L.d L.c L.E i)).length = 16 := by rw [digC_length, chainF_len]
  have t2 := digC_take (l := chainF L.d L.c L.E i) chainF_len
  have u2 := digC_sets (z := List.replicate 16 0) (l := chainF L.d L.c L.E i) (by simp [chainF_len])
  have m2 := digC_ne' (l := chainF L.d L.c L.E i) chainF_len (by omega)
  refine yield_step hY q3 rfl [(2, .pointer (some ⟨σ.size + 1, 0, none⟩)), (9, .pointer (some ⟨τ.size, 0, none⟩)), (10, .int .i64 (i : Int)), (11, .pointer (some ⟨θ.size, 0, none⟩))]
   (ap θ [.cells 1 (digC (chainF L.d L.c L.E i)) (0, 0)]) (fun A hA => ?_) ((ap_old (by omega)).trans q3) ?_
  ·rw [← ap_nil (σ := θ)]
   simp only [↓eD, eZ, ↓reduceIte, Nat.reduceEqDiff, Nat.reduceAdd, Nat.reduceMul, reduceCtorEq, Nat.reduceLeDiff, Int.reduceLT, Int.reduceLE, Int.reduceToNat, Int.reduceEq, Nat.reduceLT, digC_rep, digC_length, chainF_len, t2, u2, m2, digC_one, List.length_replicate]
   exact hA
  ·have hzz : T.size ≠ θ.size := by omega
   generalize hX : Blk.cells 1 (digC (chainF L.d L.c L.E i)) (0, 0) = X
   generalize hB : Blk.loop (vl + 1) .busy none R = Bk
   have o1 : Old σ ((ap θ [X]).setIfInBounds T.size Bk) := (o.trans .ap).set (by omega)
   have r1 := (get_set_ne (k := Bk) (by omega : T.size ≠ σ.size + 1)).trans ((ap_old (l := [X]) (by omega)).trans q1)
   have r2 := (get_set_ne (k := Bk) (by omega : T.size ≠ τ.size + 1)).trans ((ap_old (l := [X]) (by omega)).trans q2)
   have r4 := (get_set_ne (k := Bk) (by omega : T.size ≠ τ.size)).trans ((ap_old (l := [X]) (by omega)).trans q4)
   have rl : ((ap θ [X]).setIfInBounds T.size Bk)[T.size]? = some Bk := get_set ((ap_old (l := [X]) (by omega)).trans q3)
   have rx : ((ap θ [X]).setIfInBounds T.size Bk)[θ.size]? = some X := (get_set_ne hzz).trans ap_new0
   have hsz1 : ((ap θ [X]).setIfInBounds T.size Bk).size = θ.size + 1 := by simp [ap_size]
   have hu : ∀ c, T.size + 1 ≤ c → c < θ.size → ((ap θ [X]).setIfInBounds T.size Bk)[c]? = θ[c]? := fun c h1 h2 => (get_set_ne (by omega)).trans (ap_old h2)
   generalize (ap θ [X]).setIfInBounds T.size Bk = η at o1 r1 r2 r4 rl rx hsz1 hu
   subst hX
   have fs : rd1 η ⟨τ.size, 0, none⟩ = some v := by rw [rd1_eq, r4]; rfl
   have fx : rdN η ⟨θ.size, 0, none⟩ 16 = some (digC (chainF L.d L.c L.E i)) := rdN_all rx cl
   have done : ∀ (η' : H), Old σ η' → η'.size = θ.size + 1 → η'[σ.size + 1]? = some (.cells 0 [.int .i64 0] (0, 0)) → η'[τ.size + 1]? = some (.cells 0 RC (0, 0)) → η'[T.size]? = some Bk → (∀ c, T.size + 1 ≤ c → c < θ.size → η'[c]? = θ[c]?) → (∃ k ver v, η'[τ.size]? = some (.cells ver [v] (0, 0)) ∧ SealI σ L (i + 1) k v) →
     η'[T.size]? = some (.loop (vl + 1) .busy none R) ∧ OldU (T.push (.loop 0 .ready none R)).size θ (η'.setIfInBounds T.size (.loop (vl + 1 + 1) .ready none R)) ∧ (Old σ (η'.setIfInBounds T.size (.loop (vl + 1 + 1) .ready none R)) ∧ T.size + 1 ≤ (η'.setIfInBounds T.size (.loop (vl + 1 + 1) .ready none R)).size ∧ (η'.setIfInBounds T.size (.loop (vl + 1 + 1) .ready none R))[σ.size + 1]? = some (.cells 0 [.int .i64 0] (0, 0)) ∧ (η'.setIfInBounds T.size (.loop (vl + 1 + 1) .ready none R))[τ.size + 1]? = some (.cells 0 RC (0, 0)) ∧ (∃ ver', (η'.setIfInBounds T.size (.loop (vl + 1 + 1) .ready none R))[T.size]? = some (.loop ver' .ready none R)) ∧ ∃ k ver' v, (η'.setIfInBounds T.size (.loop (vl + 1 + 1) .ready none R))[τ.size]? = some (.cells ver' [v] (0, 0)) ∧ SealI σ L (i + 1) k v) := by
    intro η' p1 p2 p3 p4 p5 p6 ⟨k', ver', v', p7, p8⟩
    rw [← hB] at p5
    refine ⟨p5, ⟨by simp; omega, fun c c1 c2 => ?_⟩, p1.set (by omega), by simp; omega, (get_set_ne (by omega)).trans p3, (get_set_ne (by omega)).trans p4, ⟨_, get_set p5⟩, k', ver', v', (get_set_ne (by omega)).trans p7, p8⟩
    rw [hpz] at c1
    exact (get_set_ne (by omega)).trans (p6 c (by omega) c2)
   obtain ⟨aa, cc, rfl⟩ := q5.row.slice
   rw [List.length_map] at fs r4 q5
   cases hrem : L.S.drop k with
   |nil =>
    have d0 : decide ((0 : Int) < (((L.S.drop k).length : Nat) : Int)) = false := by rw [hrem]; rfl
    simp only [↓eD, eZ, ↓reduceIte, Nat.reduceEqDiff, Nat.reduceAdd, Nat.reduceMul, reduceCtorEq, Nat.reduceLeDiff, Int.reduceLT, Int.reduceLE, Int.reduceToNat, Int.reduceEq, Nat.reduceLT, fs, d0, undef_eq]
    obtain ⟨x1, x2, x3⟩ := done η o1 hsz1 r1 r2 rl hu ⟨k, vk, _, r4, q5.row, q5.cap, q5.chk, by rw [hrem]; rfl⟩
    exact ⟨vl + 1, .busy, none, x1, x2, .inl x3⟩
   |cons s rest =>
    have hkl : k < L.S.length := by
     rcases Nat.lt_or_ge k L.S.length with h | h
     ·exact h
     ·rw [List.drop_of_length_le h] at hrem; cases hrem
    have hrest : L.S.drop (k + 1) = rest := by rw [← List.drop_drop, hrem]; rfl
    have hsm : s ∈ L.S := List.mem_of_mem_drop (i := k) (by rw [hrem]; exact List.mem_cons_self)
    have hok := (h.ok s hsm).1
    have hln : 0 < (L.S.drop k).length := by rw [hrem]; simp
    have d0 : decide ((0 : Int) < (((L.S.drop k).length : Nat) : Int)) = true := by rw [decide_eq_true]; omega
    have hord := q5.ord
    rw [hrem, chkS] at hord
    have hord2 : ¬(s.end_ ≤ (i : Int) - 1 ∨ (L.E.length : Int) < s.end_) ∧ chkS L.E.length rest s.end_ = true := by
     split at hord
     ·cases hord
     ·rename_i hc; exact ⟨hc, hord⟩
    have hx : ((L.S.drop k).map seaV)[0]? = some (seaV s) := by rw [hrem]; rfl
    have hrw := q5.row.Old o1
    obtain ⟨v2, hs2, hr2, hc2'⟩ := Row.tail q5.row q5.cap hln
    obtain ⟨b', off, rfl, h1⟩ := hrw.at hx
    have f0 := rd1_row h1 (j := 0) (v := .int .i64 s.end_) rfl
    have f1 : rdN η ⟨b', off + 0 * 33 + 1, none⟩ 16 = some (digC s.dig) := by
     rw [rdN_sub h1 (a := 1) (m := 16) (by omega)]
     have : (digC s.dig).length = 16 := by rw [digC_length, hok.1]
     simp [seaV, List.take_left' this]
    rw [Nat.zero_mul, Nat.add_zero] at f1 f0
    have hb0 : (0 : Int) ≤ 0 ∧ (0 : Int) < (((L.S.drop k).length : Nat) : Int) := by omega
    by_cases hei : s.end_ = (i : Int)
    case neg =>
     have d1 : decide (s.end_ = (i : Int)) = false := decide_eq_false hei
     simp only [↓eD, eZ, ↓reduceIte, Nat.reduceEqDiff, Nat.reduceAdd, Nat.reduceMul, reduceCtorEq, Nat.reduceLeDiff, Int.reduceLT, Int.reduceLE, Int.reduceToNat, Int.reduceEq, Nat.reduceLT, fs, d0, hb0, Nat.zero_mul, Nat.add_zero, f0, d1, undef_eq]
     obtain ⟨x1, x2, x3⟩ := done η o1 hsz1 r1 r2 rl hu ⟨k, vk, _, r4, q5.row, q5.cap, q5.chk, by
      rw [hrem, chkS, if_neg (by omega)]
      exact hord2.2⟩
     exact ⟨vl + 1, .busy, none, x1, x2, .inl x3⟩
    have d1 : decide (s.end_ = (i : Int)) = true := decide_eq_true hei
    have hen : s.end_.toNat = i := by omega
    have hchk : chkD L (L.S.drop k) = if s.dig = chainF L.d L.c L.E i then chkD L rest else false := by rw [hrem, chkD, hen]
    have hae := aggEq_dig (a := s.dig) (b := chainF L.d L.c L.E i) hok.1 chainF_len
    by_cases hdg : s.dig = chainF L.d L.c L.E i
    ·have d2 : decide (s.dig = chainF L.d L.c L.E i) = true := decide_eq_true hdg
     have hwv : wrN η ⟨τ.size, 0, none⟩ [v2] = some (η.setIfInBounds τ.size (.cells (vk + 1) [v2] (0, 0))) := by
      have o2 : v2.oneCell' = true := by obtain ⟨_, _, h, _⟩ := hr2; rw [h]; rfl
      rw [wrN_eq, if_neg (by simp), r4, wrc_cells, if_pos ⟨by simp, by simp [o2]⟩]; rfl
     obtain ⟨aa2, cc2, rfl⟩ := hr2.slice
     simp only [↓eD, eZ, ↓reduceIte, Nat.reduceEqDiff, Nat.reduceAdd, Nat.reduceMul, reduceCtorEq, Nat.reduceLeDiff, Int.reduceLT, Int.reduceLE, Int.reduceToNat, Int.reduceEq, Nat.reduceLT, fs, d0, hb0, Nat.zero_mul, Nat.add_zero, f0, f1, fx, d1, hae, d2, hs2, hwv, undef_eq]
     obtain ⟨x1, x2, x3⟩ := done (η.setIfInBounds τ.size _) (o1.set (by omega)) (by simp [hsz1]) ((get_set_ne (by omega)).trans r1) ((get_set_ne (by omega)).trans r2) ((get_set_ne (by omega)).trans rl) (fun c h1 h2 => (get_set_ne (by omega)).trans (hu c h1 h2)) ⟨k + 1, _, _, get_set r4, by
      have e : (L.S.drop (k + 1)).map seaV = ((L.S.drop k).map seaV).drop 1 := by rw [← List.map_drop, List.drop_drop]
      rw [e]
      exact hr2, hc2', by rw [hrest, ← q5.chk, hchk, if_pos hdg], by rw [hrest]; exact chkS_le hord2.2 (by omega)⟩
     exact ⟨vl + 1, .busy, none, x1, x2, .inl x3⟩
    ·have d2 : decide (s.dig = chainF L.d L.c L.E i) = false := decide_eq_false hdg
     have hbad : chkD L L.S = false := by rw [← q5.chk, hchk, if_neg hdg]
     rw [← hB] at rl
     simp only [↓eD, eZ, ↓reduceIte, Nat.reduceEqDiff, Nat.reduceAdd, Nat.reduceMul, reduceCtorEq, Nat.reduceLeDiff, Int.reduceLT, Int.reduceLE, Int.reduceToNat, Int.reduceEq, Nat.reduceLT, fs, d0, hb0, Nat.zero_mul, Nat.add_zero, f0, f1, fx, d1, hae, d2, ret_wr r1, undef_eq]
     refine ⟨vl + 1, .busy, none, (get_set_ne (by omega)).trans rl, ⟨by simp; omega, fun c c1 c2 => ?_⟩, .inr ⟨(o1.set (by omega)).set (by omega), (get_set_ne (by omega)).trans (get_set r1), ⟨_, get_set ((get_set_ne (by omega)).trans rl)⟩, hbad⟩⟩
     rw [hpz] at c1
     exact ((get_set_ne (by omega)).trans (get_set_ne (by omega))).trans (hu c c1 c2)
 ·rintro v θ (⟨o, z, q1, q2, ⟨vl, q3⟩, k, vk, v, q4, q5⟩ | ⟨o, q1, ⟨vl, q3⟩, hbad⟩)
  ·have hnil : L.S.drop k = [] := by
    cases hrem : L.S.drop k with
    |nil => rfl
    |cons s rest =>
     have := q5.ord
     rw [hrem, chkS] at this
     split at this
     ·cases this
     ·omega
   have hall : chkD L L.S = true := by rw [← q5.chk, hnil]; rfl
   have hz0 : checkF L = 0 := by rw [hck, hall]; rfl
   refine ⟨vl, .ready, none, q3, by simp, ?_⟩
   have r1 := (get_set_ne (k := .loop (vl + 1) .exhausted none R) (by omega : T.size ≠ σ.size + 1)).trans q1
   have o1 : Old σ (θ.setIfInBounds T.size (.loop (vl + 1) .exhausted none R)) := o.set (by omega)
   generalize θ.setIfInBounds T.size (.loop (vl + 1) .exhausted none R) = η at r1 o1
   simp only [↓eD, eZ, ↓reduceIte, Nat.reduceEqDiff, Nat.reduceAdd, Nat.reduceMul, reduceCtorEq, Nat.reduceLeDiff, Int.reduceLT, Int.reduceLE, Int.reduceToNat, Int.reduceEq, Nat.reduceLT, ret_wr r1, ret_rd r1, undef_eq]
   exact ⟨o1.set (by omega), by simp [flat], by rw [hz0]⟩
  ·have hz0 : checkF L = 290 := by rw [hck, hbad]; rfl
   refine ⟨vl, .done, some .ret, q3, by simp, ?_⟩
   have r1 := (get_set_ne (k := .loop (vl + 1) .exhausted (some .ret) R) (by omega : T.size ≠ σ.size + 1)).trans q1
   have o1 : Old σ (θ.setIfInBounds T.size (.loop (vl + 1) .exhausted (some .ret) R)) := o.set (by omega)
   generalize θ.setIfInBounds T.size (.loop (vl + 1) .exhausted (some .ret) R) = η at r1 o1
   have g1 : rd1 η ⟨σ.size + 1, 0, none⟩ = some (.int .i64 290) := by rw [rd1_eq, r1]; rfl
   simp only [↓eD, eZ, ↓reduceIte, Nat.reduceEqDiff, Nat.reduceAdd, Nat.reduceMul, reduceCtorEq, Nat.reduceLeDiff, Int.reduceLT, Int.reduceLE, Int.reduceToNat, Int.reduceEq, Nat.reduceLT, g1, undef_eq]
   exact ⟨o1, by simp [flat], by rw [hz0]⟩
theorem ent_ext {a b : Ent} : a = b ↔ a.kind = b.kind ∧ a.cpu = b.cpu ∧ a.count = b.count ∧ a.n = b.n ∧ a.data = b.data := by
 obtain ⟨a1, a2, a3, a4, a5⟩ := a
 obtain ⟨b1, b2, b3, b4, b5⟩ := b
 simp
instance : DecidableEq Ent := fun a b => decidable_of_iff _ ent_ext.symm
theorem ent_eq {a b : Ent} : aggEq [.int .i64, .int .i64, .int .i64, .int .i64, .string] (entV a) (entV b) = some (decide (a = b)) := by
 simp only [entV, aggEq, Leaf.fits, leafEq, decide_true, and_self, ↓reduceIte]
 have h := @ent_ext a b
 by_cases h1 : a.kind = b.kind <;> by_cases h2 : a.cpu = b.cpu <;> by_cases h3 : a.count = b.count <;> by_cases h4 : a.n = b.n <;> by_cases h5 : a.data = b.data <;> simp [h, h1, h2, h3, h4, h5]
def newV (d : List Int) (c : Int) : Value := if 1 ≤ c ∧ c ≤ 4 then .tuple #[.agg (recC d c (.slice none 0 0) (.slice none 0 0)).toArray, .int .i64 0] else .tuple #[.agg zeroL.toArray, .int .i64 1]
theorem lnew_app {σ : H} {d : List Int} {c : Int} (hd : d.length = 16) : App Tryd.prog (.func 11) #[] #[.agg (digC d).toArray, .int .i64 c] σ fun v σ' => Old σ σ' ∧ v = newV d c := by
 refine App.of_sem mixed Tryd.func11 t11 k11 r11 (Nat.le_of_ble_eq_true rfl) ?_
 rw [← ap_nil (σ := σ)]
 unfold s11
 have hd' := digC_len hd
 have td := digC_take hd
 by_cases h1 : c < 1
 ·have e : newV d c = .tuple #[.agg zeroL.toArray, .int .i64 1] := if_neg (by omega)
  simp only [↓eD, eZ, ↓reduceIte, Nat.reduceEqDiff, Nat.reduceAdd, Nat.reduceMul, reduceCtorEq, Nat.reduceLeDiff, Int.reduceLT, Int.reduceLE, Int.reduceToNat, Int.reduceEq, Nat.reduceLT, h1, undef_eq]
  exact ⟨by rw [ap_nil]; exact .ap, e.symm⟩
 by_cases h2 : 4 < c
 ·have e : newV d c = .tuple #[.agg zeroL.toArray, .int .i64 1] := if_neg (by omega)
  simp only [↓eD, eZ, ↓reduceIte, Nat.reduceEqDiff, Nat.reduceAdd, Nat.reduceMul, reduceCtorEq, Nat.reduceLeDiff, Int.reduceLT, Int.reduceLE, Int.reduceToNat, Int.reduceEq, Nat.reduceLT, h1, h2, undef_eq]
  exact ⟨by rw [ap_nil]; exact .ap, e.symm⟩
 have e : newV d c = .tuple #[.agg (recC d c (.slice none 0 0) (.slice none 0 0)).toArray, .int .i64 0] := if_pos (by omega)
 have rs : ∀ z : List Value, z.length = 19 → sets z 0 (recC d c (.slice none 0 0) (.slice none 0 0)) = recC d c (.slice none 0 0) (.slice none 0 0) := fun z hz => rec_sets hd hz
 have lt : (17 ≤ 19) = True := eq_true (by omega)
 simp only [↓eD, eZ, ↓reduceIte, Nat.reduceEqDiff, Nat.reduceAdd, Nat.reduceMul, reduceCtorEq, Nat.reduceLeDiff, Int.reduceLT, Int.reduceLE, Int.reduceToNat, Int.reduceEq, Nat.reduceLT, h1, h2, hd', td, rec_build hd, rec_len hd, rec_s16 hd, rs, rec_one, rec_ne, rec_take hd, undef_eq, e]
 rw [ap_nil]
 exact .ap
def lfewF (L : Lg) : Bool := decide (L.E.length ≤ 60 ∧ L.S.length ≤ 20 ∧ ∀ e ∈ L.E, e.data.size ≤ 600)
theorem lfew_app {σ : H} {l : List Value} {L : Lg} {a1 a2 : Option Addr} {b1 b2 : Nat} (hd : L.d.length = 16) (hl : l = recC L.d L.c (.slice a1 L.E.length b1) (.slice a2 L.S.length b2)) (hE : Row σ 5 (.slice a1 L.E.length b1) (L.E.map entV)) :
  App Tryd.prog (.func 9) #[] #[.agg l.toArray] σ fun v σ' => σ' = σ ∧ v = .bool (lfewF L) := by
 refine App.forget (App.of_sem mixed Tryd.func9 t9 k9 r9 (Nat.le_of_ble_eq_true rfl) ?_)
 subst hl
 rw [← ap_nil (σ := σ)]
 unfold s9
 simp only [↓eD, eZ, ↓reduceIte, Nat.reduceEqDiff, Nat.reduceAdd, Nat.reduceMul, reduceCtorEq, Nat.reduceLeDiff, Int.reduceLT, Int.reduceLE, Int.reduceToNat, Int.reduceEq, Nat.reduceLT]
 refine loop_for (J := fun i e τ => i ≤ 61 ∧ i ≤ L.E.length ∧ e = [(1, .pointer (some ⟨σ.size, 0, none⟩)), (3, .int .i64 (i : Int))] ∧ τ = ap σ [.cells 0 (recC L.d L.c (.slice a1 L.E.length b1) (.slice a2 L.S.length b2)) (0, 0)] ∧ ∀ j (h : j < L.E.length), j < i → L.E[j].data.size ≤ 600) 61 ⟨by omega, by omega, rfl, rfl, fun j _ h => absurd h (by omega)⟩ ?_
 rintro i e τ hi ⟨_, hin, rfl, rfl, hall⟩
 have fin : ¬(i < L.E.length ∧ i < 61) → ∀ x, x = decide (L.E.length ≤ 60 ∧ L.S.length ≤ 20) → x = lfewF L := fun hno x hx => by
  rw [hx]
  unfold lfewF
  apply decide_eq_decide.2
  constructor
  ·rintro ⟨h1, h2⟩
   refine ⟨h1, h2, fun e he => ?_⟩
   obtain ⟨j, hj, rfl⟩ := List.getElem_of_mem he
   exact hall j hj (by omega)
  ·rintro ⟨h1, h2, _⟩; exact ⟨h1, h2⟩
 have tail : decide ((L.E.length : Int) ≤ 60) = decide (L.E.length ≤ 60) := decide_eq_decide.2 (by omega)
 have tail2 : decide ((L.S.length : Int) ≤ 20) = decide (L.S.length ≤ 20) := decide_eq_decide.2 (by omega)
 by_cases hlt : i < L.E.length
 ·have dl : decide ((i : Int) < (L.E.length : Int)) = true := by rw [decide_eq_true]; omega
  by_cases h61 : i < 61
  ·have d6 : decide ((i : Int) < 61) = true := by rw [decide_eq_true]; omega
   have hbd : (0:Int) ≤ (i:Int) ∧ (i:Int) < (L.E.length : Int) := by omega
   have hw : IntKind.wrap .i64 ((i:Int) + 1) = ((i + 1 : Nat) : Int) := by rw [wrap64' (by omega) (by omega)]; omega
   have hx : (L.E.map entV)[i]? = some (entV L.E[i]) := by simp [hlt]
   obtain ⟨b', off, rfl, h1⟩ := hE.at hx
   have hr : ∀ l, rd1 (ap σ l) ⟨b', off + i * 5 + 4, none⟩ = some (.string L.E[i].data) := fun l => rd1_row (rdN_old h1) (j := 4) rfl
   by_cases h6 : L.E[i].data.size ≤ 600
   ·have d7 : decide ((600 : Int) < (L.E[i].data.size : Int)) = false := by rw [decide_eq_false]; omega
    simp only [↓eD, eZ, ↓reduceIte, Nat.reduceEqDiff, Nat.reduceAdd, Nat.reduceMul, reduceCtorEq, Nat.reduceLeDiff, Int.reduceLT, Int.reduceLE, Int.reduceToNat, Int.reduceEq, Nat.reduceLT, rec17 hd, dl, d6, hbd, Int.toNat_natCast, hr, d7, hw]
    refine ⟨h61, by omega, by omega, fun j hj hji => ?_⟩
    by_cases he : j = i
    ·subst he; exact h6
    ·exact hall j hj (by omega)
   ·have d7 : decide ((600 : Int) < (L.E[i].data.size : Int)) = true := by rw [decide_eq_true]; omega
    have hf : lfewF L = false := decide_eq_false fun h => h6 (h.2.2 _ (by simp))
    simp only [↓eD, eZ, ↓reduceIte, Nat.reduceEqDiff, Nat.reduceAdd, Nat.reduceMul, reduceCtorEq, Nat.reduceLeDiff, Int.reduceLT, Int.reduceLE, Int.reduceToNat, Int.reduceEq, Nat.reduceLT, rec17 hd, dl, d6, hbd, Int.toNat_natCast, hr, d7, hw, hf]
    exact ⟨.ap, rfl⟩
  ·have d6 : decide ((i : Int) < 61) = false := by rw [decide_eq_false]; omega
   have h60 : decide (L.E.length ≤ 60) = false := by rw [decide_eq_false]; omega
   have hf : lfewF L = false := (fin (fun h => h61 h.2) false (by rw [decide_eq_false]; omega)).symm
   simp only [↓eD, eZ, ↓reduceIte, Nat.reduceEqDiff, Nat.reduceAdd, Nat.reduceMul, reduceCtorEq, Nat.reduceLeDiff, Int.reduceLT, Int.reduceLE, Int.reduceToNat, Int.reduceEq, Nat.reduceLT, rec17 hd, rec18 hd, dl, d6, tail, h60, hf]
   exact ⟨.ap, rfl⟩
 ·have dl : decide ((i : Int) < (L.E.length : Int)) = false := by rw [decide_eq_false]; omega
  by_cases h60 : L.E.length ≤ 60
  ·have d6 : decide (L.E.length ≤ 60) = true := decide_eq_true h60
   have hf := fin (fun h => hlt h.1) (decide (L.S.length ≤ 20)) (decide_eq_decide.2 (by omega))
   simp only [↓eD, eZ, ↓reduceIte, Nat.reduceEqDiff, Nat.reduceAdd, Nat.reduceMul, reduceCtorEq, Nat.reduceLeDiff, Int.reduceLT, Int.reduceLE, Int.reduceToNat, Int.reduceEq, Nat.reduceLT, rec17 hd, rec18 hd, dl, tail, tail2, d6]
   exact ⟨.ap, rfl, by rw [hf]⟩
  ·have d6 : decide (L.E.length ≤ 60) = false := decide_eq_false h60
   have hf : lfewF L = false := (fin (fun h => hlt h.1) false (by rw [decide_eq_false]; omega)).symm
   simp only [↓eD, eZ, ↓reduceIte, Nat.reduceEqDiff, Nat.reduceAdd, Nat.reduceMul, reduceCtorEq, Nat.reduceLeDiff, Int.reduceLT, Int.reduceLE, Int.reduceToNat, Int.reduceEq, Nat.reduceLT, rec17 hd, rec18 hd, dl, tail, d6, hf]
   exact ⟨.ap, rfl⟩
def folF (A B : Lg) : Bool := decide (A.d = B.d ∧ A.c = B.c ∧ A.E = B.E.take A.E.length)
structure LgR (σ : H) (l : List Value) (L : Lg) (a1 : Option Addr) (b1 : Nat) (a2 : Option Addr) (b2 : Nat) : Prop where
 l : l = recC L.d L.c (.slice a1 L.E.length b1) (.slice a2 L.S.length b2)
 d : L.d.length = 16
 E : Row σ 5 (.slice a1 L.E.length b1) (L.E.map entV)
 S : Row σ 33 (.slice a2 L.S.length b2) (L.S.map seaV)
 ok : ∀ s ∈ L.S, s.ok
theorem LgR.Old {σ τ : H} {l : List Value} {L : Lg} {a1 a2 : Option Addr} {b1 b2 : Nat} (h : LgR σ l L a1 b1 a2 b2) (ho : Old σ τ) : LgR τ l L a1 b1 a2 b2 := ⟨h.l, h.d, h.E.Old ho, h.S.Old ho, h.ok⟩
theorem LgV.r {σ : H} {l : List Value} {L : Lg} {a1 a2 : Option Addr} {b1 b2 : Nat} (h : LgV σ l L a1 b1 a2 b2) : LgR σ l L a1 b1 a2 b2 := ⟨h.l, h.fit.d, h.E, h.S, fun s hs => (h.ok s hs).1⟩
theorem take_all {A B : List Ent} (h : A.length ≤ B.length) (hall : ∀ j (h1 : j < A.length) (h2 : j < B.length), A[j] = B[j]) : A = B.take A.length := by
 apply List.ext_getElem
 ·simp; omega
 ·intro j h1 h2
  rw [List.getElem_take]
  exact hall j h1 (by omega)
theorem lfollows_app {σ : H} {la lb : List Value} {A B : Lg} {a1 a2 c1 c2 : Option Addr} {b1 b2 d1 d2 : Nat} (ha : LgR σ la A a1 b1 a2 b2) (hb : LgR σ lb B c1 d1 c2 d2) (hn : A.E.length < 2000000000000) :
  App Tryd.prog (.func 32) #[] #[.agg la.toArray, .agg lb.toArray] σ fun v σ' => σ' = σ ∧ v = .bool (folF A B) := by
 refine App.forget (App.of_sem mixed Tryd.func32 t32 k32 r32 (Nat.le_of_ble_eq_true rfl) ?_)
 have hla := ha.l
 have hlb := hb.l
 subst hla hlb
 rw [← ap_nil (σ := σ)]
 unfold s32
 have gA : ∀ l, rdN (ap σ ([.cells 0 (recC A.d A.c (.slice a1 A.E.length b1) (.slice a2 A.S.length b2)) (0, 0), .cells 0 (recC B.d B.c (.slice c1 B.E.length d1) (.slice c2 B.S.length d2)) (0, 0)] ++ l)) ⟨σ.size, 0, none⟩ 16 = some (digC A.d) := fun l => by
  rw [rdN_eq, if_neg (by omega), ap_new0]
  show rdcN (some (.cells 0 (recC _ _ _ _) (0, 0))) 0 16 = _
  rw [rdcN_cells, if_pos (by rw [rec_len ha.d]; omega), List.drop_zero, rec_take16 ha.d]
 have ln1 : 16 ≤ (recC A.d A.c (.slice a1 A.E.length b1) (.slice a2 A.S.length b2)).length := by rw [rec_len ha.d]; omega
 have ae := aggEq_dig (a := A.d) (b := B.d) ha.d hb.d
 have c16 : (16 ≤ 19) = True := eq_true (by omega)
 by_cases q1 : A.d = B.d
 case neg =>
  have e1 : decide (A.d = B.d) = false := decide_eq_false q1
  have hf : folF A B = false := decide_eq_false fun h => q1 h.1
  simp only [↓eD, eZ, ↓reduceIte, Nat.reduceEqDiff, Nat.reduceAdd, Nat.reduceMul, reduceCtorEq, Nat.reduceLeDiff, Int.reduceLT, Int.reduceLE, Int.reduceToNat, Int.reduceEq, Nat.reduceLT, rec_len ha.d, rec_len hb.d, rec_take16 ha.d, rec_take16 hb.d, ae, e1, hf, undef_eq]
  exact ⟨.ap, rfl⟩
 have e1 : decide (A.d = B.d) = true := decide_eq_true q1
 by_cases q2 : A.c = B.c
 case neg =>
  have e2 : decide (A.c = B.c) = false := decide_eq_false q2
  have hf : folF A B = false := decide_eq_false fun h => q2 h.2.1
  simp only [↓eD, eZ, ↓reduceIte, Nat.reduceEqDiff, Nat.reduceAdd, Nat.reduceMul, reduceCtorEq, Nat.reduceLeDiff, Int.reduceLT, Int.reduceLE, Int.reduceToNat, Int.reduceEq, Nat.reduceLT, rec_len ha.d, rec_len hb.d, rec_take16 ha.d, rec_take16 hb.d, rec16 ha.d, rec16 hb.d, ae, e1, e2, hf, undef_eq]
  exact ⟨.ap, rfl⟩
 have e2 : decide (A.c = B.c) = true := decide_eq_true q2
 by_cases q3 : A.E.length ≤ B.E.length
 case neg =>
  have e3 : decide ((B.E.length : Int) < (A.E.length : Int)) = true := by rw [decide_eq_true]; omega
  have hf : folF A B = false := decide_eq_false fun h => q3 (by have := congrArg List.length h.2.2; simp at this; omega)
  simp only [↓eD, eZ, ↓reduceIte, Nat.reduceEqDiff, Nat.reduceAdd, Nat.reduceMul, reduceCtorEq, Nat.reduceLeDiff, Int.reduceLT, Int.reduceLE, Int.reduceToNat, Int.reduceEq, Nat.reduceLT, rec_len ha.d, rec_len hb.d, rec_take16 ha.d, rec_take16 hb.d, rec16 ha.d, rec16 hb.d, rec17 ha.d, rec17 hb.d, ae, e1, e2, e3, hf, undef_eq]
  exact ⟨.ap, rfl⟩
 have e3 : decide ((B.E.length : Int) < (A.E.length : Int)) = false := by rw [decide_eq_false]; omega
 simp only [↓eD, eZ, ↓reduceIte, Nat.reduceEqDiff, Nat.reduceAdd, Nat.reduceMul, reduceCtorEq, Nat.reduceLeDiff, Int.reduceLT, Int.reduceLE, Int.reduceToNat, Int.reduceEq, Nat.reduceLT, rec_len ha.d, rec_len hb.d, rec_take16 ha.d, rec_take16 hb.d, rec16 ha.d, rec16 hb.d, rec17 ha.d, rec17 hb.d, ae, e1, e2, e3, undef_eq]
 have rp : (ap σ [.cells 0 (recC A.d A.c (.slice a1 A.E.length b1) (.slice a2 A.S.length b2)) (0, 0), .cells 0 (recC B.d B.c (.slice c1 B.E.length d1) (.slice c2 B.S.length d2)) (0, 0)])[σ.size + 1]? = some (.cells 0 (recC B.d B.c (.slice c1 B.E.length d1) (.slice c2 B.S.length d2)) (0, 0)) := ap_new
 refine loop_for (J := fun i e τ => i ≤ A.E.length ∧ e = [(3, .pointer (some ⟨σ.size + 1, 0, none⟩)), (29, .slice a1 A.E.length b1), (30, .int .i64 (A.E.length : Int)), (31, .int .i64 (i : Int))] ∧ Old σ τ ∧ σ.size + 2 ≤ τ.size ∧ τ[σ.size + 1]? = some (.cells 0 (recC B.d B.c (.slice c1 B.E.length d1) (.slice c2 B.S.length d2)) (0, 0)) ∧ ∀ j (h1 : j < A.E.length) (h2 : j < B.E.length), j < i → A.E[j] = B.E[j]) A.E.length
  ⟨by omega, rfl, .ap, by simp [ap_size], rp, fun j _ _ h => absurd h (by omega)⟩ ?_
 clear rp gA
 rintro i e τ hi ⟨_, rfl, ho, hsz, rp, hall⟩
 rw [← ap_nil (σ := τ)]
 by_cases hlt : i < A.E.length
 ·have hltb : i < B.E.length := by omega
  have dl : decide ((i : Int) < (A.E.length : Int)) = true := by rw [decide_eq_true]; omega
  have hbd : (0:Int) ≤ (i:Int) ∧ (i:Int) < (A.E.length : Int) := by omega
  have hbe : (0:Int) ≤ (i:Int) ∧ (i:Int) < (B.E.length : Int) := by omega
  have hw : IntKind.wrap .i64 ((i:Int) + 1) = ((i + 1 : Nat) : Int) := by rw [wrap64' (by omega) (by omega)]; omega
  have hxA : (A.E.map entV)[i]? = some (entV A.E[i]) := by simp [hlt]
  have hxB : (B.E.map entV)[i]? = some (entV B.E[i]) := by simp [hltb]
  obtain ⟨b', off, rfl, h1⟩ := (ha.E.Old ho).at hxA
  obtain ⟨b'', off', rfl, h2⟩ := (hb.E.Old ho).at hxB
  have hrA : ∀ l, rdN (ap τ l) ⟨b', off + i * 5, none⟩ 5 = some (entV A.E[i]) := fun l => rdN_old h1
  have hrB : ∀ l, rdN (ap τ l) ⟨b'', off' + i * 5, none⟩ 5 = some (entV B.E[i]) := fun l => rdN_old h2
  have g17 : ∀ l, rd1 (ap τ l) ⟨σ.size + 1, 17, none⟩ = some (.slice (some ⟨b'', off', none⟩) B.E.length d1) := fun l => rd1_old (by rw [rd1_eq, rp]; exact rec17 hb.d)
  have ee := ent_eq (a := B.E[i]) (b := A.E[i])
  have hfo : A.E[i] ≠ B.E[i] → folF A B = false := fun hne => decide_eq_false fun h => hne (by
   have h3 : A.E[i]? = (B.E.take A.E.length)[i]? := congrArg (fun l : List Ent => l[i]?) h.2.2
   rw [List.getElem?_take, if_pos hlt, List.getElem?_eq_getElem hlt, List.getElem?_eq_getElem hltb] at h3
   injection h3)
  generalize hA : A.E[i] = x at hrA ee hfo
  generalize hB : B.E[i] = y at hrB ee hfo
  by_cases hxy : y = x
  ·have e4 : decide (y = x) = true := decide_eq_true hxy
   rw [entV, entV] at ee
   simp only [↓eD, eZ, ↓reduceIte, Nat.reduceEqDiff, Nat.reduceAdd, Nat.reduceMul, reduceCtorEq, Nat.reduceLeDiff, Int.reduceLT, Int.reduceLE, Int.reduceToNat, Int.reduceEq, Nat.reduceLT, dl, hbd, hbe, Int.toNat_natCast, hrA, hrB, g17, entV, ee, e4, hw, undef_eq]
   refine ⟨hlt, by omega, ho.trans .ap, by first | omega | (simp [ap_size]; omega), (ap_old (by omega)).trans rp, fun j h1 h2 hj => ?_⟩
   by_cases he : j = i
   ·subst he; rw [hA, hB, hxy]
   ·exact hall j h1 h2 (by omega)
  ·have e4 : decide (y = x) = false := decide_eq_false hxy
   rw [entV, entV] at ee
   simp only [↓eD, eZ, ↓reduceIte, Nat.reduceEqDiff, Nat.reduceAdd, Nat.reduceMul, reduceCtorEq, Nat.reduceLeDiff, Int.reduceLT, Int.reduceLE, Int.reduceToNat, Int.reduceEq, Nat.reduceLT, dl, hbd, hbe, Int.toNat_natCast, hrA, hrB, g17, entV, ee, e4, hw, undef_eq, hfo (fun h => hxy h.symm)]
   exact ⟨ho.trans .ap, rfl⟩
 ·have : i = A.E.length := by omega
  subst this
  have dl : decide ((A.E.length : Int) < (A.E.length : Int)) = false := by rw [decide_eq_false]; omega
  have hf : folF A B = true := decide_eq_true ⟨q1, q2, take_all q3 fun j h1 h2 => hall j h1 h2 h1⟩
  simp only [↓eD, eZ, ↓reduceIte, Nat.reduceEqDiff, Nat.reduceAdd, Nat.reduceMul, reduceCtorEq, Nat.reduceLeDiff, Int.reduceLT, Int.reduceLE, Int.reduceToNat, Int.reduceEq, Nat.reduceLT, dl, hf, undef_eq]
  exact ⟨ho.trans .ap, rfl⟩
theorem rfollows_app {σ : H} {la lb : List Value} {A B : Lg} {a1 a2 c1 c2 : Option Addr} {b1 b2 d1 d2 : Nat} (ha : LgR σ la A a1 b1 a2 b2) (hb : LgR σ lb B c1 d1 c2 d2) (hn : A.E.length < 2000000000000) :
  App Tryd.prog (.func 38) #[] #[.agg la.toArray, .agg lb.toArray] σ fun v σ' => σ' = σ ∧ v = .bool (folF A B) := by
 refine App.forget (App.of_sem mixed Tryd.func38 t38 k38 r38 (Nat.le_of_ble_eq_true rfl) ?_)
 have hla := ha.l
 have hlb := hb.l
 subst hla hlb
 rw [← ap_nil (σ := σ)]
 unfold s38
 have ae := aggEq_dig (a := A.d) (b := B.d) ha.d hb.d
 have c16 : (16 ≤ 19) = True := eq_true (by omega)
 by_cases q1 : A.d = B.d
 case neg =>
  have e1 : decide (A.d = B.d) = false := decide_eq_false q1
  have hf : folF A B = false := decide_eq_false fun h => q1 h.1
  simp only [↓eD, eZ, ↓reduceIte, Nat.reduceEqDiff, Nat.reduceAdd, Nat.reduceMul, reduceCtorEq, Nat.reduceLeDiff, Int.reduceLT, Int.reduceLE, Int.reduceToNat, Int.reduceEq, Nat.reduceLT, rec_len ha.d, rec_len hb.d, rec_take16 ha.d, rec_take16 hb.d, ae, e1, hf, undef_eq]
  exact ⟨.ap, rfl⟩
 have e1 : decide (A.d = B.d) = true := decide_eq_true q1
 by_cases q2 : A.c = B.c
 case neg =>
  have e2 : decide (A.c = B.c) = false := decide_eq_false q2
  have hf : folF A B = false := decide_eq_false fun h => q2 h.2.1
  simp only [↓eD, eZ, ↓reduceIte, Nat.reduceEqDiff, Nat.reduceAdd, Nat.reduceMul, reduceCtorEq, Nat.reduceLeDiff, Int.reduceLT, Int.reduceLE, Int.reduceToNat, Int.reduceEq, Nat.reduceLT, rec_len ha.d, rec_len hb.d, rec_take16 ha.d, rec_take16 hb.d, rec16 ha.d, rec16 hb.d, ae, e1, e2, hf, undef_eq]
  exact ⟨.ap, rfl⟩
 have e2 : decide (A.c = B.c) = true := decide_eq_true q2
 by_cases q3 : A.E.length ≤ B.E.length
 case neg =>
  have e3 : decide ((B.E.length : Int) < (A.E.length : Int)) = true := by rw [decide_eq_true]; omega
  have hf : folF A B = false := decide_eq_false fun h => q3 (by have := congrArg List.length h.2.2; simp at this; omega)
  simp only [↓eD, eZ, ↓reduceIte, Nat.reduceEqDiff, Nat.reduceAdd, Nat.reduceMul, reduceCtorEq, Nat.reduceLeDiff, Int.reduceLT, Int.reduceLE, Int.reduceToNat, Int.reduceEq, Nat.reduceLT, rec_len ha.d, rec_len hb.d, rec_take16 ha.d, rec_take16 hb.d, rec16 ha.d, rec16 hb.d, rec17 ha.d, rec17 hb.d, ae, e1, e2, e3, hf, undef_eq]
  exact ⟨.ap, rfl⟩
 have e3 : decide ((B.E.length : Int) < (A.E.length : Int)) = false := by rw [decide_eq_false]; omega
 simp only [↓eD, eZ, ↓reduceIte, Nat.reduceEqDiff, Nat.reduceAdd, Nat.reduceMul, reduceCtorEq, Nat.reduceLeDiff, Int.reduceLT, Int.reduceLE, Int.reduceToNat, Int.reduceEq, Nat.reduceLT, rec_len ha.d, rec_len hb.d, rec_take16 ha.d, rec_take16 hb.d, rec16 ha.d, rec16 hb.d, rec17 ha.d, rec17 hb.d, ae, e1, e2, e3, undef_eq]
 refine loop_for (J := fun i e τ => i ≤ A.E.length ∧ e = [(2, .pointer (some ⟨σ.size, 0, none⟩)), (3, .pointer (some ⟨σ.size + 1, 0, none⟩)), (5, .int .i64 (i : Int))] ∧ τ = ap σ [.cells 0 (recC A.d A.c (.slice a1 A.E.length b1) (.slice a2 A.S.length b2)) (0, 0), .cells 0 (recC B.d B.c (.slice c1 B.E.length d1) (.slice c2 B.S.length d2)) (0, 0)] ∧ ∀ j (h1 : j < A.E.length) (h2 : j < B.E.length), j < i → A.E[j] = B.E[j]) A.E.length
  ⟨by omega, rfl, rfl, fun j _ _ h => absurd h (by omega)⟩ ?_
 rintro i e τ hi ⟨_, rfl, rfl, hall⟩
 by_cases hlt : i < A.E.length
 ·have hltb : i < B.E.length := by omega
  have dl : decide ((i : Int) < (A.E.length : Int)) = true := by rw [decide_eq_true]; omega
  have hbd : (0:Int) ≤ (i:Int) ∧ (i:Int) < (A.E.length : Int) := by omega
  have hbe : (0:Int) ≤ (i:Int) ∧ (i:Int) < (B.E.length : Int) := by omega
  have hw : IntKind.wrap .i64 ((i:Int) + 1) = ((i + 1 : Nat) : Int) := by rw [wrap64' (by omega) (by omega)]; omega
  have hxA : (A.E.map entV)[i]? = some (entV A.E[i]) := by simp [hlt]
  have hxB : (B.E.map entV)[i]? = some (entV B.E[i]) := by simp [hltb]
  obtain ⟨b', off, rfl, h1⟩ := ha.E.at hxA
  obtain ⟨b'', off', rfl, h2⟩ := hb.E.at hxB
  have hrA : ∀ l, rdN (ap σ l) ⟨b', off + i * 5, none⟩ 5 = some (entV A.E[i]) := fun l => rdN_old h1
  have hrB : ∀ l, rdN (ap σ l) ⟨b'', off' + i * 5, none⟩ 5 = some (entV B.E[i]) := fun l => rdN_old h2
  have ee := ent_eq (a := A.E[i]) (b := B.E[i])
  have hfo : A.E[i] ≠ B.E[i] → folF A B = false := fun hne => decide_eq_false fun h => hne (by
   have h3 : A.E[i]? = (B.E.take A.E.length)[i]? := congrArg (fun l : List Ent => l[i]?) h.2.2
   rw [List.getElem?_take, if_pos hlt, List.getElem?_eq_getElem hlt, List.getElem?_eq_getElem hltb] at h3
   injection h3)
  generalize hA : A.E[i] = x at hrA ee hfo
  generalize hB : B.E[i] = y at hrB ee hfo
  by_cases hxy : x = y
  ·have e4 : decide (x = y) = true := decide_eq_true hxy
   rw [entV, entV] at ee
   simp only [↓eD, eZ, ↓reduceIte, Nat.reduceEqDiff, Nat.reduceAdd, Nat.reduceMul, reduceCtorEq, Nat.reduceLeDiff, Int.reduceLT, Int.reduceLE, Int.reduceToNat, Int.reduceEq, Nat.reduceLT, rec17 ha.d, rec17 hb.d, dl, hbd, hbe, Int.toNat_natCast, hrA, hrB, entV, ee, e4, hw, undef_eq]
   refine ⟨hlt, by omega, fun j h1 h2 hj => ?_⟩
   by_cases he : j = i
   ·subst he; rw [hA, hB, hxy]
   ·exact hall j h1 h2 (by omega)
  ·have e4 : decide (x = y) = false := decide_eq_false hxy
   rw [entV, entV] at ee
   simp only [↓eD, eZ, ↓reduceIte, Nat.reduceEqDiff, Nat.reduceAdd, Nat.reduceMul, reduceCtorEq, Nat.reduceLeDiff, Int.reduceLT, Int.reduceLE, Int.reduceToNat, Int.reduceEq, Nat.reduceLT, rec17 ha.d, rec17 hb.d, dl, hbd, hbe, Int.toNat_natCast, hrA, hrB, entV, ee, e4, hw, undef_eq, hfo hxy]
   exact ⟨.ap, rfl⟩
 ·have : i = A.E.length := by omega
  subst this
  have dl : decide ((A.E.length : Int) < (A.E.length : Int)) = false := by rw [decide_eq_false]; omega
  have hf : folF A B = true := decide_eq_true ⟨q1, q2, take_all q3 fun j h1 h2 => hall j h1 h2 h1⟩
  simp only [↓eD, eZ, ↓reduceIte, Nat.reduceEqDiff, Nat.reduceAdd, Nat.reduceMul, reduceCtorEq, Nat.reduceLeDiff, Int.reduceLT, Int.reduceLE, Int.reduceToNat, Int.reduceEq, Nat.reduceLT, rec17 ha.d, dl, hf, undef_eq]
  exact ⟨.ap, rfl⟩
theorem sea_ext {a b : Sea} : a = b ↔ a.end_ = b.end_ ∧ a.dig = b.dig ∧ a.seal_ = b.seal_ := by
 obtain ⟨a1, a2, a3⟩ := a
 obtain ⟨b1, b2, b3⟩ := b
 simp
instance : DecidableEq Sea := fun a b => decidable_of_iff _ sea_ext.symm
theorem sea_eq {a b : Sea} (ha : a.ok) (hb : b.ok) : aggEq (.int .i64 :: List.replicate 32 (.int .u8)) (seaV a) (seaV b) = some (decide (a = b)) := by
 have h := aggEq_dig (n := 32) (a := a.dig ++ a.seal_) (b := b.dig ++ b.seal_) (by simp [ha.1, ha.2]) (by simp [hb.1, hb.2])
 rw [show ∀ x y : List Int, digC (x ++ y) = digC x ++ digC y from fun x y => List.map_append .., show ∀ x y : List Int, digC (x ++ y) = digC x ++ digC y from fun x y => List.map_append ..] at h
 unfold seaV
 simp only [aggEq, Leaf.fits, leafEq, decide_true, and_self, ↓reduceIte, h]
 have e : (a.dig ++ a.seal_ = b.dig ++ b.seal_) ↔ a.dig = b.dig ∧ a.seal_ = b.seal_ :=
  ⟨fun h => List.append_inj h (by rw [ha.1, hb.1]), fun ⟨h1, h2⟩ => by rw [h1, h2]⟩
 have h2 := @sea_ext a b
 by_cases h3 : a.end_ = b.end_ <;> by_cases h4 : a.dig = b.dig <;> by_cases h5 : a.seal_ = b.seal_ <;> simp [h2, e, h3, h4, h5]
def sameL (A B : Lg) : Bool := decide (A.d = B.d ∧ A.c = B.c ∧ A.E = B.E ∧ A.S = B.S)
theorem same_app {σ : H} {la lb : List Value} {A B : Lg} {a1 a2 c1 c2 : Option Addr} {b1 b2 d1 d2 : Nat} (ha : LgR σ la A a1 b1 a2 b2) (hb : LgR σ lb B c1 d1 c2 d2) (hn : A.E.length < 2000000000000) (hm : A.S.length < 2000000000000) :
  App Tryd.prog (.func 12) #[] #[.agg la.toArray, .agg lb.toArray] σ fun v σ' => σ' = σ ∧ v = .bool (sameL A B) := by
 refine App.forget (App.of_sem mixed Tryd.func12 t12 k12 r12 (Nat.le_of_ble_eq_true rfl) ?_)
 have hla := ha.l
 have hlb := hb.l
 subst hla hlb
 rw [← ap_nil (σ := σ)]
 unfold s12
 by_cases q1 : A.S.length = B.S.length
 case neg =>
  have e1 : decide ((A.S.length : Int) = (B.S.length : Int)) = false := by rw [decide_eq_false]; omega
  have hf : sameL A B = false := decide_eq_false fun h => q1 (by rw [h.2.2.2])
  simp only [↓eD, eZ, ↓reduceIte, Nat.reduceEqDiff, Nat.reduceAdd, Nat.reduceMul, reduceCtorEq, Nat.reduceLeDiff, Int.reduceLT, Int.reduceLE, Int.reduceToNat, Int.reduceEq, Nat.reduceLT, rec18 ha.d, rec18 hb.d, e1, hf, undef_eq]
  exact ⟨.ap, rfl⟩
 have e1 : decide ((A.S.length : Int) = (B.S.length : Int)) = true := by rw [decide_eq_true]; omega
 by_cases q2 : A.E.length = B.E.length
 case neg =>
  have e2 : decide ((A.E.length : Int) = (B.E.length : Int)) = false := by rw [decide_eq_false]; omega
  have hf : sameL A B = false := decide_eq_false fun h => q2 (by rw [h.2.2.1])
  simp only [↓eD, eZ, ↓reduceIte, Nat.reduceEqDiff, Nat.reduceAdd, Nat.reduceMul, reduceCtorEq, Nat.reduceLeDiff, Int.reduceLT, Int.reduceLE, Int.reduceToNat, Int.reduceEq, Nat.reduceLT, rec17 ha.d, rec17 hb.d, rec18 ha.d, rec18 hb.d, e1, e2, hf, undef_eq]
  exact ⟨.ap, rfl⟩
 have e2 : decide ((A.E.length : Int) = (B.E.length : Int)) = true := by rw [decide_eq_true]; omega
 simp only [↓eD, eZ, ↓reduceIte, Nat.reduceEqDiff, Nat.reduceAdd, Nat.reduceMul, reduceCtorEq, Nat.reduceLeDiff, Int.reduceLT, Int.reduceLE, Int.reduceToNat, Int.reduceEq, Nat.reduceLT, rec_len ha.d, rec_len hb.d, rec_take ha.d, rec_take hb.d, rec17 ha.d, rec17 hb.d, rec18 ha.d, rec18 hb.d, e1, e2, undef_eq]
 refine appK_of (rfollows_app (ha.Old .ap) (hb.Old .ap) hn) ?_
 rintro _ _ ⟨e3, rfl⟩
 rw [e3]
 clear e3
 cases hfo : folF A B with
 |false =>
  have hf : sameL A B = false := decide_eq_false fun h => by
   have : folF A B = true := decide_eq_true ⟨h.1, h.2.1, by rw [← h.2.2.1, List.take_length]⟩
   rw [this] at hfo; cases hfo
  simp only [↓eD, eZ, ↓reduceIte, Nat.reduceEqDiff, Nat.reduceAdd, Nat.reduceMul, reduceCtorEq, Nat.reduceLeDiff, Int.reduceLT, Int.reduceLE, Int.reduceToNat, Int.reduceEq, Nat.reduceLT, Bool.not_false, hf, undef_eq]
  exact ⟨.ap, rfl⟩
 |true =>
  have hfo' := of_decide_eq_true hfo
  have hEE : A.E = B.E := by rw [hfo'.2.2, q2, List.take_length]
  simp only [↓eD, eZ, ↓reduceIte, Nat.reduceEqDiff, Nat.reduceAdd, Nat.reduceMul, reduceCtorEq, Nat.reduceLeDiff, Int.reduceLT, Int.reduceLE, Int.reduceToNat, Int.reduceEq, Nat.reduceLT, Bool.not_true, undef_eq]
  refine loop_for (J := fun i e τ => i ≤ A.S.length ∧ e = [(2, .pointer (some ⟨σ.size, 0, none⟩)), (3, .pointer (some ⟨σ.size + 1, 0, none⟩)), (5, .int .i64 (i : Int))] ∧ τ = ap σ [.cells 0 (recC A.d A.c (.slice a1 A.E.length b1) (.slice a2 A.S.length b2)) (0, 0), .cells 0 (recC B.d B.c (.slice c1 B.E.length d1) (.slice c2 B.S.length d2)) (0, 0)] ∧ ∀ j (h1 : j < A.S.length) (h2 : j < B.S.length), j < i → A.S[j] = B.S[j]) A.S.length
   ⟨by omega, rfl, rfl, fun j _ _ h => absurd h (by omega)⟩ ?_
  rintro i e τ hi ⟨_, rfl, rfl, hall⟩
  by_cases hlt : i < A.S.length
  ·have hltb : i < B.S.length := by omega
   have dl : decide ((i : Int) < (A.S.length : Int)) = true := by rw [decide_eq_true]; omega
   have hbd : (0:Int) ≤ (i:Int) ∧ (i:Int) < (A.S.length : Int) := by omega
   have hbe : (0:Int) ≤ (i:Int) ∧ (i:Int) < (B.S.length : Int) := by omega
   have hw : IntKind.wrap .i64 ((i:Int) + 1) = ((i + 1 : Nat) : Int) := by rw [wrap64' (by omega) (by omega)]; omega
   have hxA : (A.S.map seaV)[i]? = some (seaV A.S[i]) := by simp [hlt]
   have hxB : (B.S.map seaV)[i]? = some (seaV B.S[i]) := by simp [hltb]
   obtain ⟨b', off, rfl, h1⟩ := ha.S.at hxA
   obtain ⟨b'', off', rfl, h2⟩ := hb.S.at hxB
   have hrA : ∀ l, rdN (ap σ l) ⟨b', off + i * 33, none⟩ 33 = some (seaV A.S[i]) := fun l => rdN_old h1
   have hrB : ∀ l, rdN (ap σ l) ⟨b'', off' + i * 33, none⟩ 33 = some (seaV B.S[i]) := fun l => rdN_old h2
   have ee : aggEq [.int .i64, .int .u8, .int .u8, .int .u8, .int .u8, .int .u8, .int .u8, .int .u8, .int .u8, .int .u8, .int .u8, .int .u8, .int .u8, .int .u8, .int .u8, .int .u8, .int .u8, .int .u8, .int .u8, .int .u8, .int .u8, .int .u8, .int .u8, .int .u8, .int .u8, .int .u8, .int .u8, .int .u8, .int .u8, .int .u8, .int .u8, .int .u8, .int .u8] (seaV A.S[i]) (seaV B.S[i]) = some (decide (A.S[i] = B.S[i])) := sea_eq (ha.ok _ (by simp)) (hb.ok _ (by simp))
   by_cases hxy : A.S[i] = B.S[i]
   ·have e4 : decide (A.S[i] = B.S[i]) = true := decide_eq_true hxy
    simp only [↓eD, eZ, ↓reduceIte, Nat.reduceEqDiff, Nat.reduceAdd, Nat.reduceMul, reduceCtorEq, Nat.reduceLeDiff, Int.reduceLT, Int.reduceLE, Int.reduceToNat, Int.reduceEq, Nat.reduceLT, rec18 ha.d, rec18 hb.d, dl, hbd, hbe, Int.toNat_natCast, hrA, hrB, ee, e4, hw, undef_eq]
    refine ⟨hlt, by omega, fun j h1 h2 hj => ?_⟩
    by_cases he : j = i
    ·subst he; exact hxy
    ·exact hall j h1 h2 (by omega)
   ·have e4 : decide (A.S[i] = B.S[i]) = false := decide_eq_false hxy
    have hf : sameL A B = false := decide_eq_false fun h => hxy (by
     have h3 : A.S[i]? = B.S[i]? := by rw [h.2.2.2]
     rw [List.getElem?_eq_getElem hlt, List.getElem?_eq_getElem hltb] at h3
     injection h3)
    simp only [↓eD, eZ, ↓reduceIte, Nat.reduceEqDiff, Nat.reduceAdd, Nat.reduceMul, reduceCtorEq, Nat.reduceLeDiff, Int.reduceLT, Int.reduceLE, Int.reduceToNat, Int.reduceEq, Nat.reduceLT, rec18 ha.d, rec18 hb.d, dl, hbd, hbe, Int.toNat_natCast, hrA, hrB, ee, e4, hw, undef_eq, hf]
    exact ⟨.ap, rfl⟩
  ·have : i = A.S.length := by omega
   subst this
   have dl : decide ((A.S.length : Int) < (A.S.length : Int)) = false := by rw [decide_eq_false]; omega
   have hf : sameL A B = true := decide_eq_true ⟨hfo'.1, hfo'.2.1, hEE, List.ext_getElem q1 fun j h1 h2 => hall j h1 h2 h1⟩
   simp only [↓eD, eZ, ↓reduceIte, Nat.reduceEqDiff, Nat.reduceAdd, Nat.reduceMul, reduceCtorEq, Nat.reduceLeDiff, Int.reduceLT, Int.reduceLE, Int.reduceToNat, Int.reduceEq, Nat.reduceLT, rec18 ha.d, dl, hf, undef_eq]
   exact ⟨.ap, rfl⟩
end Go.Proofs.YtopnlllipkockaaDoor
