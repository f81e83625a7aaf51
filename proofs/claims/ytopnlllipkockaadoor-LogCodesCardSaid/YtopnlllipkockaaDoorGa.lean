/- Walks of the functions that the claim reaches. Conditions: none. -/
import Derived.Test.YtopnlllipkockaaDoorHd
set_option linter.all false
set_option maxRecDepth 10000
set_option maxHeartbeats 4000000
namespace Go.Proofs.YtopnlllipkockaaDoor
open Go Go.Cn Go.RowKit
attribute [local irreducible] evL sem onG onI onV
structure Ent where
 kind : Int
 cpu : Int
 count : Int
 n : Int
 data : ByteArray
def entV (e : Ent) : List Value := [.int .i64 e.kind, .int .i64 e.cpu, .int .i64 e.count, .int .i64 e.n, .string e.data]
def countS (cpu : Int) (n : Int) (e : Ent) : Int := if e.kind = 1 ∧ e.cpu = cpu then IntKind.wrap .i64 (n + e.n) else n
def countF (E : List Ent) (cpu : Int) : Int := E.foldl (countS cpu) 0
theorem count_app {σ : H} {E : List Ent} {sl : Value} {cpu : Int} (hr : Row σ 5 sl (E.map entV)) (hlen : E.length < 9223372036854775808) :
  App Tryd.prog (.func 47) #[] #[sl, .int .i64 cpu] σ fun v σ' => σ' = σ ∧ v = .int .i64 (countF E cpu) := by
 refine App.of_sem mixed Tryd.func47 t47 k47 r47 (Nat.le_of_ble_eq_true rfl) ?_
 obtain ⟨base, cap, rfl⟩ := hr.slice
 simp only [List.length_map] at hr ⊢
 simp only [s47, argsE, Array.append_empty, ↓eD, eZ, ↓reduceIte, Nat.reduceEqDiff, Nat.reduceAdd, Nat.reduceMul, reduceCtorEq, Nat.reduceLeDiff, Int.reduceLT, Int.reduceLE, Int.reduceToNat, Int.reduceEq, Nat.reduceLT]
 refine loop_for (J := fun i e τ => τ = σ ∧ i ≤ E.length ∧ e = [(0, .slice base E.length cap), (1, .int .i64 cpu), (5, .int .i64 (countF (E.take i) cpu)), (6, .int .i64 i)]) E.length ⟨rfl, by omega, rfl⟩ ?_
 rintro i e τ hi ⟨rfl, _, rfl⟩
 simp only [↓eD, eZ, ↓reduceIte, Nat.reduceEqDiff, Nat.reduceAdd, Nat.reduceMul, reduceCtorEq, Nat.reduceLeDiff, Int.reduceLT, Int.reduceLE, Int.reduceToNat, Int.reduceEq, Nat.reduceLT]
 refine onI_dec (fun hlt => ?_) (fun hge => ?_)
 ·skip
  have hlt : i < E.length := by simpa using hlt
  have hx : (E.map entV)[i]? = some (entV E[i]) := by simp [hlt]
  obtain ⟨b, off, rfl, h1⟩ := hr.at hx
  have g0 := rd1_row h1 (j := 0) (v := .int .i64 E[i].kind) rfl
  have g1 := rd1_row h1 (j := 1) (v := .int .i64 E[i].cpu) rfl
  have g3 := rd1_row h1 (j := 3) (v := .int .i64 E[i].n) rfl
  simp only [Nat.add_zero] at g0
  have hb : (0:Int) ≤ (i:Int) ∧ (i:Int) < (E.length : Int) := by omega
  have hs : ∀ q, IntKind.wrap .i64 ((i:Int) + 1) = q → countF (E.take (i + 1)) cpu = countS cpu (countF (E.take i) cpu) E[i] := fun _ _ => by
   unfold countF; rw [List.take_succ_eq_append_getElem hlt, List.foldl_append]; rfl
  have hw : IntKind.wrap .i64 ((i:Int) + 1) = ((i + 1 : Nat) : Int) := by rw [wrap64 (by omega) (by omega)]; omega
  have hs := hs _ hw
  by_cases hk : E[i].kind = 1
  ·by_cases hc : E[i].cpu = cpu
   ·simp only [↓eD, eZ, ↓reduceIte, Nat.reduceEqDiff, Nat.reduceAdd, Nat.reduceMul, reduceCtorEq, Nat.reduceLeDiff, Int.reduceLT, Int.reduceLE, Int.reduceToNat, Int.reduceEq, Nat.reduceLT, hb, and_self, Int.toNat_natCast, g0, g1, g3, hk, hc, hw, hs, countS, hlt]
    omega
   ·simp only [↓eD, eZ, ↓reduceIte, Nat.reduceEqDiff, Nat.reduceAdd, Nat.reduceMul, reduceCtorEq, Nat.reduceLeDiff, Int.reduceLT, Int.reduceLE, Int.reduceToNat, Int.reduceEq, Nat.reduceLT, hb, and_self, Int.toNat_natCast, g0, g1, g3, hk, hc, hw, hs, countS, hlt, and_false]
    omega
  ·simp only [↓eD, eZ, ↓reduceIte, Nat.reduceEqDiff, Nat.reduceAdd, Nat.reduceMul, reduceCtorEq, Nat.reduceLeDiff, Int.reduceLT, Int.reduceLE, Int.reduceToNat, Int.reduceEq, Nat.reduceLT, hb, and_self, Int.toNat_natCast, g0, g1, g3, hk, hw, hs, countS, hlt, false_and]
   omega
 ·have : i = E.length := by omega
  subst this
  simp only [↓eD, eZ, ↓reduceIte, Nat.reduceEqDiff, Nat.reduceAdd, Nat.reduceMul, reduceCtorEq, Nat.reduceLeDiff, Int.reduceLT, Int.reduceLE, Int.reduceToNat, Int.reduceEq, Nat.reduceLT, List.take_length]
def rightF (e : Ent) (cpus : Int) : Bool :=
 if e.cpu < 0 ∨ cpus ≤ e.cpu ∨ e.count < 0 ∨ 1099511627776 < e.count then false
 else if e.kind = 1 then decide (1 ≤ e.n ∧ e.n ≤ 1099511627776 - e.count ∧ e.data.size = 0)
 else if e.kind = 2 then decide (0 ≤ e.n ∧ e.n ≤ 2147483647 ∧ e.data.size = 0)
 else if e.kind = 3 then decide (e.n = 0 ∧ e.data.size = 1)
 else if e.kind = 4 then decide (e.n = 0 ∧ 1 ≤ e.data.size ∧ e.data.size ≤ 512)
 else if e.kind = 5 then decide (0 ≤ e.n ∧ e.n ≤ 7 ∧ e.data.size = 0)
 else false
theorem right_app {e : Ent} {cpus : Int} {σ : H} : App Tryd.prog (.func 14) #[] #[.agg (entV e).toArray, .int .i64 cpus] σ fun v σ' => σ' = σ ∧ v = .bool (rightF e cpus) := by
 refine App.forget (App.of_sem mixed Tryd.func14 t14 k14 r14 (Nat.le_of_ble_eq_true rfl) ?_)
 rw [← ap_nil (σ := σ)]
 simp only [s14, argsE, Array.append_empty, entV, ↓eD, eZ, ↓reduceIte, Nat.reduceEqDiff, Nat.reduceAdd, Nat.reduceMul, reduceCtorEq, Nat.reduceLeDiff, Int.reduceLT, Int.reduceLE, Int.reduceToNat, Int.reduceEq, Nat.reduceLT]
 repeat' (first
  |(refine onG_dec (fun h => ?_) (fun h => ?_) <;> simp only [↓eD, eZ, ↓reduceIte, Nat.reduceEqDiff, Nat.reduceAdd, Nat.reduceMul, reduceCtorEq, Nat.reduceLeDiff, Int.reduceLT, Int.reduceLE, Int.reduceToNat, Int.reduceEq, Nat.reduceLT, h])
  |(refine onI_dec (fun h => ?_) (fun h => ?_) <;> simp only [↓eD, eZ, ↓reduceIte, Nat.reduceEqDiff, Nat.reduceAdd, Nat.reduceMul, reduceCtorEq, Nat.reduceLeDiff, Int.reduceLT, Int.reduceLE, Int.reduceToNat, Int.reduceEq, Nat.reduceLT, h]))
 all_goals
  refine ⟨.ap, rfl, ?_⟩
  congr 1
  have hw : 0 ≤ e.count → e.count ≤ 1099511627776 → IntKind.wrap .i64 (1099511627776 - e.count) = 1099511627776 - e.count := fun _ _ => wrap64 (by omega) (by omega)
  unfold rightF
  grind
theorem aggEq_dig : ∀ {n : Nat} {a b : List Int}, a.length = n → b.length = n → aggEq (List.replicate n (.int .u8)) (digC a) (digC b) = some (decide (a = b))
 |0, [], [], _, _ => rfl
 |n + 1, x :: a, y :: b, h1, h2 => by
  have ih := aggEq_dig (n := n) (a := a) (b := b) (by simpa using h1) (by simpa using h2)
  simp only [digC, List.map_cons] at ih ⊢
  simp only [List.replicate_succ, aggEq, Leaf.fits, leafEq, ih, decide_true, and_self, ↓reduceIte]
  by_cases hx : x = y <;> by_cases ha : a = b <;> simp [hx, ha]
structure IsLog (σ : H) (l : List Value) (d : List Int) (c : Int) (E : List Ent) : Prop where
 len : l.length = 19
 dig : l.take 16 = digC d
 d16 : d.length = 16
 cpus : l[16]? = some (.int .i64 c)
 ents : ∃ sl, l[17]? = some sl ∧ Row σ 5 sl (E.map entV)
 few : E.length < 9223372036854775807
theorem IsLog.Old {σ τ : H} {l : List Value} {d : List Int} {c : Int} {E : List Ent} (h : IsLog σ l d c E) (ho : Old σ τ) : IsLog τ l d c E :=
 ⟨h.len, h.dig, h.d16, h.cpus, let ⟨sl, h1, h2⟩ := h.ents; ⟨sl, h1, h2.Old ho⟩, h.few⟩
structure Sea where
 end_ : Int
 dig : List Int
 seal_ : List Int
def seaV (s : Sea) : List Value := .int .i64 s.end_ :: (digC s.dig ++ digC s.seal_)
def Sea.ok (s : Sea) : Prop := s.dig.length = 16 ∧ s.seal_.length = 16
theorem seaV_len {s : Sea} (h : s.ok) : (seaV s).length = 33 := by simp [seaV, digC, h.1, h.2]
theorem seaV_one {s : Sea} : (seaV s).all Value.oneCell' = true := by simp [seaV, digC_one, Value.oneCell']
structure Lg where
 d : List Int
 c : Int
 E : List Ent
 S : List Sea
structure IsLg (σ : H) (l : List Value) (L : Lg) : Prop where
 log : IsLog σ l L.d L.c L.E
 seals : ∃ sl, l[18]? = some sl ∧ Row σ 33 sl (L.S.map seaV)
 ok : ∀ s ∈ L.S, s.ok
 fewE : L.E.length < 2000000000000
 fewS : L.S.length < 2000000000000
 cap : ∃ sl, l[17]? = some sl ∧ CapOk 5 sl
theorem IsLg.Old {σ τ : H} {l : List Value} {L : Lg} (h : IsLg σ l L) (ho : Old σ τ) : IsLg τ l L :=
 ⟨h.log.Old ho, let ⟨sl, h1, h2⟩ := h.seals; ⟨sl, h1, h2.Old ho⟩, h.ok, h.fewE, h.fewS, h.cap⟩
def zeroL : List Value := [.int .u8 0, .int .u8 0, .int .u8 0, .int .u8 0, .int .u8 0, .int .u8 0, .int .u8 0, .int .u8 0, .int .u8 0, .int .u8 0, .int .u8 0, .int .u8 0, .int .u8 0, .int .u8 0, .int .u8 0, .int .u8 0, .int .i64 0, .slice none 0 0, .slice none 0 0]
def Lg.zero : Lg := ⟨List.replicate 16 0, 0, [], []⟩
theorem IsLg.mk' {σ : H} {d : List Int} {c : Int} {v w : Value} {E : List Ent} {S : List Sea} (hd : d.length = 16) (hv : Row σ 5 v (E.map entV)) (hw : Row σ 33 w (S.map seaV)) (hS : ∀ s ∈ S, s.ok) (h1 : E.length < 2000000000000) (h2 : S.length < 2000000000000) (hc : CapOk 5 v) :
  IsLg σ (digC d ++ [.int .i64 c, v, w]) ⟨d, c, E, S⟩ := by
 have hl : (digC d).length = 16 := by simp [digC, hd]
 refine ⟨⟨by simp [hl], ?_, hd, ?_, ⟨v, ?_, hv⟩, by simp only; omega⟩, ⟨w, ?_, hw⟩, hS, h1, h2, v, ?_, hc⟩
 ·rw [List.take_left' hl]
 ·rw [List.getElem?_append_right (by omega), hl]; rfl
 ·rw [List.getElem?_append_right (by omega), hl]; rfl
 ·rw [List.getElem?_append_right (by omega), hl]; rfl
 ·rw [List.getElem?_append_right (by omega), hl]; rfl
theorem IsLg.eq {σ : H} {l : List Value} {L : Lg} (h : IsLg σ l L) : ∃ v w, l = digC L.d ++ [Value.int .i64 L.c, v, w] ∧ Row σ 5 v (L.E.map entV) ∧ Row σ 33 w (L.S.map seaV) := by
 obtain ⟨v, h1, h2⟩ := h.log.ents
 obtain ⟨w, h3, h4⟩ := h.seals
 refine ⟨v, w, ?_, h2, h4⟩
 rw [← h.log.dig]
 have hl := h.log.len
 conv => lhs; rw [← List.take_append_drop 16 l]
 congr 1
 rw [List.drop_eq_getElem_cons (by omega), List.drop_eq_getElem_cons (by omega), List.drop_eq_getElem_cons (by omega), List.drop_of_length_le (by omega)]
 have e1 := h.log.cpus
 rw [List.getElem?_eq_getElem (by omega)] at e1 h1 h3
 injection e1 with e1
 injection h1 with h1
 injection h3 with h3
 rw [e1, h1, h3]
def recC (d : List Int) (c : Int) (v w : Value) : List Value := digC d ++ [Value.int .i64 c, v, w]
section
variable {d : List Int} (hd : d.length = 16) {c : Int} {v w x : Value}
include hd
theorem digC_len : (digC d).length = 16 := by simp [digC, hd]
theorem rec_len : (recC d c v w).length = 19 := by simp [recC, digC, hd]
theorem rec16 : (recC d c v w)[16]? = some (.int .i64 c) := by rw [recC, List.getElem?_append_right (by rw [digC_len hd]; omega), digC_len hd]; rfl
theorem rec17 : (recC d c v w)[17]? = some v := by rw [recC, List.getElem?_append_right (by rw [digC_len hd]; omega), digC_len hd]; rfl
theorem rec18 : (recC d c v w)[18]? = some w := by rw [recC, List.getElem?_append_right (by rw [digC_len hd]; omega), digC_len hd]; rfl
theorem rec_s17 : (recC d c v w).set 17 x = recC d c x w := by simp [recC, List.set_append, digC_len hd]
theorem rec_s18 : (recC d c v w).set 18 x = recC d c v x := by simp [recC, List.set_append, digC_len hd]
theorem rec_take : (recC d c v w).take 19 = recC d c v w := List.take_of_length_le (by rw [rec_len hd]; omega)
theorem rec_take16 : (recC d c v w).take 16 = digC d := by rw [recC, List.take_left' (digC_len hd)]
theorem rec_sets {z : List Value} (hz : z.length = 19) : sets z 0 (recC d c v w) = recC d c v w := by
 rw [sets_all (by rw [rec_len hd]; omega), rec_len hd]; simp [hz]
theorem rec_sets21 {a b e f g h i j k l m n o p q r s t u y z : Value} : sets [a, b, e, f, g, h, i, j, k, l, m, n, o, p, q, r, s, t, u, y, z] 0 (recC d c v w) = recC d c v w ++ [y, z] := by
 rw [sets_all (by simp [rec_len hd]), rec_len hd]; simp
theorem rec_build {a b e f g h i j k l m n o p q r : Value} : sets [a, b, e, f, g, h, i, j, k, l, m, n, o, p, q, r, .int .i64 0, v, w] 0 (digC d) = recC d 0 v w := by
 rw [sets_all (by simp [digC_len hd]), digC_len hd]; simp [recC]
theorem rec_s16 {y : Int} : (recC d c v w).set 16 (.int .i64 y) = recC d y v w := by simp [recC, List.set_append, digC_len hd]
end
theorem rec_one {d : List Int} {c : Int} {a a' : Option Addr} {b b' e e' : Nat} : (recC d c (.slice a b e) (.slice a' b' e')).all Value.oneCell' = true := by
 simp only [recC, List.all_append, digC_one, List.all_cons, List.all_nil]; rfl
theorem rec_one2 {d : List Int} {c : Int} {a a' : Option Addr} {b b' e e' : Nat} {y z : Int} : (recC d c (.slice a b e) (.slice a' b' e') ++ [Value.int .i64 y, Value.int .i64 z]).all Value.oneCell' = true := by
 rw [List.all_append, rec_one]; rfl
theorem rec_ne {d : List Int} {c : Int} {v w : Value} : (recC d c v w = []) = False := by simp [recC]
theorem rec_ne1 {d : List Int} {c : Int} {v w : Value} {r : List Value} : (recC d c v w ++ r = []) = False := by simp [recC]
theorem zeroL_rec : zeroL = recC (List.replicate 16 0) 0 (.slice none 0 0) (.slice none 0 0) := rfl
theorem IsLg.recs {σ : H} {l : List Value} {L : Lg} (h : IsLg σ l L) : ∃ a b a' b', l = recC L.d L.c (.slice a L.E.length b) (.slice a' L.S.length b') ∧ Row σ 5 (.slice a L.E.length b) (L.E.map entV) ∧ Row σ 33 (.slice a' L.S.length b') (L.S.map seaV) ∧ CapOk 5 (.slice a L.E.length b) := by
 obtain ⟨v, w, rfl, hv, hw⟩ := h.eq
 have hcap : CapOk 5 v := by
  obtain ⟨sl, h1, h2⟩ := h.cap
  have : (digC L.d).length = 16 := by simp [digC, h.log.d16]
  rw [List.getElem?_append_right (by omega), this] at h1
  injection h1 with h1; subst h1; exact h2
 obtain ⟨a, b, rfl⟩ := hv.slice
 obtain ⟨a', b', rfl⟩ := hw.slice
 simp only [List.length_map] at hv hw hcap ⊢
 exact ⟨a, b, a', b', rfl, hv, hw, hcap⟩
def intsF (l : List Int) : List Int := intF l.length ++ l.flatMap intF
theorem ints_app {σ : H} {sl : Value} {l : List Int} (hr : Whl σ 1 sl l.length (i64C l)) (hl : l.length < 10000000000) :
  App Tryd.prog (.func 54) #[] #[sl] σ fun v σ' => Old σ σ' ∧ Grown σ σ' 1 v (digC (intsF l)) (intsF l).length := by
 refine App.of_sem mixed Tryd.func54 t54 k54 r54 (Nat.le_of_ble_eq_true rfl) ?_
 obtain ⟨base, cp, rfl⟩ := hr.slice
 unfold s54
 have e0 : ap σ [] = σ := ap_nil
 rw [← e0]
 simp only [↓eD, eZ, ↓reduceIte, Nat.reduceEqDiff, Nat.reduceAdd, Nat.reduceMul, reduceCtorEq, Nat.reduceLeDiff, Int.reduceLT, Int.reduceLE, Int.reduceToNat, Int.reduceEq, Nat.reduceLT]
 refine appK_of int_app ?_
 rintro v σ1 ⟨ho1, hg1⟩
 simp only [↓eD, eZ, ↓reduceIte, Nat.reduceEqDiff, Nat.reduceAdd, Nat.reduceMul, reduceCtorEq, Nat.reduceLeDiff, Int.reduceLT, Int.reduceLE, Int.reduceToNat, Int.reduceEq, Nat.reduceLT]
 refine loop_for (J := fun i e τ => i ≤ l.length ∧ ∃ v, e = [(0, .slice base l.length cp), (3, v), (4, .int .i64 i)] ∧ Old σ τ ∧ Grown σ τ 1 v (digC (intF l.length ++ (l.take i).flatMap intF)) (intF l.length ++ (l.take i).flatMap intF).length) l.length
  ⟨by omega, v, rfl, Old.ap.trans ho1, by simpa using hg1.from (by simp [ap_size])⟩ ?_
 rintro i e τ hi ⟨_, v, rfl, ho, hg⟩
 have e1 : ap τ [] = τ := ap_nil
 rw [← e1]
 simp only [↓eD, eZ, ↓reduceIte, Nat.reduceEqDiff, Nat.reduceAdd, Nat.reduceMul, reduceCtorEq, Nat.reduceLeDiff, Int.reduceLT, Int.reduceLE, Int.reduceToNat, Int.reduceEq, Nat.reduceLT]
 refine onI_dec (fun hlt => ?_) (fun hge => ?_)
 ·have hlt : i < l.length := by omega
  obtain ⟨b, off, rfl, h1⟩ := hr.at (by omega)
  have hrd : ∀ L, rd1 (ap τ L) ⟨b, off + i, none⟩ = some (.int .i64 l[i]) := fun L => rd1_Old (ho.trans .ap) (rd1_row h1 (by simp [i64C, hlt]))
  have hb : (0:Int) ≤ (i:Int) ∧ (i:Int) < (l.length : Int) := by omega
  have hw : IntKind.wrap .i64 ((i:Int) + 1) = ((i + 1 : Nat) : Int) := by rw [wrap64 (by omega) (by omega)]; omega
  simp only [↓eD, eZ, ↓reduceIte, Nat.reduceEqDiff, Nat.reduceAdd, Nat.reduceMul, reduceCtorEq, Nat.reduceLeDiff, Int.reduceLT, Int.reduceLE, Int.reduceToNat, Int.reduceEq, Nat.reduceLT, hb, Int.toNat_natCast, hrd]
  refine appK_of int_app ?_
  rintro w τ2 ⟨ho2, hg2⟩
  simp only [↓eD, eZ, ↓reduceIte, Nat.reduceEqDiff, Nat.reduceAdd, Nat.reduceMul, reduceCtorEq, Nat.reduceLeDiff, Int.reduceLT, Int.reduceLE, Int.reduceToNat, Int.reduceEq, Nat.reduceLT]
  have hlen := flat_len (f := intF) (l := l) (i := i) fun x => intF_len
  have hlen2 : (intF l.length).length ≤ 10 := intF_len
  have hlen3 : (intF l[i]).length ≤ 10 := intF_len
  have hoo : Old σ τ2 := (ho.trans .ap).trans ho2
  have hgg := (hg.old (Old.ap (l := []))).old ho2
  obtain ⟨v', τ', ha, hA⟩ := append_bytes (new := intF l[i]) hgg hoo.1 hg2.whl.x (by rw [List.length_append]; omega)
  refine onV_of ha ?_
  simp only [↓eD, eZ, ↓reduceIte, Nat.reduceEqDiff, Nat.reduceAdd, Nat.reduceMul, reduceCtorEq, Nat.reduceLeDiff, Int.reduceLT, Int.reduceLE, Int.reduceToNat, Int.reduceEq, Nat.reduceLT, hw]
  refine ⟨hlt, by omega, v', rfl, hA.Old hgg hoo, ?_⟩
  rw [flat_take hlt, ← List.append_assoc]
  exact hA.grown
 ·have : i = l.length := by omega
  subst this
  simp only [↓eD, eZ, ↓reduceIte, Nat.reduceEqDiff, Nat.reduceAdd, Nat.reduceMul, reduceCtorEq, Nat.reduceLeDiff, Int.reduceLT, Int.reduceLE, Int.reduceToNat, Int.reduceEq, Nat.reduceLT]
  rw [List.take_length] at hg
  exact ⟨ho.trans .ap, hg.old .ap⟩
@[irreducible] def beginF (d : List Int) (c : Int) : List Int := ofF 293 [bytesS d, bytesS (intF c)]
theorem beginF_len {d : List Int} {c : Int} : (beginF d c).length = 16 := by rw [beginF]; exact ofF_len
@[irreducible] def nextF (d : List Int) (e : Ent) : List Int := ofF 290 [bytesS d, bytesS (intsF [e.kind, e.cpu, e.count, e.n]), e.data]
theorem nextF_len {d : List Int} {e : Ent} : (nextF d e).length = 16 := by rw [nextF]; exact ofF_len
def chainF (d : List Int) (c : Int) (E : List Ent) (n : Nat) : List Int := (E.take n).foldl nextF (beginF d c)
theorem chainF_len {d : List Int} {c : Int} {E : List Ent} {n : Nat} : (chainF d c E n).length = 16 := by
 unfold chainF
 have : ∀ (l : List Ent) (x : List Int), x.length = 16 → (l.foldl nextF x).length = 16 := by
  intro l
  induction l with
  |nil => intro x h; exact h
  |cons e l ih => intro x _; exact ih _ nextF_len
 exact this _ _ beginF_len
theorem bytesS_size {d : List Int} : (bytesS d).size = d.length := by simp [bytesS, ByteArray.size]
theorem varF_pos {f : Nat} {z : Int} : 0 < (varF (f + 1) z).length := by rw [varF]; split <;> simp
theorem intF_pos {n : Int} : 0 < (intF n).length := varF_pos
theorem intsF_len {l : List Int} : (intsF l).length ≤ 10 + l.length * 10 := by
 rw [intsF, List.length_append]
 have := flat_len (f := intF) (l := l) (i := l.length) fun x => intF_len
 rw [List.take_length] at this
 have h2 : (intF l.length).length ≤ 10 := intF_len
 omega
theorem intsF_pos {l : List Int} : 0 < (intsF l).length := by rw [intsF, List.length_append]; have := intF_pos (n := l.length); omega
theorem whl_lit {σ : H} {b ver n : Nat} {cs : List Value} (h : σ[b]? = some (.cells ver cs (0, 0))) (hc : cs.length = n) (hn : n < big) : Whl σ 1 (.slice (some ⟨b, 0, none⟩) n n) n cs :=
 ⟨by omega, .inr ⟨b, 0, n, rfl, ⟨by rw [capLow_small hn]; exact Nat.le_refl _, .inl (csz_small hn)⟩, by rw [Nat.mul_one]; exact rdN_all h hc⟩⟩
theorem rbegin_app {σ : H} {d : List Int} {c : Int} (hd : d.length = 16) (hG : Glob σ) :
  App Tryd.prog (.func 18) #[] #[.agg (digC d).toArray, .int .i64 c] σ fun v σ' => σ' = σ ∧ v = .agg (digC (beginF d c)).toArray := by
 refine App.forget (App.of_sem mixed Tryd.func18 t18 k18 r18 (Nat.le_of_ble_eq_true rfl) ?_)
 unfold s18
 have e0 : ap σ [] = σ := ap_nil
 have hd' := digC_len hd
 have td := digC_take hd
 rw [← e0]
 simp only [↓eD, eZ, ↓reduceIte, Nat.reduceEqDiff, Nat.reduceAdd, Nat.reduceMul, reduceCtorEq, Nat.reduceLeDiff, Int.reduceLT, Int.reduceLE, Int.reduceToNat, Int.reduceEq, Nat.reduceLT, hd', td]
 refine appK_at (digs_app hd) ?_
 simp only [↓eD, eZ, ↓reduceIte, Nat.reduceEqDiff, Nat.reduceAdd, Nat.reduceMul, reduceCtorEq, Nat.reduceLeDiff, Int.reduceLT, Int.reduceLE, Int.reduceToNat, Int.reduceEq, Nat.reduceLT, hd', td]
 refine appK_of int_app ?_
 rintro v σ1 ⟨ho1, hg1⟩
 obtain ⟨bs, cc, rfl⟩ := hg1.slice
 have e1 : ap σ1 [] = σ1 := ap_nil
 obtain ⟨bk, off, rfl, h2⟩ := (hg1.old (Old.ap (l := []))).whl.at intF_pos
 rw [Nat.mul_one] at h2
 rw [← e1]
 simp only [↓eD, eZ, ↓reduceIte, Nat.reduceEqDiff, Nat.reduceAdd, Nat.reduceMul, reduceCtorEq, Nat.reduceLeDiff, Int.reduceLT, Int.reduceLE, Int.reduceToNat, Int.reduceEq, Nat.reduceLT, h2, Option.bind_some, bytesOf_dig]
 have hstr : ByteArray.mk ((intF c).map fun x => UInt8.ofNat x.toNat).toArray = bytesS (intF c) := rfl
 rw [hstr]
 have hs2 : ∀ s ∈ [bytesS d, bytesS (intF c)], s.size < 100000000000 := by
  intro s hs
  have h10 : (intF c).length ≤ 10 := intF_len
  simp only [List.mem_cons, List.not_mem_nil, or_false] at hs
  rcases hs with rfl | rfl
  ·rw [bytesS_size]; omega
  ·rw [bytesS_size]; omega
 refine appK_at (of_app (l := [bytesS d, bytesS (intF c)]) (whl_lit (ver := 0) (by rw [ap_new0]; rfl) rfl (by decide)) (by simp) hs2 (hG.Old ((Old.ap.trans ho1).trans .ap))) ?_
 have hz : σ1[σ.size + 1]? = some (.cells 0 (digC (List.replicate 16 0)) (0, 0)) := (ho1.2 _ (by simp [ap_size])).trans (by rw [ap_new]; rfl)
 have hlt : σ.size + 1 < σ1.size := (Array.getElem?_eq_some_iff.1 hz).1
 have hz' : ∀ L, (ap σ1 L)[σ.size + 1]? = some (.cells 0 (digC (List.replicate 16 0)) (0, 0)) := fun L => (ap_old hlt).trans hz
 have hof : ofF 293 [bytesS d, bytesS (intF c)] = beginF d c := by rw [beginF]
 have t16 := digC_take (l := beginF d c) beginF_len
 have u16 := digC_sets (z := List.replicate 16 0) (l := beginF d c) (by simp [beginF_len])
 have m16 := digC_ne' (l := beginF d c) beginF_len (by omega)
 have w2 : ∀ L, wrN (ap σ1 L) ⟨σ.size + 1, 0, none⟩ (digC (beginF d c)) = some ((ap σ1 L).setIfInBounds (σ.size + 1) (.cells 1 (digC (beginF d c)) (0, 0))) := fun L => by
  rw [wrN_eq, if_neg (by rw [m16]; exact id), hz', wrc_cells, u16, if_pos ⟨by simp [digC_length, beginF_len], digC_one⟩]; rfl
 have r2 : ∀ L, rdN ((ap σ1 L).setIfInBounds (σ.size + 1) (.cells 1 (digC (beginF d c)) (0, 0))) ⟨σ.size + 1, 0, none⟩ 16 = some (digC (beginF d c)) := fun L => rdN_all (get_set (hz' L)) (by rw [digC_length, beginF_len])
 simp only [↓eD, eZ, ↓reduceIte, Nat.reduceEqDiff, Nat.reduceAdd, Nat.reduceMul, reduceCtorEq, Nat.reduceLeDiff, Int.reduceLT, Int.reduceLE, Int.reduceToNat, Int.reduceEq, Nat.reduceLT, hof, digC_length, beginF_len, t16, w2, r2]
 exact ⟨((Old.ap.trans ho1).trans .ap).set (by omega), flat_dig⟩
theorem next_digest_app {σ : H} {d : List Int} {e : Ent} (hd : d.length = 16) (he : e.data.size < 100000000000) (hG : Glob σ) :
  App Tryd.prog (.func 20) #[] #[.agg (digC d).toArray, .agg (entV e).toArray] σ fun v σ' => σ' = σ ∧ v = .agg (digC (nextF d e)).toArray := by
 refine App.forget (App.of_sem mixed Tryd.func20 t20 k20 r20 (Nat.le_of_ble_eq_true rfl) ?_)
 unfold s20
 have e0 : ap σ [] = σ := ap_nil
 have hd' := digC_len hd
 have td := digC_take hd
 have rep4 : List.replicate 4 (Value.int .i64 0) = [.int .i64 0, .int .i64 0, .int .i64 0, .int .i64 0] := rfl
 rw [← e0]
 simp only [↓eD, eZ, ↓reduceIte, Nat.reduceEqDiff, Nat.reduceAdd, Nat.reduceMul, reduceCtorEq, Nat.reduceLeDiff, Int.reduceLT, Int.reduceLE, Int.reduceToNat, Int.reduceEq, Nat.reduceLT, hd', td, entV, rep4]
 refine appK_at (digs_app hd) ?_
 simp only [↓eD, eZ, ↓reduceIte, Nat.reduceEqDiff, Nat.reduceAdd, Nat.reduceMul, reduceCtorEq, Nat.reduceLeDiff, Int.reduceLT, Int.reduceLE, Int.reduceToNat, Int.reduceEq, Nat.reduceLT, hd', td, entV, rep4]
 refine appK_of (ints_app (l := [e.kind, e.cpu, e.count, e.n]) (whl_lit (ver := 0) (by rw [ap_new]; rfl) rfl (by decide)) (by simp)) ?_
 rintro v σ1 ⟨ho1, hg1⟩
 obtain ⟨bs, cc, rfl⟩ := hg1.slice
 have e1 : ap σ1 [] = σ1 := ap_nil
 obtain ⟨bk, off, rfl, h2⟩ := (hg1.old (Old.ap (l := []))).whl.at intsF_pos
 rw [Nat.mul_one] at h2
 have hz : σ1[σ.size + 2]? = some (.cells 0 (digC (List.replicate 16 0)) (0, 0)) := (ho1.2 _ (by simp [ap_size])).trans (by rw [ap_new]; rfl)
 have hE : σ1[σ.size + 1]? = some (.cells 0 (entV e) (0, 0)) := (ho1.2 _ (by simp [ap_size])).trans (by rw [ap_new]; rfl)
 have hlt : σ.size + 2 < σ1.size := (Array.getElem?_eq_some_iff.1 hz).1
 have hz' : ∀ L, (ap σ1 L)[σ.size + 2]? = some (.cells 0 (digC (List.replicate 16 0)) (0, 0)) := fun L => (ap_old hlt).trans hz
 have hE4 : ∀ L, rd1 (ap σ1 L) ⟨σ.size + 1, 4, none⟩ = some (.string e.data) := fun L => by rw [rd1_eq, ap_old (b := σ.size + 1) (by omega), hE]; rfl
 rw [← e1]
 simp only [↓eD, eZ, ↓reduceIte, Nat.reduceEqDiff, Nat.reduceAdd, Nat.reduceMul, reduceCtorEq, Nat.reduceLeDiff, Int.reduceLT, Int.reduceLE, Int.reduceToNat, Int.reduceEq, Nat.reduceLT, h2, Option.bind_some, bytesOf_dig, hE4]
 have hstr : ByteArray.mk ((intsF [e.kind, e.cpu, e.count, e.n]).map fun x => UInt8.ofNat x.toNat).toArray = bytesS (intsF [e.kind, e.cpu, e.count, e.n]) := rfl
 rw [hstr]
 have hs2 : ∀ s ∈ [bytesS d, bytesS (intsF [e.kind, e.cpu, e.count, e.n]), e.data], s.size < 100000000000 := by
  intro s hs
  have h10 : (intsF [e.kind, e.cpu, e.count, e.n]).length ≤ 50 := intsF_len
  simp only [List.mem_cons, List.not_mem_nil, or_false] at hs
  rcases hs with rfl | rfl | rfl
  ·rw [bytesS_size]; omega
  ·rw [bytesS_size]; omega
  ·exact he
 refine appK_at (of_app (l := [bytesS d, bytesS (intsF [e.kind, e.cpu, e.count, e.n]), e.data]) (whl_lit (ver := 0) (by rw [ap_new0]; rfl) rfl (by decide)) (by simp) hs2 (hG.Old ((Old.ap.trans ho1).trans .ap))) ?_
 have hof : ofF 290 [bytesS d, bytesS (intsF [e.kind, e.cpu, e.count, e.n]), e.data] = nextF d e := by rw [nextF]
 have t16 := digC_take (l := nextF d e) nextF_len
 have u16 := digC_sets (z := List.replicate 16 0) (l := nextF d e) (by simp [nextF_len])
 have m16 := digC_ne' (l := nextF d e) nextF_len (by omega)
 have w2 : ∀ L, wrN (ap σ1 L) ⟨σ.size + 2, 0, none⟩ (digC (nextF d e)) = some ((ap σ1 L).setIfInBounds (σ.size + 2) (.cells 1 (digC (nextF d e)) (0, 0))) := fun L => by
  rw [wrN_eq, if_neg (by rw [m16]; exact id), hz', wrc_cells, u16, if_pos ⟨by simp [digC_length, nextF_len], digC_one⟩]; rfl
 have r2 : ∀ L, rdN ((ap σ1 L).setIfInBounds (σ.size + 2) (.cells 1 (digC (nextF d e)) (0, 0))) ⟨σ.size + 2, 0, none⟩ 16 = some (digC (nextF d e)) := fun L => rdN_all (get_set (hz' L)) (by rw [digC_length, nextF_len])
 simp only [↓eD, eZ, ↓reduceIte, Nat.reduceEqDiff, Nat.reduceAdd, Nat.reduceMul, reduceCtorEq, Nat.reduceLeDiff, Int.reduceLT, Int.reduceLE, Int.reduceToNat, Int.reduceEq, Nat.reduceLT, hof, digC_length, nextF_len, t16, w2, r2]
 exact ⟨((Old.ap.trans ho1).trans .ap).set (by simp [ap_size]), flat_dig⟩
theorem chainF_succ {d : List Int} {c : Int} {E : List Ent} {n : Nat} (h : n < E.length) : chainF d c E (n + 1) = nextF (chainF d c E n) E[n] := by
 unfold chainF
 rw [List.take_succ_eq_append_getElem h, List.foldl_append]; rfl
theorem chain_app {σ : H} {l : List Value} {L : Lg} {n : Nat} (h : IsLg σ l L) (hn : n ≤ L.E.length) (hs : ∀ e ∈ L.E, e.data.size < 100000000000) (hG : Glob σ) :
  App Tryd.prog (.func 31) #[] #[.agg l.toArray, .int .i64 n] σ fun v σ' => σ' = σ ∧ v = .agg (digC (chainF L.d L.c L.E n)).toArray := by
 refine App.forget (App.of_sem mixed Tryd.func31 t31 k31 r31 (Nat.le_of_ble_eq_true rfl) ?_)
 obtain ⟨a1, b1, a2, b2, rfl, hv, hw, hcap⟩ := h.recs
 have hd := h.log.d16
 unfold s31
 have e0 : ap σ [] = σ := ap_nil
 rw [← e0]
 simp only [↓eD, eZ, ↓reduceIte, Nat.reduceEqDiff, Nat.reduceAdd, Nat.reduceMul, reduceCtorEq, Nat.reduceLeDiff, Int.reduceLT, Int.reduceLE, Int.reduceToNat, Int.reduceEq, Nat.reduceLT, rec16 hd, rec_take16 hd, rec_len hd]
 refine appK_at (rbegin_app hd (hG.Old .ap)) ?_
 have t16 := digC_take (l := beginF L.d L.c) beginF_len
 have u16 := digC_sets (z := List.replicate 16 0) (l := beginF L.d L.c) (by simp [beginF_len])
 have m16 := digC_ne' (l := beginF L.d L.c) beginF_len (by omega)
 simp only [↓eD, eZ, ↓reduceIte, Nat.reduceEqDiff, Nat.reduceAdd, Nat.reduceMul, reduceCtorEq, Nat.reduceLeDiff, Int.reduceLT, Int.reduceLE, Int.reduceToNat, Int.reduceEq, Nat.reduceLT, digC_rep, digC_length, beginF_len, t16, u16, m16, digC_one, List.length_replicate]
 have hfe := h.fewE
 refine loop_for (J := fun i e τ => i ≤ n ∧ ∃ ver, e = [(1, .int .i64 n), (2, .pointer (some ⟨σ.size, 0, none⟩)), (4, .pointer (some ⟨σ.size + 1, 0, none⟩)), (5, .pointer (some ⟨σ.size + 2, 0, none⟩)), (6, .int .i64 i)] ∧
   τ = ap σ [.cells 0 (recC L.d L.c (.slice a1 L.E.length b1) (.slice a2 L.S.length b2)) (0, 0), .cells 0 (digC (List.replicate 16 0)) (0, 0), .cells ver (digC (chainF L.d L.c L.E i)) (0, 0)]) n
  ⟨by omega, 1, rfl, rfl⟩ ?_
 rintro i e τ hi ⟨_, ver, rfl, rfl⟩
 simp only [↓eD, eZ, ↓reduceIte, Nat.reduceEqDiff, Nat.reduceAdd, Nat.reduceMul, reduceCtorEq, Nat.reduceLeDiff, Int.reduceLT, Int.reduceLE, Int.reduceToNat, Int.reduceEq, Nat.reduceLT]
 refine onI_dec (fun hlt => ?_) (fun hge => ?_)
 ·have hlt : i < n := by omega
  have hi2 : i < L.E.length := by omega
  have hx : (L.E.map entV)[i]? = some (entV L.E[i]) := by simp [hi2]
  obtain ⟨b', off, rfl, h1⟩ := hv.at hx
  have hr : ∀ l, rdN (ap σ l) ⟨b', off + i * 5, none⟩ 5 = some (entV L.E[i]) := fun l => rdN_old h1
  have hb : (0:Int) ≤ (i:Int) ∧ (i:Int) < (L.E.length : Int) := by omega
  have hw' : IntKind.wrap .i64 ((i:Int) + 1) = ((i + 1 : Nat) : Int) := by rw [wrap64 (by omega) (by omega)]; omega
  have t1 := digC_take (l := chainF L.d L.c L.E i) chainF_len
  simp only [↓eD, eZ, ↓reduceIte, Nat.reduceEqDiff, Nat.reduceAdd, Nat.reduceMul, reduceCtorEq, Nat.reduceLeDiff, Int.reduceLT, Int.reduceLE, Int.reduceToNat, Int.reduceEq, Nat.reduceLT, rec17 hd, hb, Int.toNat_natCast, hr, digC_length, chainF_len, t1]
  refine appK_at (next_digest_app chainF_len (hs _ (by simp)) (hG.Old .ap)) ?_
  rw [← chainF_succ (by omega)]
  have t2 := digC_take (l := chainF L.d L.c L.E (i + 1)) chainF_len
  have u2 := digC_sets (z := chainF L.d L.c L.E i) (l := chainF L.d L.c L.E (i + 1)) (by rw [chainF_len, chainF_len])
  have m2 := digC_ne' (l := chainF L.d L.c L.E (i + 1)) chainF_len (by omega)
  simp only [↓eD, eZ, ↓reduceIte, Nat.reduceEqDiff, Nat.reduceAdd, Nat.reduceMul, reduceCtorEq, Nat.reduceLeDiff, Int.reduceLT, Int.reduceLE, Int.reduceToNat, Int.reduceEq, Nat.reduceLT, digC_length, chainF_len, t2, u2, m2, digC_one, hw']
  exact ⟨hlt, by omega, ver + 1, rfl⟩
 ·have : i = n := by omega
  subst this
  have t2 := digC_take (l := chainF L.d L.c L.E i) chainF_len
  have u2 := digC_sets (z := List.replicate 16 0) (l := chainF L.d L.c L.E i) (by simp [chainF_len])
  have m2 := digC_ne' (l := chainF L.d L.c L.E i) chainF_len (by omega)
  simp only [↓eD, eZ, ↓reduceIte, Nat.reduceEqDiff, Nat.reduceAdd, Nat.reduceMul, reduceCtorEq, Nat.reduceLeDiff, Int.reduceLT, Int.reduceLE, Int.reduceToNat, Int.reduceEq, Nat.reduceLT, digC_length, chainF_len, t2, u2, m2, digC_one, List.length_replicate]
  exact ⟨.ap, flat_dig⟩
def rightsF (L : Lg) : Prop := ∀ k, ∀ h : k < L.E.length, rightF L.E[k] L.c = true ∧ L.E[k].count = countF (L.E.take k) L.E[k].cpu
def chkE (L : Lg) : Nat → Nat → Bool
 |0, _ => true
 |f + 1, k => match L.E[k]? with
  |none => true
  |some e => if rightF e L.c = true ∧ e.count = countF (L.E.take k) e.cpu then chkE L f (k + 1) else false
def chkS (n : Nat) : List Sea → Int → Bool
 |[], _ => true
 |s :: r, e => if s.end_ ≤ e ∨ (n : Int) < s.end_ then false else chkS n r s.end_
def chkD (L : Lg) : List Sea → Bool
 |[] => true
 |s :: r => if s.dig = chainF L.d L.c L.E s.end_.toNat then chkD L r else false
def checkF (L : Lg) : Int :=
 if L.c < 1 ∨ 4 < L.c then 1
 else if 4096 < L.E.length ∨ 256 < L.S.length then 2
 else if chkE L L.E.length 0 = false then 3
 else if chkS L.E.length L.S 0 = false then 3
 else if chkD L L.S = false then 290
 else 0
theorem rightF_size {e : Ent} {c : Int} (h : rightF e c = true) : e.data.size ≤ 512 := by
 unfold rightF at h
 grind
theorem chkE_data {L : Lg} : ∀ {f k : Nat}, k + f = L.E.length → chkE L f k = true → ∀ j, k ≤ j → ∀ hj : j < L.E.length, rightF L.E[j] L.c = true ∧ L.E[j].count = countF (L.E.take j) L.E[j].cpu
 |0, k, hk, _, j, h1, hj => by omega
 |f + 1, k, hk, h, j, h1, hj => by
  have hlt : k < L.E.length := by omega
  rw [chkE, List.getElem?_eq_getElem hlt] at h
  simp only at h
  split at h
  ·rename_i hc
   rcases Nat.eq_or_lt_of_le h1 with rfl | h2
   ·exact hc
   ·exact chkE_data (f := f) (k := k + 1) (by omega) h j h2 hj
  ·cases h
theorem chkS_bounds {n : Nat} : ∀ {S : List Sea} {e : Int}, 0 ≤ e → chkS n S e = true → ∀ s ∈ S, 0 ≤ s.end_ ∧ s.end_ ≤ n
 |[], _, _, _, s, hs => by simp at hs
 |a :: S, e, he, h, s, hs => by
  rw [chkS] at h
  split at h
  ·cases h
  ·rename_i hc
   rcases List.mem_cons.1 hs with rfl | hs
   ·omega
   ·exact chkS_bounds (by omega) h s hs
theorem check_app {σ : H} {l : List Value} {L : Lg} (h : IsLg σ l L) (hG : Glob σ) :
  App Tryd.prog (.func 16) #[] #[.agg l.toArray] σ fun v σ' => σ' = σ ∧ v = .int .i64 (checkF L) := by
 refine App.forget (App.of_sem mixed Tryd.func16 t16 k16 r16 (Nat.le_of_ble_eq_true rfl) ?_)
 obtain ⟨a1, b1, a2, b2, rfl, hv, hw, hcap⟩ := h.recs
 have hd := h.log.d16
 unfold s16
 have e0 : ap σ [] = σ := ap_nil
 rw [← e0]
 have hfe := h.fewE
 have hfs := h.fewS
 simp only [↓eD, eZ, ↓reduceIte, Nat.reduceEqDiff, Nat.reduceAdd, Nat.reduceMul, reduceCtorEq, Nat.reduceLeDiff, Int.reduceLT, Int.reduceLE, Int.reduceToNat, Int.reduceEq, Nat.reduceLT, rec16 hd]
 by_cases hc1 : L.c < 1
 ·simp only [↓eD, eZ, ↓reduceIte, Nat.reduceEqDiff, Nat.reduceAdd, Nat.reduceMul, reduceCtorEq, Nat.reduceLeDiff, Int.reduceLT, Int.reduceLE, Int.reduceToNat, Int.reduceEq, Nat.reduceLT, hc1, rec16 hd]
  exact ⟨.ap, by simp [flat], by simp [checkF, hc1]⟩
 by_cases hc2 : 4 < L.c
 ·simp only [↓eD, eZ, ↓reduceIte, Nat.reduceEqDiff, Nat.reduceAdd, Nat.reduceMul, reduceCtorEq, Nat.reduceLeDiff, Int.reduceLT, Int.reduceLE, Int.reduceToNat, Int.reduceEq, Nat.reduceLT, hc1, hc2, rec16 hd]
  exact ⟨.ap, by simp [flat], by simp [checkF, hc2]⟩
 simp only [↓eD, eZ, ↓reduceIte, Nat.reduceEqDiff, Nat.reduceAdd, Nat.reduceMul, reduceCtorEq, Nat.reduceLeDiff, Int.reduceLT, Int.reduceLE, Int.reduceToNat, Int.reduceEq, Nat.reduceLT, hc1, hc2, rec16 hd, rec17 hd, rec18 hd]
 by_cases hn1 : (4096 : Int) < (L.E.length : Int)
 ·simp only [↓eD, eZ, ↓reduceIte, Nat.reduceEqDiff, Nat.reduceAdd, Nat.reduceMul, reduceCtorEq, Nat.reduceLeDiff, Int.reduceLT, Int.reduceLE, Int.reduceToNat, Int.reduceEq, Nat.reduceLT, hc1, hc2, hn1, rec16 hd, rec17 hd, rec18 hd]
  exact ⟨.ap, by simp [flat], by simp only [checkF, hc1, hc2, or_self, if_false]; rw [if_pos (by omega)]⟩
 by_cases hn2 : (256 : Int) < (L.S.length : Int)
 ·simp only [↓eD, eZ, ↓reduceIte, Nat.reduceEqDiff, Nat.reduceAdd, Nat.reduceMul, reduceCtorEq, Nat.reduceLeDiff, Int.reduceLT, Int.reduceLE, Int.reduceToNat, Int.reduceEq, Nat.reduceLT, hc1, hc2, hn1, hn2, rec16 hd, rec17 hd, rec18 hd]
  exact ⟨.ap, by simp [flat], by simp only [checkF, hc1, hc2, or_self, if_false]; rw [if_pos (by omega)]⟩
 have hck : checkF L = (if chkE L L.E.length 0 = false then 3 else if chkS L.E.length L.S 0 = false then 3 else if chkD L L.S = false then 290 else 0) := by
  simp only [checkF, hc1, hc2, or_self, if_false]; rw [if_neg (by omega)]
 simp only [↓eD, eZ, ↓reduceIte, Nat.reduceEqDiff, Nat.reduceAdd, Nat.reduceMul, reduceCtorEq, Nat.reduceLeDiff, Int.reduceLT, Int.reduceLE, Int.reduceToNat, Int.reduceEq, Nat.reduceLT, hc1, hc2, hn1, hn2, rec16 hd, rec17 hd, rec18 hd]
 refine loop_for (J := fun i e τ => i ≤ L.E.length ∧ τ = ap σ [.cells 0 (recC L.d L.c (.slice a1 L.E.length b1) (.slice a2 L.S.length b2)) (0, 0)] ∧ e = [(1, .pointer (some ⟨σ.size, 0, none⟩)), (3, .int .i64 i)] ∧ chkE L (L.E.length - i) i = chkE L L.E.length 0) L.E.length
  ⟨by omega, rfl, rfl, rfl⟩ ?_
 rintro i e τ hi ⟨_, rfl, rfl, hE⟩
 simp only [↓eD, eZ, ↓reduceIte, Nat.reduceEqDiff, Nat.reduceAdd, Nat.reduceMul, reduceCtorEq, Nat.reduceLeDiff, Int.reduceLT, Int.reduceLE, Int.reduceToNat, Int.reduceEq, Nat.reduceLT, rec17 hd]
 refine onI_dec (fun hlt => ?_) (fun hge => ?_)
 ·have hlt : i < L.E.length := by omega
  have hx : (L.E.map entV)[i]? = some (entV L.E[i]) := by simp [hlt]
  obtain ⟨v', hsl, hpre, hpc⟩ := hv.pre hcap (i := i) (by omega)
  obtain ⟨b', off, rfl, h1⟩ := hv.at hx
  have hr : ∀ l, rdN (ap σ l) ⟨b', off + i * 5, none⟩ 5 = some (entV L.E[i]) := fun l => rdN_old h1
  have hr1 : ∀ l, rd1 (ap σ l) ⟨b', off + i * 5 + 1, none⟩ = some (.int .i64 L.E[i].cpu) := fun l => rd1_row (hr l) (j := 1) rfl
  have hr2 : ∀ l, rd1 (ap σ l) ⟨b', off + i * 5 + 2, none⟩ = some (.int .i64 L.E[i].count) := fun l => rd1_row (hr l) (j := 2) rfl
  have hb : (0:Int) ≤ (i:Int) ∧ (i:Int) < (L.E.length : Int) := by omega
  have hw' : IntKind.wrap .i64 ((i:Int) + 1) = ((i + 1 : Nat) : Int) := by rw [wrap64 (by omega) (by omega)]; omega
  simp only [↓eD, eZ, ↓reduceIte, Nat.reduceEqDiff, Nat.reduceAdd, Nat.reduceMul, reduceCtorEq, Nat.reduceLeDiff, Int.reduceLT, Int.reduceLE, Int.reduceToNat, Int.reduceEq, Nat.reduceLT, rec16 hd, rec17 hd, hb, Int.toNat_natCast, hr, hr1, hr2]
  refine appK_at right_app ?_
  have hstep : chkE L (L.E.length - i) i = if rightF L.E[i] L.c = true ∧ L.E[i].count = countF (L.E.take i) L.E[i].cpu then chkE L (L.E.length - (i + 1)) (i + 1) else false := by
   have : L.E.length - i = (L.E.length - (i + 1)) + 1 := by omega
   rw [this, chkE, List.getElem?_eq_getElem hlt]
  by_cases hR : rightF L.E[i] L.c = true
  ·simp only [↓eD, eZ, ↓reduceIte, Nat.reduceEqDiff, Nat.reduceAdd, Nat.reduceMul, reduceCtorEq, Nat.reduceLeDiff, Int.reduceLT, Int.reduceLE, Int.reduceToNat, Int.reduceEq, Nat.reduceLT, hR, rec16 hd, rec17 hd, hb, Int.toNat_natCast, hr, hr1, hr2, hsl]
   refine appK_at (count_app (E := L.E.take i) (by rw [List.map_take]; exact hpre.Old .ap) (by simp; omega)) ?_
   by_cases hC : L.E[i].count = countF (L.E.take i) L.E[i].cpu
   ·have hdec : decide (L.E[i].count = countF (L.E.take i) L.E[i].cpu) = true := by simpa using hC
    simp only [↓eD, eZ, ↓reduceIte, Nat.reduceEqDiff, Nat.reduceAdd, Nat.reduceMul, reduceCtorEq, Nat.reduceLeDiff, Int.reduceLT, Int.reduceLE, Int.reduceToNat, Int.reduceEq, Nat.reduceLT, hR, rec16 hd, rec17 hd, hb, Int.toNat_natCast, hr, hr1, hr2, hsl, hdec, hw']
    refine ⟨hlt, by omega, ?_⟩
    rw [← hE, hstep, if_pos ⟨hR, hC⟩]
   ·have hdec : decide (L.E[i].count = countF (L.E.take i) L.E[i].cpu) = false := by simpa using hC
    simp only [↓eD, eZ, ↓reduceIte, Nat.reduceEqDiff, Nat.reduceAdd, Nat.reduceMul, reduceCtorEq, Nat.reduceLeDiff, Int.reduceLT, Int.reduceLE, Int.reduceToNat, Int.reduceEq, Nat.reduceLT, hR, rec16 hd, rec17 hd, hb, Int.toNat_natCast, hr, hr1, hr2, hsl, hdec, hw']
    refine ⟨.ap, by simp [flat], ?_⟩
    have hf : chkE L L.E.length 0 = false := by rw [← hE, hstep, if_neg (fun h => hC h.2)]
    rw [hck, hf]
    rfl
  ·have hR' : rightF L.E[i] L.c = false := by simpa using hR
   simp only [↓eD, eZ, ↓reduceIte, Nat.reduceEqDiff, Nat.reduceAdd, Nat.reduceMul, reduceCtorEq, Nat.reduceLeDiff, Int.reduceLT, Int.reduceLE, Int.reduceToNat, Int.reduceEq, Nat.reduceLT, hR', rec16 hd, rec17 hd, hb, Int.toNat_natCast, hr, hr1, hr2]
   refine ⟨.ap, by simp [flat], ?_⟩
   have hf : chkE L L.E.length 0 = false := by rw [← hE, hstep, if_neg (fun h => hR h.1)]
   rw [hck, hf]
   rfl
 ·have : i = L.E.length := by omega
  subst this
  have hE' : chkE L L.E.length 0 = true := by rw [← hE, Nat.sub_self]; rfl
  have hdata := chkE_data (by omega) hE'
  rw [hE'] at hck
  simp only [↓eD, eZ, ↓reduceIte, Nat.reduceEqDiff, Nat.reduceAdd, Nat.reduceMul, reduceCtorEq, Nat.reduceLeDiff, Int.reduceLT, Int.reduceLE, Int.reduceToNat, Int.reduceEq, Nat.reduceLT]
  refine loop_for (J := fun i e τ => i ≤ L.S.length ∧ τ = ap σ [.cells 0 (recC L.d L.c (.slice a1 L.E.length b1) (.slice a2 L.S.length b2)) (0, 0)] ∧ ∃ z, e = [(1, .pointer (some ⟨σ.size, 0, none⟩)), (5, .int .i64 z), (6, .int .i64 i)] ∧ chkS L.E.length (L.S.drop i) z = chkS L.E.length L.S 0) L.S.length
   ⟨by omega, rfl, 0, rfl, rfl⟩ ?_
  rintro i e τ hi ⟨_, rfl, z, rfl, hS⟩
  simp only [↓eD, eZ, ↓reduceIte, Nat.reduceEqDiff, Nat.reduceAdd, Nat.reduceMul, reduceCtorEq, Nat.reduceLeDiff, Int.reduceLT, Int.reduceLE, Int.reduceToNat, Int.reduceEq, Nat.reduceLT, rec18 hd]
  refine onI_dec (fun hlt => ?_) (fun hge => ?_)
  ·have hlt : i < L.S.length := by omega
   have hx : (L.S.map seaV)[i]? = some (seaV L.S[i]) := by simp [hlt]
   obtain ⟨b', off, rfl, h1⟩ := hw.at hx
   have hr : ∀ l, rdN (ap σ l) ⟨b', off + i * 33, none⟩ 33 = some (seaV L.S[i]) := fun l => rdN_old h1
   have hr1 : ∀ l, rd1 (ap σ l) ⟨b', off + i * 33, none⟩ = some (.int .i64 L.S[i].end_) := fun l => rd1_row (hr l) (j := 0) rfl
   have hb : (0:Int) ≤ (i:Int) ∧ (i:Int) < (L.S.length : Int) := by omega
   have hw' : IntKind.wrap .i64 ((i:Int) + 1) = ((i + 1 : Nat) : Int) := by rw [wrap64 (by omega) (by omega)]; omega
   have hstep : chkS L.E.length (L.S.drop i) z = if L.S[i].end_ ≤ z ∨ (L.E.length : Int) < L.S[i].end_ then false else chkS L.E.length (L.S.drop (i + 1)) L.S[i].end_ := by
    rw [List.drop_eq_getElem_cons hlt, chkS]
   have hstop : (L.S[i].end_ ≤ z ∨ (L.E.length : Int) < L.S[i].end_) → checkF L = 3 := fun h => by
    have hf : chkS L.E.length L.S 0 = false := by rw [← hS, hstep, if_pos h]
    rw [hck, hf]; rfl
   by_cases hq1 : L.S[i].end_ ≤ z
   ·simp only [↓eD, eZ, ↓reduceIte, Nat.reduceEqDiff, Nat.reduceAdd, Nat.reduceMul, reduceCtorEq, Nat.reduceLeDiff, Int.reduceLT, Int.reduceLE, Int.reduceToNat, Int.reduceEq, Nat.reduceLT, rec17 hd, rec18 hd, hb, Int.toNat_natCast, hr1, hq1]
    exact ⟨.ap, by simp [flat], by rw [hstop (.inl hq1)]⟩
   ·by_cases hq2 : (L.E.length : Int) < L.S[i].end_
    ·simp only [↓eD, eZ, ↓reduceIte, Nat.reduceEqDiff, Nat.reduceAdd, Nat.reduceMul, reduceCtorEq, Nat.reduceLeDiff, Int.reduceLT, Int.reduceLE, Int.reduceToNat, Int.reduceEq, Nat.reduceLT, rec17 hd, rec18 hd, hb, Int.toNat_natCast, hr1, hq1, hq2]
     exact ⟨.ap, by simp [flat], by rw [hstop (.inr hq2)]⟩
    ·simp only [↓eD, eZ, ↓reduceIte, Nat.reduceEqDiff, Nat.reduceAdd, Nat.reduceMul, reduceCtorEq, Nat.reduceLeDiff, Int.reduceLT, Int.reduceLE, Int.reduceToNat, Int.reduceEq, Nat.reduceLT, rec17 hd, rec18 hd, hb, Int.toNat_natCast, hr1, hq1, hq2, hw']
     refine ⟨hlt, by omega, L.S[i].end_, ?_⟩
     rw [← hS, hstep, if_neg (by omega)]
     exact ⟨rfl, rfl⟩
  ·have : i = L.S.length := by omega
   subst this
   have hS' : chkS L.E.length L.S 0 = true := by rw [← hS, List.drop_length]; rfl
   have hbounds := chkS_bounds (by omega) hS'
   rw [hS'] at hck
   simp only [↓eD, eZ, ↓reduceIte, Nat.reduceEqDiff, Nat.reduceAdd, Nat.reduceMul, reduceCtorEq, Nat.reduceLeDiff, Int.reduceLT, Int.reduceLE, Int.reduceToNat, Int.reduceEq, Nat.reduceLT]
   refine loop_for (J := fun i e τ => i ≤ L.S.length ∧ τ = ap σ [.cells 0 (recC L.d L.c (.slice a1 L.E.length b1) (.slice a2 L.S.length b2)) (0, 0)] ∧ e = [(1, .pointer (some ⟨σ.size, 0, none⟩)), (7, .int .i64 i)] ∧ chkD L (L.S.drop i) = chkD L L.S) L.S.length
    ⟨by omega, rfl, rfl, rfl⟩ ?_
   rintro i e τ hi ⟨_, rfl, rfl, hD⟩
   simp only [↓eD, eZ, ↓reduceIte, Nat.reduceEqDiff, Nat.reduceAdd, Nat.reduceMul, reduceCtorEq, Nat.reduceLeDiff, Int.reduceLT, Int.reduceLE, Int.reduceToNat, Int.reduceEq, Nat.reduceLT, rec18 hd]
   refine onI_dec (fun hlt => ?_) (fun hge => ?_)
   ·have hlt : i < L.S.length := by omega
    have hx : (L.S.map seaV)[i]? = some (seaV L.S[i]) := by simp [hlt]
    obtain ⟨b', off, rfl, h1⟩ := hw.at hx
    have hr : ∀ l, rdN (ap σ l) ⟨b', off + i * 33, none⟩ 33 = some (seaV L.S[i]) := fun l => rdN_old h1
    have hr1 : ∀ l, rd1 (ap σ l) ⟨b', off + i * 33, none⟩ = some (.int .i64 L.S[i].end_) := fun l => rd1_row (hr l) (j := 0) rfl
    have hok := h.ok L.S[i] (by simp)
    have hr16 : ∀ l, rdN (ap σ l) ⟨b', off + i * 33 + 1, none⟩ 16 = some (digC L.S[i].dig) := fun l => by
     rw [rdN_sub (hr l) (a := 1) (m := 16) (by omega)]
     have : (digC L.S[i].dig).length = 16 := by rw [digC_length, hok.1]
     simp [seaV, List.take_left' this]
    have hb : (0:Int) ≤ (i:Int) ∧ (i:Int) < (L.S.length : Int) := by omega
    have hw' : IntKind.wrap .i64 ((i:Int) + 1) = ((i + 1 : Nat) : Int) := by rw [wrap64 (by omega) (by omega)]; omega
    obtain ⟨hb1, hb2⟩ := hbounds L.S[i] (by simp)
    have hn : L.S[i].end_ = ((L.S[i].end_.toNat : Nat) : Int) := by omega
    have hstep : chkD L (L.S.drop i) = if L.S[i].dig = chainF L.d L.c L.E L.S[i].end_.toNat then chkD L (L.S.drop (i + 1)) else false := by
     rw [List.drop_eq_getElem_cons hlt, chkD]
    have heq : aggEq (List.replicate 16 (.int .u8)) (digC L.S[i].dig) (digC (chainF L.d L.c L.E L.S[i].end_.toNat)) = some (decide (L.S[i].dig = chainF L.d L.c L.E L.S[i].end_.toNat)) := aggEq_dig hok.1 chainF_len
    simp only [↓eD, eZ, ↓reduceIte, Nat.reduceEqDiff, Nat.reduceAdd, Nat.reduceMul, reduceCtorEq, Nat.reduceLeDiff, Int.reduceLT, Int.reduceLE, Int.reduceToNat, Int.reduceEq, Nat.reduceLT, rec17 hd, rec18 hd, hb, Int.toNat_natCast, hr1, hr16, rec_take hd, rec_len hd]
    rw [hn]
    refine appK_of (chain_app (h.Old .ap) (by omega) (fun e he => by
     obtain ⟨j, hj, rfl⟩ := List.getElem_of_mem he
     have := rightF_size (hdata j (by omega) hj).1
     omega) (hG.Old .ap)) ?_
    rintro _ _ ⟨e2, rfl⟩
    rw [e2, ← hn]
    clear e2
    by_cases hC : L.S[i].dig = chainF L.d L.c L.E L.S[i].end_.toNat
    ·have hdec : decide (L.S[i].dig = chainF L.d L.c L.E L.S[i].end_.toNat) = true := by simpa using hC
     simp only [↓eD, eZ, ↓reduceIte, Nat.reduceEqDiff, Nat.reduceAdd, Nat.reduceMul, reduceCtorEq, Nat.reduceLeDiff, Int.reduceLT, Int.reduceLE, Int.reduceToNat, Int.reduceEq, Nat.reduceLT, rec17 hd, rec18 hd, hb, Int.toNat_natCast, hr1, hr16, rec_take hd, rec_len hd, heq, hdec, hw']
     refine ⟨hlt, by omega, ?_⟩
     rw [← hD, hstep, if_pos hC]
    ·have hdec : decide (L.S[i].dig = chainF L.d L.c L.E L.S[i].end_.toNat) = false := by simpa using hC
     simp only [↓eD, eZ, ↓reduceIte, Nat.reduceEqDiff, Nat.reduceAdd, Nat.reduceMul, reduceCtorEq, Nat.reduceLeDiff, Int.reduceLT, Int.reduceLE, Int.reduceToNat, Int.reduceEq, Nat.reduceLT, rec17 hd, rec18 hd, hb, Int.toNat_natCast, hr1, hr16, rec_take hd, rec_len hd, heq, hdec, hw']
     refine ⟨.ap, by simp [flat], ?_⟩
     have hf : chkD L L.S = false := by rw [← hD, hstep, if_neg hC]
     rw [hck, hf]
     rfl
   ·have : i = L.S.length := by omega
    subst this
    have hD' : chkD L L.S = true := by rw [← hD, List.drop_length]; rfl
    simp only [↓eD, eZ, ↓reduceIte, Nat.reduceEqDiff, Nat.reduceAdd, Nat.reduceMul, reduceCtorEq, Nat.reduceLeDiff, Int.reduceLT, Int.reduceLE, Int.reduceToNat, Int.reduceEq, Nat.reduceLT]
    refine ⟨.ap, by simp [flat], ?_⟩
    rw [hck, hD']
    rfl
theorem within_app {σ : H} {n lo hi : Int} : App Tryd.prog (.func 39) #[] #[.int .i64 n, .int .i64 lo, .int .i64 hi] σ fun v σ' => σ' = σ ∧ v = .bool (decide (lo ≤ n) && decide (n ≤ hi)) := by
 refine App.of_sem mixed Tryd.func39 t39 k39 r39 (Nat.le_of_ble_eq_true rfl) ?_
 unfold s39
 by_cases h : lo ≤ n
 ·simp only [↓eD, eZ, ↓reduceIte, Nat.reduceEqDiff, Nat.reduceAdd, Nat.reduceMul, reduceCtorEq, Nat.reduceLeDiff, Int.reduceLT, Int.reduceLE, Int.reduceToNat, Int.reduceEq, Nat.reduceLT, h, decide_true, Bool.true_and]
 ·simp only [↓eD, eZ, ↓reduceIte, Nat.reduceEqDiff, Nat.reduceAdd, Nat.reduceMul, reduceCtorEq, Nat.reduceLeDiff, Int.reduceLT, Int.reduceLE, Int.reduceToNat, Int.reduceEq, Nat.reduceLT, h, decide_false, Bool.false_and]
def str0 (s : ByteArray) : Bool := decide (s.size = 0)
theorem str0_eq {s : ByteArray} : decide (s = ⟨#[]⟩) = str0 s := str_empty
section
variable {σ : H} {b : Nat} {e : Ent}
theorem R1_app (h2 : rd1 σ ⟨b, 2, none⟩ = some (.int .i64 e.count)) (h3 : rd1 σ ⟨b, 3, none⟩ = some (.int .i64 e.n)) (h4 : rd1 σ ⟨b, 4, none⟩ = some (.string e.data)) (h0 : 0 ≤ e.count) (h1 : e.count ≤ 1099511627776) :
  App Tryd.prog (.func 40) #[.pointer (some ⟨b, 0, none⟩)] #[] σ fun v σ' => σ' = σ ∧ v = .bool (decide (1 ≤ e.n ∧ e.n ≤ 1099511627776 - e.count ∧ e.data.size = 0)) := by
 refine App.of_sem mixed Tryd.func40 t40 k40 r40 (Nat.le_of_ble_eq_true rfl) ?_
 unfold s40
 have hw : IntKind.wrap .i64 (1099511627776 - e.count) = 1099511627776 - e.count := wrap64' (by omega) (by omega)
 simp only [↓eD, eZ, ↓reduceIte, Nat.reduceEqDiff, Nat.reduceAdd, Nat.reduceMul, reduceCtorEq, Nat.reduceLeDiff, Int.reduceLT, Int.reduceLE, Int.reduceToNat, Int.reduceEq, Nat.reduceLT, h2, h3, hw]
 refine appK_at within_app ?_
 by_cases c1 : 1 ≤ e.n <;> by_cases c2 : e.n ≤ 1099511627776 - e.count <;> simp only [↓eD, eZ, ↓reduceIte, Nat.reduceEqDiff, Nat.reduceAdd, Nat.reduceMul, reduceCtorEq, Nat.reduceLeDiff, Int.reduceLT, Int.reduceLE, Int.reduceToNat, Int.reduceEq, Nat.reduceLT, c1, c2, h4, str0_eq, str0, decide_true, decide_false, Bool.and_true, Bool.and_false, true_and, false_and, and_false]
theorem R2_app (h3 : rd1 σ ⟨b, 3, none⟩ = some (.int .i64 e.n)) (h4 : rd1 σ ⟨b, 4, none⟩ = some (.string e.data)) :
  App Tryd.prog (.func 41) #[.pointer (some ⟨b, 0, none⟩)] #[] σ fun v σ' => σ' = σ ∧ v = .bool (decide (0 ≤ e.n ∧ e.n ≤ 2147483647 ∧ e.data.size = 0)) := by
 refine App.of_sem mixed Tryd.func41 t41 k41 r41 (Nat.le_of_ble_eq_true rfl) ?_
 unfold s41
 simp only [↓eD, eZ, ↓reduceIte, Nat.reduceEqDiff, Nat.reduceAdd, Nat.reduceMul, reduceCtorEq, Nat.reduceLeDiff, Int.reduceLT, Int.reduceLE, Int.reduceToNat, Int.reduceEq, Nat.reduceLT, h3]
 refine appK_at within_app ?_
 by_cases c1 : 0 ≤ e.n <;> by_cases c2 : e.n ≤ 2147483647 <;> simp only [↓eD, eZ, ↓reduceIte, Nat.reduceEqDiff, Nat.reduceAdd, Nat.reduceMul, reduceCtorEq, Nat.reduceLeDiff, Int.reduceLT, Int.reduceLE, Int.reduceToNat, Int.reduceEq, Nat.reduceLT, c1, c2, h4, str0_eq, str0, decide_true, decide_false, Bool.and_true, Bool.and_false, true_and, false_and, and_false]
theorem R3_app (h3 : rd1 σ ⟨b, 3, none⟩ = some (.int .i64 e.n)) (h4 : rd1 σ ⟨b, 4, none⟩ = some (.string e.data)) :
  App Tryd.prog (.func 42) #[.pointer (some ⟨b, 0, none⟩)] #[] σ fun v σ' => σ' = σ ∧ v = .bool (decide (e.n = 0 ∧ e.data.size = 1)) := by
 refine App.of_sem mixed Tryd.func42 t42 k42 r42 (Nat.le_of_ble_eq_true rfl) ?_
 unfold s42
 have hz : decide ((e.data.size : Int) = 1) = decide (e.data.size = 1) := by by_cases h : e.data.size = 1 <;> simp [h]; omega
 by_cases c1 : e.n = 0 <;> simp only [↓eD, eZ, ↓reduceIte, Nat.reduceEqDiff, Nat.reduceAdd, Nat.reduceMul, reduceCtorEq, Nat.reduceLeDiff, Int.reduceLT, Int.reduceLE, Int.reduceToNat, Int.reduceEq, Nat.reduceLT, c1, h3, h4, hz, decide_true, decide_false, true_and, false_and]
theorem R4_app (h3 : rd1 σ ⟨b, 3, none⟩ = some (.int .i64 e.n)) (h4 : rd1 σ ⟨b, 4, none⟩ = some (.string e.data)) :
  App Tryd.prog (.func 43) #[.pointer (some ⟨b, 0, none⟩)] #[] σ fun v σ' => σ' = σ ∧ v = .bool (decide (e.n = 0 ∧ 1 ≤ e.data.size ∧ e.data.size ≤ 512)) := by
 refine App.of_sem mixed Tryd.func43 t43 k43 r43 (Nat.le_of_ble_eq_true rfl) ?_
 unfold s43
 by_cases c1 : e.n = 0
 ·simp only [↓eD, eZ, ↓reduceIte, Nat.reduceEqDiff, Nat.reduceAdd, Nat.reduceMul, reduceCtorEq, Nat.reduceLeDiff, Int.reduceLT, Int.reduceLE, Int.reduceToNat, Int.reduceEq, Nat.reduceLT, c1, h3, h4, decide_true]
  refine appK_at within_app ?_
  simp only [↓eD, eZ, ↓reduceIte, Nat.reduceEqDiff, Nat.reduceAdd, Nat.reduceMul, reduceCtorEq, Nat.reduceLeDiff, Int.reduceLT, Int.reduceLE, Int.reduceToNat, Int.reduceEq, Nat.reduceLT, true_and, Bool.decide_and]
  have z1 : decide (1 ≤ (e.data.size : Int)) = decide (1 ≤ e.data.size) := decide_eq_decide.2 (by omega)
  have z2 : decide ((e.data.size : Int) ≤ 512) = decide (e.data.size ≤ 512) := decide_eq_decide.2 (by omega)
  rw [z1, z2, decide_eq_true c1, Bool.true_and]
 ·simp only [↓eD, eZ, ↓reduceIte, Nat.reduceEqDiff, Nat.reduceAdd, Nat.reduceMul, reduceCtorEq, Nat.reduceLeDiff, Int.reduceLT, Int.reduceLE, Int.reduceToNat, Int.reduceEq, Nat.reduceLT, c1, h3, h4, decide_false, false_and]
theorem R5_app (h3 : rd1 σ ⟨b, 3, none⟩ = some (.int .i64 e.n)) (h4 : rd1 σ ⟨b, 4, none⟩ = some (.string e.data)) :
  App Tryd.prog (.func 44) #[.pointer (some ⟨b, 0, none⟩)] #[] σ fun v σ' => σ' = σ ∧ v = .bool (decide (0 ≤ e.n ∧ e.n ≤ 7 ∧ e.data.size = 0)) := by
 refine App.of_sem mixed Tryd.func44 t44 k44 r44 (Nat.le_of_ble_eq_true rfl) ?_
 unfold s44
 simp only [↓eD, eZ, ↓reduceIte, Nat.reduceEqDiff, Nat.reduceAdd, Nat.reduceMul, reduceCtorEq, Nat.reduceLeDiff, Int.reduceLT, Int.reduceLE, Int.reduceToNat, Int.reduceEq, Nat.reduceLT, h3]
 refine appK_at within_app ?_
 by_cases c1 : 0 ≤ e.n <;> by_cases c2 : e.n ≤ 7 <;> simp only [↓eD, eZ, ↓reduceIte, Nat.reduceEqDiff, Nat.reduceAdd, Nat.reduceMul, reduceCtorEq, Nat.reduceLeDiff, Int.reduceLT, Int.reduceLE, Int.reduceToNat, Int.reduceEq, Nat.reduceLT, c1, c2, h4, str0_eq, str0, decide_true, decide_false, Bool.and_true, Bool.and_false, true_and, false_and, and_false]
end
theorem put_new {σ : H} {L : List Blk} {i ver clock : Nat} {es : Array MapEntry} {k : Int} {v : Value} (h : L[i]? = some (.map ver es clock)) (hf : findK (.int .i64 k) es.toList 0 = some none) :
  mapPut (.int .i64) (.map (some (σ.size + i))) (.int .i64 k) v (ap σ L) = some (ap σ (L.set i (.map (ver + 1) (es.push { key := .int .i64 k, val := v, born := clock }) (clock + 1)))) := by
 have fits : Leaf.fits (.int .i64) (.int .i64 k) = true := by simp [Leaf.fits]
 have h2 : (ap σ L)[σ.size + i]? = some (.map ver es clock) := by rw [ap_new, h]
 simp only [mapPut, h2, fits, if_true, hf]
 congr 1
 exact ap_set
theorem get_map {σ : H} {L : List Blk} {i ver clock : Nat} {es : Array MapEntry} {k : Int} {z : Value} {r : Option (Nat × Value)} (h : L[i]? = some (.map ver es clock)) (hf : findK (.int .i64 k) es.toList 0 = some r) :
  lookupV (.int .i64) z true (.map (some (σ.size + i))) (.int .i64 k) (ap σ L) = some (.tuple #[(r.map (·.2)).getD z, .bool r.isSome]) := by
 have fits : Leaf.fits (.int .i64) (.int .i64 k) = true := by simp [Leaf.fits]
 have h2 : (ap σ L)[σ.size + i]? = some (.map ver es clock) := by rw [ap_new, h]
 simp only [lookupV, mapOf, h2, fits, if_true, hf]
 cases r <;> rfl
theorem lright_app {e : Ent} {cpus : Int} {σ : H} : App Tryd.prog (.func 13) #[] #[.agg (entV e).toArray, .int .i64 cpus] σ fun v σ' => σ' = σ ∧ v = .bool (rightF e cpus) := by
 refine App.forget (App.of_sem mixed Tryd.func13 t13 k13 r13 (Nat.le_of_ble_eq_true rfl) ?_)
 rw [← ap_nil (σ := σ)]
 unfold s13
 by_cases c1 : e.cpu < 0
 ·simp only [↓eD, eZ, ↓reduceIte, Nat.reduceEqDiff, Nat.reduceAdd, Nat.reduceMul, reduceCtorEq, Nat.reduceLeDiff, Int.reduceLT, Int.reduceLE, Int.reduceToNat, Int.reduceEq, Nat.reduceLT, entV, c1, decide_true, undef_eq]
  exact ⟨.ap, rfl, by simp [rightF, c1]⟩
 by_cases c2 : cpus ≤ e.cpu
 ·simp only [↓eD, eZ, ↓reduceIte, Nat.reduceEqDiff, Nat.reduceAdd, Nat.reduceMul, reduceCtorEq, Nat.reduceLeDiff, Int.reduceLT, Int.reduceLE, Int.reduceToNat, Int.reduceEq, Nat.reduceLT, entV, c1, c2, decide_true, decide_false, undef_eq]
  exact ⟨.ap, rfl, by simp [rightF, c2]⟩
 simp only [↓eD, eZ, ↓reduceIte, Nat.reduceEqDiff, Nat.reduceAdd, Nat.reduceMul, reduceCtorEq, Nat.reduceLeDiff, Int.reduceLT, Int.reduceLE, Int.reduceToNat, Int.reduceEq, Nat.reduceLT, entV, c1, c2, decide_true, decide_false, undef_eq]
 refine appK_at within_app ?_
 by_cases c3 : 0 ≤ e.count
 case neg =>
  simp only [↓eD, eZ, ↓reduceIte, Nat.reduceEqDiff, Nat.reduceAdd, Nat.reduceMul, reduceCtorEq, Nat.reduceLeDiff, Int.reduceLT, Int.reduceLE, Int.reduceToNat, Int.reduceEq, Nat.reduceLT, c3, decide_true, decide_false, Bool.false_and, Bool.not_false, undef_eq]
  exact ⟨.ap, rfl, by simp [rightF, show e.count < 0 by omega]⟩
 by_cases c4 : e.count ≤ 1099511627776
 case neg =>
  simp only [↓eD, eZ, ↓reduceIte, Nat.reduceEqDiff, Nat.reduceAdd, Nat.reduceMul, reduceCtorEq, Nat.reduceLeDiff, Int.reduceLT, Int.reduceLE, Int.reduceToNat, Int.reduceEq, Nat.reduceLT, c3, c4, decide_true, decide_false, Bool.true_and, Bool.not_false, undef_eq]
  exact ⟨.ap, rfl, by simp [rightF, show 1099511627776 < e.count by omega]⟩
 simp only [↓eD, eZ, ↓reduceIte, Nat.reduceEqDiff, Nat.reduceAdd, Nat.reduceMul, reduceCtorEq, Nat.reduceLeDiff, Int.reduceLT, Int.reduceLE, Int.reduceToNat, Int.reduceEq, Nat.reduceLT, c3, c4, decide_true, decide_false, Bool.true_and, Bool.not_true, undef_eq]
 have p1 := put_new (σ := σ) (L := [.cells 0 (entV e) (0, 0), .map 0 (#[]) 0]) (i := 1) (k := 1) (v := .func (.func 40) #[] #[.pointer (some ⟨σ.size, 0, none⟩)]) rfl rfl
 have p2 := put_new (σ := σ) (L := [.cells 0 (entV e) (0, 0), .map 1 ((#[]).push ⟨.int .i64 1, .func (.func 40) #[] #[.pointer (some ⟨σ.size, 0, none⟩)], 0⟩) 1]) (i := 1) (k := 2) (v := .func (.func 41) #[] #[.pointer (some ⟨σ.size, 0, none⟩)]) rfl rfl
 have p3 := put_new (σ := σ) (L := [.cells 0 (entV e) (0, 0), .map 2 (((#[]).push ⟨.int .i64 1, .func (.func 40) #[] #[.pointer (some ⟨σ.size, 0, none⟩)], 0⟩).push ⟨.int .i64 2, .func (.func 41) #[] #[.pointer (some ⟨σ.size, 0, none⟩)], 1⟩) 2]) (i := 1) (k := 3) (v := .func (.func 42) #[] #[.pointer (some ⟨σ.size, 0, none⟩)]) rfl rfl
 have p4 := put_new (σ := σ) (L := [.cells 0 (entV e) (0, 0), .map 3 ((((#[]).push ⟨.int .i64 1, .func (.func 40) #[] #[.pointer (some ⟨σ.size, 0, none⟩)], 0⟩).push ⟨.int .i64 2, .func (.func 41) #[] #[.pointer (some ⟨σ.size, 0, none⟩)], 1⟩).push ⟨.int .i64 3, .func (.func 42) #[] #[.pointer (some ⟨σ.size, 0, none⟩)], 2⟩) 3]) (i := 1) (k := 4) (v := .func (.func 43) #[] #[.pointer (some ⟨σ.size, 0, none⟩)]) rfl rfl
 have p5 := put_new (σ := σ) (L := [.cells 0 (entV e) (0, 0), .map 4 (((((#[]).push ⟨.int .i64 1, .func (.func 40) #[] #[.pointer (some ⟨σ.size, 0, none⟩)], 0⟩).push ⟨.int .i64 2, .func (.func 41) #[] #[.pointer (some ⟨σ.size, 0, none⟩)], 1⟩).push ⟨.int .i64 3, .func (.func 42) #[] #[.pointer (some ⟨σ.size, 0, none⟩)], 2⟩).push ⟨.int .i64 4, .func (.func 43) #[] #[.pointer (some ⟨σ.size, 0, none⟩)], 3⟩) 4]) (i := 1) (k := 5) (v := .func (.func 44) #[] #[.pointer (some ⟨σ.size, 0, none⟩)]) rfl rfl
 simp only [entV] at p1 p2 p3 p4 p5
 have fk : ∀ k : Int, findK (.int .i64 k) ((((((#[]).push ⟨.int .i64 1, .func (.func 40) #[] #[.pointer (some ⟨σ.size, 0, none⟩)], 0⟩).push ⟨.int .i64 2, .func (.func 41) #[] #[.pointer (some ⟨σ.size, 0, none⟩)], 1⟩).push ⟨.int .i64 3, .func (.func 42) #[] #[.pointer (some ⟨σ.size, 0, none⟩)], 2⟩).push ⟨.int .i64 4, .func (.func 43) #[] #[.pointer (some ⟨σ.size, 0, none⟩)], 3⟩).push ⟨.int .i64 5, .func (.func 44) #[] #[.pointer (some ⟨σ.size, 0, none⟩)], 4⟩).toList 0 = if k = 1 then some (some (0, .func (.func 40) #[] #[.pointer (some ⟨σ.size, 0, none⟩)])) else if k = 2 then some (some (1, .func (.func 41) #[] #[.pointer (some ⟨σ.size, 0, none⟩)])) else if k = 3 then some (some (2, .func (.func 42) #[] #[.pointer (some ⟨σ.size, 0, none⟩)])) else if k = 4 then some (some (3, .func (.func 43) #[] #[.pointer (some ⟨σ.size, 0, none⟩)])) else if k = 5 then some (some (4, .func (.func 44) #[] #[.pointer (some ⟨σ.size, 0, none⟩)])) else some none := by
  intro k
  show findK (.int .i64 k) [⟨.int .i64 1, .func (.func 40) #[] #[.pointer (some ⟨σ.size, 0, none⟩)], 0⟩, ⟨.int .i64 2, .func (.func 41) #[] #[.pointer (some ⟨σ.size, 0, none⟩)], 1⟩, ⟨.int .i64 3, .func (.func 42) #[] #[.pointer (some ⟨σ.size, 0, none⟩)], 2⟩, ⟨.int .i64 4, .func (.func 43) #[] #[.pointer (some ⟨σ.size, 0, none⟩)], 3⟩, ⟨.int .i64 5, .func (.func 44) #[] #[.pointer (some ⟨σ.size, 0, none⟩)], 4⟩] 0 = _
  simp only [findK, leafEq]
  by_cases q1 : k = 1
  ·simp [q1]
  by_cases q2 : k = 2
  ·simp [q2]
  by_cases q3 : k = 3
  ·simp [q3]
  by_cases q4 : k = 4
  ·simp [q4]
  by_cases q5 : k = 5 <;> simp [q1, q2, q3, q4, q5]
 have lk : ∀ r, findK (.int .i64 e.kind) ((((((#[]).push ⟨.int .i64 1, .func (.func 40) #[] #[.pointer (some ⟨σ.size, 0, none⟩)], 0⟩).push ⟨.int .i64 2, .func (.func 41) #[] #[.pointer (some ⟨σ.size, 0, none⟩)], 1⟩).push ⟨.int .i64 3, .func (.func 42) #[] #[.pointer (some ⟨σ.size, 0, none⟩)], 2⟩).push ⟨.int .i64 4, .func (.func 43) #[] #[.pointer (some ⟨σ.size, 0, none⟩)], 3⟩).push ⟨.int .i64 5, .func (.func 44) #[] #[.pointer (some ⟨σ.size, 0, none⟩)], 4⟩).toList 0 = some r → _ := fun r hr => get_map (σ := σ) (L := [.cells 0 (entV e) (0, 0), .map 5 ((((((#[]).push ⟨.int .i64 1, .func (.func 40) #[] #[.pointer (some ⟨σ.size, 0, none⟩)], 0⟩).push ⟨.int .i64 2, .func (.func 41) #[] #[.pointer (some ⟨σ.size, 0, none⟩)], 1⟩).push ⟨.int .i64 3, .func (.func 42) #[] #[.pointer (some ⟨σ.size, 0, none⟩)], 2⟩).push ⟨.int .i64 4, .func (.func 43) #[] #[.pointer (some ⟨σ.size, 0, none⟩)], 3⟩).push ⟨.int .i64 5, .func (.func 44) #[] #[.pointer (some ⟨σ.size, 0, none⟩)], 4⟩) 5]) (i := 1) (z := .nilFunc) (r := r) rfl hr
 simp only [entV, fk] at lk
 have g2 : ∀ L, rd1 (ap σ ([.cells 0 (entV e) (0, 0)] ++ L)) ⟨σ.size, 2, none⟩ = some (.int .i64 e.count) := fun L => by rw [rd1_ap0]; rfl
 have g3 : ∀ L, rd1 (ap σ ([.cells 0 (entV e) (0, 0)] ++ L)) ⟨σ.size, 3, none⟩ = some (.int .i64 e.n) := fun L => by rw [rd1_ap0]; rfl
 have g4 : ∀ L, rd1 (ap σ ([.cells 0 (entV e) (0, 0)] ++ L)) ⟨σ.size, 4, none⟩ = some (.string e.data) := fun L => by rw [rd1_ap0]; rfl
 have rF : rightF e cpus = (if e.kind = 1 then decide (1 ≤ e.n ∧ e.n ≤ 1099511627776 - e.count ∧ e.data.size = 0) else if e.kind = 2 then decide (0 ≤ e.n ∧ e.n ≤ 2147483647 ∧ e.data.size = 0) else if e.kind = 3 then decide (e.n = 0 ∧ e.data.size = 1) else if e.kind = 4 then decide (e.n = 0 ∧ 1 ≤ e.data.size ∧ e.data.size ≤ 512) else if e.kind = 5 then decide (0 ≤ e.n ∧ e.n ≤ 7 ∧ e.data.size = 0) else false) := by
  unfold rightF
  rw [if_neg (by omega)]
 by_cases k1 : e.kind = 1
 ·have lk' := lk (some (0, .func (.func 40) #[] #[.pointer (some ⟨σ.size, 0, none⟩)])) (by rw [if_pos k1])
  have rG := rF
  rw [if_pos k1] at rG
  simp only [↓eD, eZ, ↓reduceIte, Nat.reduceEqDiff, Nat.reduceAdd, Nat.reduceMul, reduceCtorEq, Nat.reduceLeDiff, Int.reduceLT, Int.reduceLE, Int.reduceToNat, Int.reduceEq, Nat.reduceLT, p1, p2, p3, p4, p5, lk', Option.getD_some, Option.isSome_some, undef_eq]
  refine appK_of (R1_app (e := e) (g2 _) (g3 _) (g4 _) c3 c4) ?_
  rintro _ _ ⟨e2, rfl⟩
  rw [e2, ← rG]
  clear e2
  simp only [↓eD, eZ, ↓reduceIte, Nat.reduceEqDiff, Nat.reduceAdd, Nat.reduceMul, reduceCtorEq, Nat.reduceLeDiff, Int.reduceLT, Int.reduceLE, Int.reduceToNat, Int.reduceEq, Nat.reduceLT]
  exact ⟨.ap, rfl⟩
 by_cases k2 : e.kind = 2
 ·have lk' := lk (some (1, .func (.func 41) #[] #[.pointer (some ⟨σ.size, 0, none⟩)])) (by rw [if_neg k1, if_pos k2])
  have rG := rF
  rw [if_neg k1, if_pos k2] at rG
  simp only [↓eD, eZ, ↓reduceIte, Nat.reduceEqDiff, Nat.reduceAdd, Nat.reduceMul, reduceCtorEq, Nat.reduceLeDiff, Int.reduceLT, Int.reduceLE, Int.reduceToNat, Int.reduceEq, Nat.reduceLT, p1, p2, p3, p4, p5, lk', Option.getD_some, Option.isSome_some, undef_eq]
  refine appK_of (R2_app (e := e) (g3 _) (g4 _)) ?_
  rintro _ _ ⟨e2, rfl⟩
  rw [e2, ← rG]
  clear e2
  simp only [↓eD, eZ, ↓reduceIte, Nat.reduceEqDiff, Nat.reduceAdd, Nat.reduceMul, reduceCtorEq, Nat.reduceLeDiff, Int.reduceLT, Int.reduceLE, Int.reduceToNat, Int.reduceEq, Nat.reduceLT]
  exact ⟨.ap, rfl⟩
 by_cases k3 : e.kind = 3
 ·have lk' := lk (some (2, .func (.func 42) #[] #[.pointer (some ⟨σ.size, 0, none⟩)])) (by rw [if_neg k1, if_neg k2, if_pos k3])
  have rG := rF
  rw [if_neg k1, if_neg k2, if_pos k3] at rG
  simp only [↓eD, eZ, ↓reduceIte, Nat.reduceEqDiff, Nat.reduceAdd, Nat.reduceMul, reduceCtorEq, Nat.reduceLeDiff, Int.reduceLT, Int.reduceLE, Int.reduceToNat, Int.reduceEq, Nat.reduceLT, p1, p2, p3, p4, p5, lk', Option.getD_some, Option.isSome_some, undef_eq]
  refine appK_of (R3_app (e := e) (g3 _) (g4 _)) ?_
  rintro _ _ ⟨e2, rfl⟩
  rw [e2, ← rG]
  clear e2
  simp only [↓eD, eZ, ↓reduceIte, Nat.reduceEqDiff, Nat.reduceAdd, Nat.reduceMul, reduceCtorEq, Nat.reduceLeDiff, Int.reduceLT, Int.reduceLE, Int.reduceToNat, Int.reduceEq, Nat.reduceLT]
  exact ⟨.ap, rfl⟩
 by_cases k4 : e.kind = 4
 ·have lk' := lk (some (3, .func (.func 43) #[] #[.pointer (some ⟨σ.size, 0, none⟩)])) (by rw [if_neg k1, if_neg k2, if_neg k3, if_pos k4])
  have rG := rF
  rw [if_neg k1, if_neg k2, if_neg k3, if_pos k4] at rG
  simp only [↓eD, eZ, ↓reduceIte, Nat.reduceEqDiff, Nat.reduceAdd, Nat.reduceMul, reduceCtorEq, Nat.reduceLeDiff, Int.reduceLT, Int.reduceLE, Int.reduceToNat, Int.reduceEq, Nat.reduceLT, p1, p2, p3, p4, p5, lk', Option.getD_some, Option.isSome_some, undef_eq]
  refine appK_of (R4_app (e := e) (g3 _) (g4 _)) ?_
  rintro _ _ ⟨e2, rfl⟩
  rw [e2, ← rG]
  clear e2
  simp only [↓eD, eZ, ↓reduceIte, Nat.reduceEqDiff, Nat.reduceAdd, Nat.reduceMul, reduceCtorEq, Nat.reduceLeDiff, Int.reduceLT, Int.reduceLE, Int.reduceToNat, Int.reduceEq, Nat.reduceLT]
  exact ⟨.ap, rfl⟩
 by_cases k5 : e.kind = 5
 ·have lk' := lk (some (4, .func (.func 44) #[] #[.pointer (some ⟨σ.size, 0, none⟩)])) (by rw [if_neg k1, if_neg k2, if_neg k3, if_neg k4, if_pos k5])
  have rG := rF
  rw [if_neg k1, if_neg k2, if_neg k3, if_neg k4, if_pos k5] at rG
  simp only [↓eD, eZ, ↓reduceIte, Nat.reduceEqDiff, Nat.reduceAdd, Nat.reduceMul, reduceCtorEq, Nat.reduceLeDiff, Int.reduceLT, Int.reduceLE, Int.reduceToNat, Int.reduceEq, Nat.reduceLT, p1, p2, p3, p4, p5, lk', Option.getD_some, Option.isSome_some, undef_eq]
  refine appK_of (R5_app (e := e) (g3 _) (g4 _)) ?_
  rintro _ _ ⟨e2, rfl⟩
  rw [e2, ← rG]
  clear e2
  simp only [↓eD, eZ, ↓reduceIte, Nat.reduceEqDiff, Nat.reduceAdd, Nat.reduceMul, reduceCtorEq, Nat.reduceLeDiff, Int.reduceLT, Int.reduceLE, Int.reduceToNat, Int.reduceEq, Nat.reduceLT]
  exact ⟨.ap, rfl⟩
 have lk' := lk none (by rw [if_neg k1, if_neg k2, if_neg k3, if_neg k4, if_neg k5])
 rw [if_neg k1, if_neg k2, if_neg k3, if_neg k4, if_neg k5] at rF
 simp only [↓eD, eZ, ↓reduceIte, Nat.reduceEqDiff, Nat.reduceAdd, Nat.reduceMul, reduceCtorEq, Nat.reduceLeDiff, Int.reduceLT, Int.reduceLE, Int.reduceToNat, Int.reduceEq, Nat.reduceLT, p1, p2, p3, p4, p5, lk', Option.getD_none, Option.isSome_none, undef_eq, rF]
 exact ⟨.ap, rfl⟩
end Go.Proofs.YtopnlllipkockaaDoor
