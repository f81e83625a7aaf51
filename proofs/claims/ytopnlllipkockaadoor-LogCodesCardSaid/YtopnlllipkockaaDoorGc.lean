/- Walks of the functions that the claim reaches. Conditions: none. -/
import Derived.Test.YtopnlllipkockaaDoorGb
set_option linter.all false
set_option maxRecDepth 10000
set_option maxHeartbeats 4000000
namespace Go.Proofs.YtopnlllipkockaaDoor
open Go Go.Cn Go.RowKit
attribute [local irreducible] evL sem onG onI onV
theorem flat_get {s : Nat} (hs : 0 < s) : ∀ {xs : List (List Value)}, (∀ r ∈ xs, r.length = s) → ∀ (i : Nat) (x : Value), xs.flatten[i]? = some x → ∃ r, xs[i / s]? = some r ∧ r[i % s]? = some x
 |[], _, i, x, h => by simp at h
 |r :: xs, hl, i, x, h => by
  have hr := hl r List.mem_cons_self
  rw [List.flatten_cons] at h
  by_cases hi : i < s
  ·rw [List.getElem?_append_left (by omega)] at h
   exact ⟨r, by rw [Nat.div_eq_of_lt hi]; rfl, by rw [Nat.mod_eq_of_lt hi]; exact h⟩
  ·rw [List.getElem?_append_right (by omega), hr] at h
   obtain ⟨q, h1, h2⟩ := flat_get hs (xs := xs) (fun r h => hl r (List.mem_cons_of_mem _ h)) (i - s) x h
   have e1 : i / s = (i - s) / s + 1 := by rw [Nat.div_eq_sub_div hs (by omega)]
   have e2 : i % s = (i - s) % s := Nat.mod_eq_sub_mod (by omega)
   exact ⟨q, by rw [e1, List.getElem?_cons_succ]; exact h1, by rw [e2]; exact h2⟩
theorem flat_length {s : Nat} : ∀ {xs : List (List Value)}, (∀ r ∈ xs, r.length = s) → xs.flatten.length = xs.length * s
 |[], _ => by simp
 |r :: xs, h => by
  rw [List.flatten_cons, List.length_append, flat_length fun r hr => h r (List.mem_cons_of_mem _ hr), h r List.mem_cons_self, List.length_cons, Nat.add_mul, Nat.one_mul]; omega
theorem Row.all {σ : H} {s n c : Nat} {a : Option Addr} {xs : List (List Value)} (hs : 0 < s) (h : Row σ s (.slice a n c) xs) (hl : ∀ r ∈ xs, r.length = s) (hn : 0 < n) : ∃ b off, a = some ⟨b, off, none⟩ ∧ rdN σ ⟨b, off, none⟩ (n * s) = some xs.flatten := by
 have hx : n = xs.length := by obtain ⟨b, cap, h3, _⟩ := h; injection h3
 have h0 : xs[0]? = some (xs[0]'(by omega)) := by simp
 obtain ⟨b, off, rfl, _⟩ := h.at h0
 refine ⟨b, off, rfl, rdN_ones (Nat.mul_pos hn hs) (by rw [flat_length hl, hx]) fun i x hi => ?_⟩
 obtain ⟨r, h1, h2⟩ := flat_get hs hl i x hi
 obtain ⟨b', off', e, h3⟩ := h.at h1
 injection e with e
 injection e with e1 e2
 subst e1 e2
 have hm : i % s < s := Nat.mod_lt _ hs
 have := rdN_sub h3 (a := i % s) (m := 1) (by omega)
 rw [show off + i / s * s + i % s = off + i by have := Nat.div_add_mod i s; rw [Nat.mul_comm] at this; omega] at this
 rw [this]
 congr 1
 have hlt := (List.getElem?_eq_some_iff.1 h2).1
 rw [List.drop_eq_getElem_cons hlt, List.take_succ_cons, List.take_zero, (List.getElem?_eq_some_iff.1 h2).2]
def Fr (n m : Nat) (a a' : Option Addr) : Prop := ∀ q, a' = some q → (n ≤ q.block ∧ q.block < m) ∨ ∃ p, a = some p ∧ p.block = q.block
theorem Fr.same {n m : Nat} {a : Option Addr} : Fr n m a a := fun q h => .inr ⟨q, h, rfl⟩
theorem Fr.none {n m : Nat} {a : Option Addr} : Fr n m a none := fun q h => by cases h
theorem Fr.new {n m b o : Nat} {a : Option Addr} (h : n ≤ b) (h2 : b < m) : Fr n m a (some ⟨b, o, .none⟩) := fun q hq => by cases hq; exact .inl ⟨h, h2⟩
def Away (b : Nat) (a : Option Addr) : Prop := ∀ q, a = some q → q.block ≠ b
def Below (n : Nat) (a : Option Addr) : Prop := ∀ q, a = some q → q.block < n
theorem Away.fr {b n m : Nat} {a a' : Option Addr} (h : Away b a) (hf : Fr n m a a') (hb : b < n) : Away b a' := fun q hq => by
 rcases hf q hq with h1 | ⟨p, h1, h2⟩
 ·omega
 ·rw [← h2]; exact h p h1
theorem Below.fr {n m : Nat} {a a' : Option Addr} (h : Below n a) (hf : Fr n m a a') (hb : n ≤ m) : Below m a' := fun q hq => by
 rcases hf q hq with h1 | ⟨p, h1, h2⟩
 ·exact h1.2
 ·rw [← h2]; have := h p h1; omega
theorem Below.mono {n m : Nat} {a : Option Addr} (h : Below n a) (hb : n ≤ m) : Below m a := fun q hq => by have := h q hq; omega
theorem Below.away {n b : Nat} {a : Option Addr} (h : Below n a) (hb : n ≤ b) : Away b a := fun q hq => by have := h q hq; omega
theorem Below.none {n : Nat} : Below n none := fun q h => by cases h
theorem Away.none {b : Nat} : Away b none := fun q h => by cases h
theorem Row.away {σ : H} {s n c b : Nat} {k : Blk} {a : Option Addr} {xs : List (List Value)} (h : Row σ s (.slice a n c) xs) (ha : Away b a) : Row (σ.setIfInBounds b k) s (.slice a n c) xs := by
 obtain ⟨base, cap, h1, h2⟩ := h
 refine ⟨base, cap, h1, fun i x hx => ?_⟩
 obtain ⟨b', off, rfl, h4⟩ := h2 i x hx
 refine ⟨b', off, rfl, ?_⟩
 injection h1 with h1
 have := ha _ h1
 rw [rdN_eq] at h4 ⊢
 show (if s = 0 then some [] else rdcN (σ.setIfInBounds b k)[b']? _ s) = _
 rw [get_set_ne (Ne.symm this)]
 exact h4
theorem Row.cut {σ : H} {s n c k : Nat} {a : Option Addr} {xs : List (List Value)} (h : Row σ s (.slice a n c) xs) (hc : CapOk s (.slice a n c)) (hk : k ≤ n) (hb : k < big) :
  ∃ a', sliceV s (.slice a n c) none (some (.int .i64 (k : Int))) (some (.int .i64 (k : Int))) = some (.slice a' k k) ∧ Row σ s (.slice a' k k) (xs.take k) ∧ CapOk s (.slice a' k k) ∧ ∀ n m, Fr n m a a' := by
 obtain ⟨h1, h2⟩ := hc.slice
 have hx : n = xs.length := by obtain ⟨b, cap, h3, _⟩ := h; injection h3
 have e1 : bnd (some (.int .i64 (k : Int))) c (capLow c) = some k := by simp only [bnd, asI]; rw [if_pos (by omega)]; simp
 have e2 : bnd (some (.int .i64 (k : Int))) n (capLow k) = some k := by simp only [bnd, asI]; rw [capLow_small hb, if_pos (by omega)]; simp
 refine ⟨a.map fun a => ⟨a.block, a.off + 0 * s, none⟩, ?_, ⟨a.map fun a => ⟨a.block, a.off + 0 * s, none⟩, k, ?_, ?_⟩, ⟨_, _, _, rfl, by rw [capLow_small hb]; exact Nat.le_refl _, .inl (csz_small hb)⟩, fun _ m q hq => .inr ?_⟩
 case refine_4 =>
  cases a with
  |none => cases hq
  |some p => cases hq; exact ⟨p, rfl, rfl⟩
 ·unfold sliceV
  simp only
  rw [if_pos h2]
  unfold bnds
  simp only [e1, e2]
  rw [show bnd none 0 k = some 0 from rfl]
  rfl
 ·rw [List.length_take, Nat.min_eq_left (by omega)]
 ·intro j x hx
  have hx' : xs[j]? = some x := by
   rw [List.getElem?_take] at hx
   split at hx
   ·exact hx
   ·cases hx
  obtain ⟨b, off, h3, h4⟩ := h.at hx'
  refine ⟨b, off, ?_, h4⟩
  rw [h3]; simp
theorem Row.grow {σ : H} {s bytes n : Nat} {a : Option Addr} {xs : List (List Value)} {r : List Value} {xa : Value} (hs : 0 < s) (h : Row σ s (.slice a n n) xs) (hl : ∀ r ∈ xs, r.length = s) (hx : xcells σ s xa = some (1, r)) (hr : r.length = s) (hb : (n + 1) * bytes ≤ 140737488355328) (hb0 : 0 < bytes) :
  ∃ v, append s bytes (.slice a n n) xa σ = some (v, σ.push (.cells 0 (xs ++ [r]).flatten (0, 0))) ∧ v = .slice (some ⟨σ.size, 0, none⟩) (n + 1) (inex s (n + 1)) ∧ Row (σ.push (.cells 0 (xs ++ [r]).flatten (0, 0))) s v (xs ++ [r]) ∧ CapOk s v := by
 have hn : n = xs.length := by obtain ⟨b, cap, h3, _⟩ := h; injection h3
 have hbig : n + 1 < big := by
  have : (n + 1) * 1 ≤ (n + 1) * bytes := Nat.mul_le_mul_left _ hb0
  have : (140737488355328 : Nat) < big := by decide
  omega
 have hfl : (xs ++ [r]).flatten = xs.flatten ++ r := by simp
 have hall : ∀ q ∈ xs ++ [r], q.length = s := by
  intro q hq
  rcases List.mem_append.1 hq with hq | hq
  ·exact hl q hq
  ·rw [List.mem_singleton.1 hq]; exact hr
 have happ : append s bytes (.slice a n n) xa σ = some (.slice (some ⟨σ.size, 0, none⟩) (n + 1) (inex s (n + 1)), σ.push (.cells 0 (xs ++ [r]).flatten (0, 0))) := by
  rw [hfl]
  simp only [append, hx]
  rw [if_neg (by rw [capLow_small (by omega)]; omega), if_pos ⟨hb, hb0⟩]
  rcases Nat.eq_zero_or_pos n with h0 | h0
  ·have hnil : xs = [] := List.length_eq_zero_iff.1 (by omega)
   subst hnil
   cases a with
   |none => simp only; rw [if_pos h0, h0]; rfl
   |some a =>
    simp only
    rw [show rdN σ a (n * s) = some [] by rw [h0, Nat.zero_mul]; simp [rdN], csz_small (by omega)]
    rfl
  ·obtain ⟨b, off, rfl, h5⟩ := Row.all hs h hl h0
   simp only [h5, csz_small (show n < big by omega), if_true]
 refine ⟨_, happ, rfl, ⟨some ⟨σ.size, 0, none⟩, inex s (n + 1), by simp [hn], fun i x hi => ⟨σ.size, 0, rfl, ?_⟩⟩, ⟨_, _, _, rfl, by rw [capLow_inex hbig]; exact Nat.le_refl _, .inr (csz_inex hbig)⟩⟩
 have hi' := (List.getElem?_eq_some_iff.1 hi).1
 have hlen := flat_length hall
 have hmul : i * s + s ≤ (xs ++ [r]).length * s := by rw [← Nat.succ_mul]; exact Nat.mul_le_mul_right _ hi'
 rw [rdN_eq, if_neg (by omega)]
 simp only [Array.getElem?_push_size, rdcN_cells]
 rw [if_pos (by rw [hlen]; omega)]
 congr 1
 rw [Nat.zero_add]
 apply List.ext_getElem?
 intro j
 rw [List.getElem?_take]
 have hxl : x.length = s := hall x (List.mem_of_getElem? hi)
 split
 ·rename_i hj
  rw [List.getElem?_drop]
  have hjj : (xs ++ [r]).flatten[i * s + j]? = some ((xs ++ [r]).flatten[i * s + j]'(by rw [hlen]; omega)) := List.getElem?_eq_getElem _
  obtain ⟨q, g1, g2⟩ := flat_get hs hall _ _ hjj
  have e1 : (i * s + j) / s = i := by rw [Nat.mul_comm, Nat.mul_add_div hs, Nat.div_eq_of_lt hj]; omega
  have e2 : (i * s + j) % s = j := by rw [Nat.mul_comm, Nat.mul_add_mod, Nat.mod_eq_of_lt hj]
  rw [e1, hi] at g1
  rw [e2] at g2
  injection g1 with g1
  rw [← g1] at g2
  rw [hjj]
  exact g2.symm
 ·rw [List.getElem?_eq_none (by omega)]
def appOk (L : Lg) (e : Ent) : Bool := decide (rightF e L.c = true ∧ e.count = countF L.E e.cpu)
def appF (L : Lg) (e : Ent) : Lg × Int := if 4096 ≤ L.E.length then (L, 2) else if appOk L e = true then (⟨L.d, L.c, L.E ++ [e], L.S⟩, 0) else (L, 3)
structure AB (σ τ : H) (l : List Value) (e : Ent) : Prop where
 old : Old σ τ
 sz : σ.size + 3 ≤ τ.size
 b0 : τ[σ.size]? = some (.cells 0 l (0, 0))
 b1 : τ[σ.size + 1]? = some (.cells 0 (entV e) (0, 0))
 b2 : τ[σ.size + 2]? = some (.cells 0 zeroL (0, 0))
theorem AB.old' {σ τ τ' : H} {l : List Value} {e : Ent} (h : AB σ τ l e) (ho : Old τ τ') : AB σ τ' l e :=
 have q := h.sz
 ⟨h.old.trans ho, Nat.le_trans h.sz ho.1, (ho.2 _ (by omega)).trans h.b0, (ho.2 _ (by omega)).trans h.b1, (ho.2 _ (by omega)).trans h.b2⟩
theorem AB.oldB {σ τ τ' : H} {l : List Value} {e : Ent} {b : Nat} (h : AB σ τ l e) (hb : σ.size + 3 ≤ b) (ho : OldB b τ τ') : AB σ τ' l e :=
 have q := h.sz
 ⟨⟨Nat.le_trans h.old.1 ho.1, fun c hc => by rw [ho.2 c (by omega) (by omega)]; exact h.old.2 c hc⟩, Nat.le_trans h.sz ho.1, (ho.2 _ (by omega) (by omega)).trans h.b0, (ho.2 _ (by omega) (by omega)).trans h.b1, (ho.2 _ (by omega) (by omega)).trans h.b2⟩
theorem ret19 {θ : H} {b : Nat} {d : List Int} {c : Int} {v w : Value} (hd : d.length = 16) (h : θ[b]? = some (.cells 0 zeroL (0, 0))) (ho : (recC d c v w).all Value.oneCell' = true) :
  wrN θ ⟨b, 0, none⟩ (recC d c v w) = some (θ.setIfInBounds b (.cells 1 (recC d c v w) (0, 0))) := by
 have lz : zeroL.length = 19 := rfl
 rw [wrN_eq, if_neg (by rw [rec_ne]; exact id), h, wrc_cells, if_pos ⟨by rw [rec_len hd, lz]; show 0 + 19 ≤ 19; omega, ho⟩, rec_sets hd lz]
 rfl
theorem Row.block {σ σ' : H} {s n c b o : Nat} {xs : List (List Value)} (h : Row σ s (.slice (some ⟨b, o, none⟩) n c) xs) (hb : σ'[b]? = σ[b]?) : Row σ' s (.slice (some ⟨b, o, none⟩) n c) xs := by
 obtain ⟨base, cap, h1, h2⟩ := h
 refine ⟨base, cap, h1, fun i x hx => ?_⟩
 obtain ⟨b', off, rfl, h4⟩ := h2 i x hx
 refine ⟨b', off, rfl, ?_⟩
 injection h1 with h1
 injection h1 with h1
 injection h1 with e1 e2
 subst e1
 rw [rdN_eq] at h4 ⊢
 show (if s = 0 then some [] else rdcN σ'[b]? _ s) = _
 rw [hb]
 exact h4
theorem lappend_app {σ : H} {l : List Value} {L : Lg} {a1 a2 : Option Addr} {b1 b2 : Nat} {e : Ent} (h : LgV σ l L a1 b1 a2 b2) (he : e.fit) (hc4 : L.c ≤ 4)
  (hR : ∀ j, ∀ hj : j < L.E.length, rightF L.E[j] L.c = true ∧ L.E[j].count = countF (L.E.take j) L.E[j].cpu) :
  App Tryd.prog (.func 22) #[] #[.agg l.toArray, .agg (entV e).toArray] σ fun v σ' => Old σ σ' ∧ ∃ l' a1' b1', v = .tuple #[.agg l'.toArray, .int .i64 (appF L e).2] ∧ LgV σ' l' (appF L e).1 a1' b1' a2 b2 ∧ Fr σ.size σ'.size a1 a1' := by
 refine App.of_sem mixed Tryd.func22 t22 k22 r22 (Nat.le_of_ble_eq_true rfl) ?_
 have hd := h.fit.d
 have hl := h.l
 subst hl
 rw [← ap_nil (σ := σ)]
 unfold s22
 have rs : ∀ z : List Value, z.length = 19 → ∀ v w, sets z 0 (recC L.d L.c v w) = recC L.d L.c v w := fun z hz v w => rec_sets hd hz
 by_cases hn : 4096 ≤ L.E.length
 ·have dn : decide ((4096 : Int) ≤ (L.E.length : Int)) = true := by rw [decide_eq_true]; omega
  have hf : appF L e = (L, 2) := if_pos hn
  simp only [↓eD, eZ, ↓reduceIte, Nat.reduceEqDiff, Nat.reduceAdd, Nat.reduceMul, reduceCtorEq, Nat.reduceLeDiff, Int.reduceLT, Int.reduceLE, Int.reduceToNat, Int.reduceEq, Nat.reduceLT, entV, rec17 hd, dn, rec_len hd, rec_take hd, rs, rec_one, rec_ne, undef_eq, hf]
  rw [ap_nil]
  exact ⟨.ap, _, a1, b1, rfl, h.Old .ap, .same⟩
 have dn : decide ((4096 : Int) ≤ (L.E.length : Int)) = false := by rw [decide_eq_false]; omega
 simp only [↓eD, eZ, ↓reduceIte, Nat.reduceEqDiff, Nat.reduceAdd, Nat.reduceMul, reduceCtorEq, Nat.reduceLeDiff, Int.reduceLT, Int.reduceLE, Int.reduceToNat, Int.reduceEq, Nat.reduceLT, entV, rec17 hd, dn, undef_eq]
 rw [← zeroL]
 generalize hRC : recC L.d L.c (.slice a1 L.E.length b1) (.slice a2 L.S.length b2) = RC at h
 refine loop_for (J := fun i ev τ => i ≤ L.E.length ∧ ev = [(2, .pointer (some ⟨σ.size, 0, none⟩)), (3, .pointer (some ⟨σ.size + 1, 0, none⟩)), (4, .pointer (some ⟨σ.size + 2, 0, none⟩)), (6, .pointer (some ⟨σ.size + 3, 0, none⟩)), (15, .slice a1 L.E.length b1), (16, .int .i64 (L.E.length : Int)), (17, .int .i64 (i : Int))] ∧ AB σ τ RC e ∧ σ.size + 4 ≤ τ.size ∧ ∃ ver C, τ[σ.size + 3]? = some (.cells ver (i64C C) (0, 0)) ∧ CntOk C (L.E.take i)) L.E.length
  ⟨by omega, rfl, ⟨.ap, by simp [ap_size], by rw [ap_new0]; rfl, by rw [ap_new]; rfl, by rw [ap_new]; rfl⟩, by simp [ap_size], 0, List.replicate 4 0, by rw [ap_new]; rfl, cnt_nil⟩ ?_
 rintro i ev τ hi ⟨_, rfl, hK, hsz, ver, C, hC, hCnt⟩
 have hfe := h.fit.n
 by_cases hlt : i < L.E.length
 ·have dl : decide ((i : Int) < (L.E.length : Int)) = true := by rw [decide_eq_true]; omega
  have hbd : (0:Int) ≤ (i:Int) ∧ (i:Int) < (L.E.length : Int) := by omega
  have hw : IntKind.wrap .i64 ((i:Int) + 1) = ((i + 1 : Nat) : Int) := by rw [wrap64' (by omega) (by omega)]; omega
  have hx : (L.E.map entV)[i]? = some (entV L.E[i]) := by simp [hlt]
  obtain ⟨b', off, rfl, h1⟩ := (h.E.Old hK.old).at hx
  have hr : ∀ l, rdN (ap τ l) ⟨b', off + i * 5, none⟩ 5 = some (entV L.E[i]) := fun l => rdN_old h1
  have htk : L.E.take (i + 1) = L.E.take i ++ [L.E[i]] := List.take_succ_eq_append_getElem hlt
  obtain ⟨hr1, hr2⟩ := hR i hlt
  rw [← ap_nil (σ := τ)]
  generalize hEi : L.E[i] = ei at hr htk hr1 hr2
  obtain ⟨hp0, hp1⟩ := right_cpu hr1
  have hK1 := hK.old' (Old.ap (l := [.cells 1 [.int .i64 ei.kind, .int .i64 ei.cpu, .int .i64 ei.count, .int .i64 ei.n, .string ei.data] (0, 0)]))
  have hC1 : (ap τ [.cells 1 [.int .i64 ei.kind, .int .i64 ei.cpu, .int .i64 ei.count, .int .i64 ei.n, .string ei.data] (0, 0)])[σ.size + 3]? = some (.cells ver (i64C C) (0, 0)) := (ap_old (by omega)).trans hC
  simp only [↓eD, eZ, ↓reduceIte, Nat.reduceEqDiff, Nat.reduceAdd, Nat.reduceMul, reduceCtorEq, Nat.reduceLeDiff, Int.reduceLT, Int.reduceLE, Int.reduceToNat, Int.reduceEq, Nat.reduceLT, dl, hbd, Int.toNat_natCast, hr, entV]
  refine appK_of (add_c_app (e := ei) hC1 hCnt.1 hp0 (by omega)) ?_
  rintro _ τ2 ⟨rfl, hOB, ver', hC2⟩
  have ht : (addF C ei).1 = true := by rw [cnt_add hCnt hp0 (by omega)]; exact decide_eq_true hr2
  simp only [↓eD, eZ, ↓reduceIte, Nat.reduceEqDiff, Nat.reduceAdd, Nat.reduceMul, reduceCtorEq, Nat.reduceLeDiff, Int.reduceLT, Int.reduceLE, Int.reduceToNat, Int.reduceEq, Nat.reduceLT, hw, undef_eq]
  refine ⟨hlt, by omega, hK1.oldB (by omega) hOB, Nat.le_trans (by first | omega | (simp [ap_size]; omega)) hOB.1, ver', _, hC2, ?_⟩
  rw [htk]
  exact cnt_step hCnt hp0 (by omega) ht
 have : i = L.E.length := by omega
 subst this
 rw [List.take_length] at hCnt
 have dl : decide ((L.E.length : Int) < (L.E.length : Int)) = false := by rw [decide_eq_false]; omega
 have g1 : rdN τ ⟨σ.size + 1, 0, none⟩ 5 = some (entV e) := rdN_all hK.b1 rfl
 have g16 : rd1 τ ⟨σ.size, 16, none⟩ = some (.int .i64 L.c) := by rw [rd1_eq, hK.b0, ← hRC]; exact rec16 hd
 simp only [↓eD, eZ, ↓reduceIte, Nat.reduceEqDiff, Nat.reduceAdd, Nat.reduceMul, reduceCtorEq, Nat.reduceLeDiff, Int.reduceLT, Int.reduceLE, Int.reduceToNat, Int.reduceEq, Nat.reduceLT, dl, g1, g16, undef_eq]
 refine appK_at lright_app ?_
 have lz : zeroL.length = 19 := rfl
 have bad : ∀ θ, AB σ θ RC e → ∃ θ', wrN θ ⟨σ.size + 2, 0, none⟩ RC = some θ' ∧ rdN θ' ⟨σ.size + 2, 0, none⟩ 19 = some RC ∧ Old σ θ' := fun θ hθ => by
  have lR : RC.length = 19 := by rw [← hRC]; exact rec_len hd
  have oR : RC.all Value.oneCell' = true := by rw [← hRC]; exact rec_one
  refine ⟨θ.setIfInBounds (σ.size + 2) (.cells 1 RC (0, 0)), ?_, rdN_all (get_set hθ.b2) lR, hθ.old.set (by omega)⟩
  rw [wrN_eq, if_neg (by intro h; rw [h] at lR; cases lR), hθ.b2, wrc_cells, if_pos ⟨by rw [lR, lz]; show 0 + 19 ≤ 19; omega, oR⟩, ← hRC, rs _ lz]
  rfl
 have lR : RC.length = 19 := by rw [← hRC]; exact rec_len hd
 have g0 : ∀ θ, AB σ θ RC e → rdN θ ⟨σ.size, 0, none⟩ 19 = some RC := fun θ hθ => rdN_all hθ.b0 lR
 by_cases hr : rightF e L.c = true
 case neg =>
  have hr' : rightF e L.c = false := by simpa using hr
  have hf : appF L e = (L, 3) := by
   unfold appF
   rw [if_neg hn, if_neg]
   intro h
   exact hr (of_decide_eq_true h).1
  obtain ⟨θ', w1, w2, w3⟩ := bad τ hK
  simp only [↓eD, eZ, ↓reduceIte, Nat.reduceEqDiff, Nat.reduceAdd, Nat.reduceMul, reduceCtorEq, Nat.reduceLeDiff, Int.reduceLT, Int.reduceLE, Int.reduceToNat, Int.reduceEq, Nat.reduceLT, hr', Bool.not_false, g0 τ hK, lR, w1, w2, hf, undef_eq]
  rw [ap_nil]
  exact ⟨w3, _, a1, b1, rfl, h.Old w3, .same⟩
 obtain ⟨hp0, hp1⟩ := right_cpu hr
 simp only [↓eD, eZ, ↓reduceIte, Nat.reduceEqDiff, Nat.reduceAdd, Nat.reduceMul, reduceCtorEq, Nat.reduceLeDiff, Int.reduceLT, Int.reduceLE, Int.reduceToNat, Int.reduceEq, Nat.reduceLT, hr, Bool.not_true, g1, undef_eq]
 refine appK_of (add_c_app (e := e) hC hCnt.1 hp0 (by omega)) ?_
 rintro _ τ2 ⟨rfl, hOB, ver', hC2⟩
 have hK2 := hK.oldB (by omega) hOB
 have hca := cnt_add hCnt hp0 (by omega)
 by_cases hq : e.count = countF L.E e.cpu
 case neg =>
  have ht : (addF C e).1 = false := by rw [hca]; exact decide_eq_false hq
  have hf : appF L e = (L, 3) := by
   unfold appF
   rw [if_neg hn, if_neg]
   intro h
   exact hq (of_decide_eq_true h).2
  obtain ⟨θ', w1, w2, w3⟩ := bad τ2 hK2
  simp only [↓eD, eZ, ↓reduceIte, Nat.reduceEqDiff, Nat.reduceAdd, Nat.reduceMul, reduceCtorEq, Nat.reduceLeDiff, Int.reduceLT, Int.reduceLE, Int.reduceToNat, Int.reduceEq, Nat.reduceLT, ht, Bool.not_false, g0 τ2 hK2, lR, w1, w2, hf, undef_eq]
  rw [ap_nil]
  exact ⟨w3, _, a1, b1, rfl, h.Old w3, .same⟩
 have ht : (addF C e).1 = true := by rw [hca]; exact decide_eq_true hq
 have hf : appF L e = (⟨L.d, L.c, L.E ++ [e], L.S⟩, 0) := by
  unfold appF
  rw [if_neg hn, if_pos (show appOk L e = true from decide_eq_true ⟨hr, hq⟩)]
 have g17 : ∀ l, rd1 (ap τ2 l) ⟨σ.size, 17, none⟩ = some (.slice a1 L.E.length b1) := fun l => rd1_old (by rw [rd1_eq, hK2.b0, ← hRC]; exact rec17 hd)
 have g12 : ∀ l, rdN (ap τ2 l) ⟨σ.size + 1, 0, none⟩ 5 = some (entV e) := fun l => rdN_old (rdN_all hK2.b1 rfl)
 obtain ⟨a', hsl, hrow, hcap, _⟩ := Row.cut h.E h.cE (Nat.le_refl _) (Nat.lt_trans (show L.E.length < 1000000000000000 by omega) (by decide))
 rw [List.take_of_length_le (by simp)] at hrow
 rw [← ap_nil (σ := τ2)]
 simp only [↓eD, eZ, ↓reduceIte, Nat.reduceEqDiff, Nat.reduceAdd, Nat.reduceMul, reduceCtorEq, Nat.reduceLeDiff, Int.reduceLT, Int.reduceLE, Int.reduceToNat, Int.reduceEq, Nat.reduceLT, ht, Bool.not_true, g17, g12, hsl, entV, undef_eq]
 generalize hX : ap τ2 [.cells 0 [.int .i64 e.kind, .int .i64 e.cpu, .int .i64 e.count, .int .i64 e.n, .string e.data] (0, 0)] = τ3
 have ho3 : Old τ2 τ3 := by rw [← hX]; exact .ap
 have hK3 := hK2.old' ho3
 have hxc : xcells τ3 5 (.slice (some ⟨τ2.size, 0, none⟩) 1 1) = some (1, entV e) := by
  rw [← hX]
  show (rdN (ap τ2 _) ⟨τ2.size, 0, none⟩ (1 * 5)).map (1, ·) = _
  simp only [rdN_ap0, List.getElem?_cons_zero, rdcN_cells]
  rfl
 have hln : ∀ r ∈ L.E.map entV, r.length = 5 := by
  intro r hr
  obtain ⟨x, _, rfl⟩ := List.mem_map.1 hr
  rfl
 obtain ⟨v2, hap, hv2, hrow2, hcap2⟩ := Row.grow (s := 5) (bytes := 48) (n := L.E.length) (by omega) (hrow.Old hK3.old) hln hxc rfl (by omega) (by omega)
 have ho4 : Old τ3 (τ3.push (.cells 0 (L.E.map entV ++ [entV e]).flatten (0, 0))) := old_push
 have hK4 := hK3.old' ho4
 have hs4 : τ3.size < (τ3.push (.cells 0 (L.E.map entV ++ [entV e]).flatten (0, 0))).size := by simp
 generalize τ3.push (.cells 0 (L.E.map entV ++ [entV e]).flatten (0, 0)) = τ4 at hap hrow2 ho4 hK4 hs4
 refine onV_of hap ?_
 have o2 : v2.oneCell' = true := by rw [hv2]; rfl
 have hz4 := hK4.sz
 have rc17 : ∀ v, RC.set 17 v = recC L.d L.c v (.slice a2 L.S.length b2) := fun v => by rw [← hRC]; exact rec_s17 hd
 have w17 : wrN τ4 ⟨σ.size, 17, none⟩ [v2] = some (τ4.setIfInBounds σ.size (.cells 1 (recC L.d L.c v2 (.slice a2 L.S.length b2)) (0, 0))) := by
  rw [wrN_eq, if_neg (by simp), hK4.b0, wrc_cells, if_pos ⟨by rw [lR]; show 17 + 1 ≤ 19; omega, by simp [o2]⟩, ← rc17]; rfl
 subst hv2
 have q0 : (τ4.setIfInBounds σ.size (.cells 1 (recC L.d L.c (.slice (some ⟨τ3.size, 0, none⟩) (L.E.length + 1) (inex 5 (L.E.length + 1))) (.slice a2 L.S.length b2)) (0, 0)))[σ.size]? = some (.cells 1 (recC L.d L.c (.slice (some ⟨τ3.size, 0, none⟩) (L.E.length + 1) (inex 5 (L.E.length + 1))) (.slice a2 L.S.length b2)) (0, 0)) := get_set hK4.b0
 have q2 : (τ4.setIfInBounds σ.size (.cells 1 (recC L.d L.c (.slice (some ⟨τ3.size, 0, none⟩) (L.E.length + 1) (inex 5 (L.E.length + 1))) (.slice a2 L.S.length b2)) (0, 0)))[σ.size + 2]? = some (.cells 0 zeroL (0, 0)) := (get_set_ne (by omega)).trans hK4.b2
 have oo : Old σ (τ4.setIfInBounds σ.size (.cells 1 (recC L.d L.c (.slice (some ⟨τ3.size, 0, none⟩) (L.E.length + 1) (inex 5 (L.E.length + 1))) (.slice a2 L.S.length b2)) (0, 0))) := hK4.old.set (Nat.le_refl _)
 have hbk : τ3.size ≠ σ.size ∧ τ3.size ≠ σ.size + 2 := by have := hK3.sz; omega
 have hblk : ∀ k k' : Blk, ((τ4.setIfInBounds σ.size k).setIfInBounds (σ.size + 2) k')[τ3.size]? = τ4[τ3.size]? := fun k k' => (get_set_ne (Ne.symm hbk.2)).trans (get_set_ne (Ne.symm hbk.1))
 simp only [↓eD, eZ, ↓reduceIte, Nat.reduceEqDiff, Nat.reduceAdd, Nat.reduceMul, reduceCtorEq, Nat.reduceLeDiff, Int.reduceLT, Int.reduceLE, Int.reduceToNat, Int.reduceEq, Nat.reduceLT, w17, undef_eq]
 have q0' := rdN_all q0 (rec_len hd)
 have w2 := ret19 hd q2 (v := .slice (some ⟨τ3.size, 0, none⟩) (L.E.length + 1) (inex 5 (L.E.length + 1))) (w := .slice a2 L.S.length b2) (c := L.c) rec_one
 have r2 := rdN_all (get_set (k := .cells 1 (recC L.d L.c (.slice (some ⟨τ3.size, 0, none⟩) (L.E.length + 1) (inex 5 (L.E.length + 1))) (.slice a2 L.S.length b2)) (0, 0)) q2) (rec_len hd)
 simp only [↓eD, eZ, ↓reduceIte, Nat.reduceEqDiff, Nat.reduceAdd, Nat.reduceMul, reduceCtorEq, Nat.reduceLeDiff, Int.reduceLT, Int.reduceLE, Int.reduceToNat, Int.reduceEq, Nat.reduceLT, q0', rec_len hd, w2, r2, undef_eq]
 rw [ap_nil, hf]
 have O : Old σ ((τ4.setIfInBounds σ.size (.cells 1 (recC L.d L.c (.slice (some ⟨τ3.size, 0, none⟩) (L.E.length + 1) (inex 5 (L.E.length + 1))) (.slice a2 L.S.length b2)) (0, 0))).setIfInBounds (σ.size + 2) (.cells 1 (recC L.d L.c (.slice (some ⟨τ3.size, 0, none⟩) (L.E.length + 1) (inex 5 (L.E.length + 1))) (.slice a2 L.S.length b2)) (0, 0))) := oo.set (by omega)
 have hlen : (L.E ++ [e]).length = L.E.length + 1 := by simp
 refine ⟨O, _, some ⟨τ3.size, 0, none⟩, inex 5 (L.E.length + 1), rfl, ⟨by simp only [hlen], ?_, h.S.Old O, ?_, h.cS, ⟨hd, h.fit.c, ?_, by simp only [hlen]; omega⟩, h.ok, h.nS⟩, .new (by have := hK3.sz; omega) (by simp only [Array.size_setIfInBounds]; exact hs4)⟩
 ·simp only [hlen]
  rw [List.map_append]
  exact Row.block hrow2 (hblk _ _)
 ·simp only [hlen]; exact hcap2
 ·intro x hx
  rcases List.mem_append.1 hx with hx | hx
  ·exact h.fit.E x hx
  ·rw [List.mem_singleton.1 hx]; exact he
def cutK (n : Int) : List Sea → Nat
 |[] => 0
 |s :: r => if s.end_ ≤ n then cutK n r + 1 else 0
theorem cutK_le {n : Int} : ∀ {S : List Sea}, cutK n S ≤ S.length
 |[] => Nat.le_refl _
 |s :: r => by
  rw [cutK]
  split
  ·have := cutK_le (n := n) (S := r); simp; omega
  ·simp
theorem cutK_step {n : Int} : ∀ {S : List Sea} {i : Nat} (h : i < S.length), i ≤ cutK n S → ((S[i].end_ ≤ n ∧ i + 1 ≤ cutK n S) ∨ (¬S[i].end_ ≤ n ∧ i = cutK n S))
 |s :: r, 0, h, _ => by
  rw [cutK]
  by_cases hs : s.end_ ≤ n
  ·rw [if_pos hs]; exact .inl ⟨hs, by omega⟩
  ·rw [if_neg hs]; exact .inr ⟨hs, rfl⟩
 |s :: r, i + 1, h, hi => by
  rw [cutK] at hi ⊢
  by_cases hs : s.end_ ≤ n
  ·rw [if_pos hs] at hi ⊢
   rcases cutK_step (n := n) (S := r) (i := i) (by simpa using h) (by omega) with ⟨h1, h2⟩ | ⟨h1, h2⟩
   ·exact .inl ⟨h1, by omega⟩
   ·exact .inr ⟨h1, by omega⟩
  ·rw [if_neg hs] at hi; omega
def lcutF (L : Lg) (n : Int) : Lg × Int := if n < 0 ∨ (L.E.length : Int) < n then (.zero, 1) else (⟨L.d, L.c, L.E.take n.toNat, L.S.take (cutK n L.S)⟩, 0)
theorem lcut_app {σ : H} {l : List Value} {L : Lg} {a1 a2 : Option Addr} {b1 b2 : Nat} {n : Int} (h : LgV σ l L a1 b1 a2 b2) :
  App Tryd.prog (.func 25) #[] #[.agg l.toArray, .int .i64 n] σ fun v σ' => Old σ σ' ∧ ∃ l' a1' b1' a2' b2', v = .tuple #[.agg l'.toArray, .int .i64 (lcutF L n).2] ∧ LgR σ' l' (lcutF L n).1 a1' b1' a2' b2' ∧ (¬(n < 0 ∨ (L.E.length : Int) < n) → LgV σ' l' (lcutF L n).1 a1' b1' a2' b2') ∧ Fr σ.size σ'.size a1 a1' ∧ Fr σ.size σ'.size a2 a2' := by
 refine App.of_sem mixed Tryd.func25 t25 k25 r25 (Nat.le_of_ble_eq_true rfl) ?_
 have hd := h.fit.d
 have hl := h.l
 subst hl
 rw [← ap_nil (σ := σ)]
 unfold s25
 have zr : ∀ θ, Old σ θ → LgR θ zeroL Lg.zero none 0 none 0 := fun θ _ => ⟨rfl, rfl, ⟨none, 0, rfl, fun i x h => by simp [Lg.zero] at h⟩, ⟨none, 0, rfl, fun i x h => by simp [Lg.zero] at h⟩, fun s h => by simp [Lg.zero] at h⟩
 by_cases h1 : n < 0
 ·have d1 : decide (n < 0) = true := decide_eq_true h1
  have hf : lcutF L n = (.zero, 1) := if_pos (.inl h1)
  simp only [↓eD, eZ, ↓reduceIte, Nat.reduceEqDiff, Nat.reduceAdd, Nat.reduceMul, reduceCtorEq, Nat.reduceLeDiff, Int.reduceLT, Int.reduceLE, Int.reduceToNat, Int.reduceEq, Nat.reduceLT, d1, undef_eq, hf]
  rw [ap_nil]
  exact ⟨.ap, zeroL, none, 0, none, 0, rfl, zr _ .ap, fun hh => absurd (.inl h1) hh, .none, .none⟩
 have d1 : decide (n < 0) = false := decide_eq_false h1
 by_cases h2 : (L.E.length : Int) < n
 ·have d2 : decide ((L.E.length : Int) < n) = true := decide_eq_true h2
  have hf : lcutF L n = (.zero, 1) := if_pos (.inr h2)
  simp only [↓eD, eZ, ↓reduceIte, Nat.reduceEqDiff, Nat.reduceAdd, Nat.reduceMul, reduceCtorEq, Nat.reduceLeDiff, Int.reduceLT, Int.reduceLE, Int.reduceToNat, Int.reduceEq, Nat.reduceLT, rec17 hd, d1, d2, undef_eq, hf]
  rw [ap_nil]
  exact ⟨.ap, zeroL, none, 0, none, 0, rfl, zr _ .ap, fun hh => absurd (.inr h2) hh, .none, .none⟩
 have d2 : decide ((L.E.length : Int) < n) = false := decide_eq_false h2
 obtain ⟨N, rfl⟩ : ∃ N : Nat, n = (N : Int) := ⟨n.toNat, by omega⟩
 have hf : lcutF L (N : Int) = (⟨L.d, L.c, L.E.take N, L.S.take (cutK N L.S)⟩, 0) := by unfold lcutF; rw [if_neg (by omega), Int.toNat_natCast]
 have hfs := h.nS
 have hfe := h.fit.n
 simp only [↓eD, eZ, ↓reduceIte, Nat.reduceEqDiff, Nat.reduceAdd, Nat.reduceMul, reduceCtorEq, Nat.reduceLeDiff, Int.reduceLT, Int.reduceLE, Int.reduceToNat, Int.reduceEq, Nat.reduceLT, rec17 hd, d1, d2, undef_eq]
 rw [← zeroL]
 refine loop_for (J := fun i e τ => i ≤ L.S.length ∧ e = [(1, .int .i64 (N : Int)), (2, .pointer (some ⟨σ.size, 0, none⟩)), (4, .pointer (some ⟨σ.size + 1, 0, none⟩)), (6, .int .i64 (i : Int))] ∧ τ = ap σ [.cells 0 (recC L.d L.c (.slice a1 L.E.length b1) (.slice a2 L.S.length b2)) (0, 0), .cells 0 zeroL (0, 0)] ∧ i ≤ cutK N L.S) L.S.length ⟨by omega, rfl, rfl, by omega⟩ ?_
 rintro i e τ hi ⟨_, rfl, rfl, hck⟩
 obtain ⟨aE, sE, rE, cE, fE⟩ := Row.cut (k := N) h.E h.cE (by omega) (Nat.lt_trans (show N < 1000000000000000 by omega) (by decide))
 have lt : (L.E.map entV).take N = (L.E.take N).map entV := by rw [List.map_take]
 have lN : (L.E.take N).length = N := by rw [List.length_take]; omega
 rw [lt] at rE
 have lz : zeroL.length = 19 := rfl
 by_cases hgo : i < L.S.length ∧ ∃ hlt : i < L.S.length, L.S[i].end_ ≤ (N : Int)
 ·obtain ⟨hlt, _, hen⟩ := hgo
  have dl : decide ((i : Int) < (L.S.length : Int)) = true := by rw [decide_eq_true]; omega
  have d3 : decide (L.S[i].end_ ≤ (N : Int)) = true := decide_eq_true hen
  have hbd : (0:Int) ≤ (i:Int) ∧ (i:Int) < (L.S.length : Int) := by omega
  have hw : IntKind.wrap .i64 ((i:Int) + 1) = ((i + 1 : Nat) : Int) := by rw [wrap64' (by omega) (by omega)]; omega
  have hx : (L.S.map seaV)[i]? = some (seaV L.S[i]) := by simp [hlt]
  obtain ⟨b', off, rfl, h3⟩ := h.S.at hx
  have hr : ∀ l, rd1 (ap σ l) ⟨b', off + i * 33, none⟩ = some (.int .i64 L.S[i].end_) := fun l => rd1_row (rdN_old h3) (j := 0) rfl
  have h4 : i + 1 ≤ cutK N L.S := by
   rcases cutK_step (n := (N : Int)) hlt hck with ⟨_, h5⟩ | ⟨h5, _⟩
   ·exact h5
   ·exact absurd hen h5
  simp only [↓eD, eZ, ↓reduceIte, Nat.reduceEqDiff, Nat.reduceAdd, Nat.reduceMul, reduceCtorEq, Nat.reduceLeDiff, Int.reduceLT, Int.reduceLE, Int.reduceToNat, Int.reduceEq, Nat.reduceLT, rec18 hd, dl, hbd, Int.toNat_natCast, hr, d3, hw, undef_eq]
  exact ⟨hlt, by omega, h4⟩
 have hik : i = cutK N L.S := by
  by_cases hlt : i < L.S.length
  ·rcases cutK_step (n := (N : Int)) hlt hck with ⟨h5, _⟩ | ⟨_, h5⟩
   ·exact absurd ⟨hlt, hlt, h5⟩ hgo
   ·exact h5
  ·have := cutK_le (n := (N : Int)) (S := L.S); omega
 obtain ⟨aS, sS, rS, cS, fS⟩ := Row.cut (k := i) h.S h.cS hi (Nat.lt_trans (show i < 1000000000000000 by omega) (by decide))
 have ls : (L.S.map seaV).take i = (L.S.take i).map seaV := by rw [List.map_take]
 have lS : (L.S.take i).length = i := by rw [List.length_take]; omega
 rw [ls] at rS
 have rs : ∀ z : List Value, z.length = 19 → ∀ v w, sets z 0 (recC L.d L.c v w) = recC L.d L.c v w := fun z hz v w => rec_sets hd hz
 rw [hf, ← hik]
 have fin : ∀ θ m, Old σ θ → Old σ θ ∧ ∃ l' a1' b1' a2' b2', (Value.tuple #[.agg (recC L.d L.c (.slice aE N N) (.slice aS i i)).toArray, .int .i64 0] = Value.tuple #[.agg l'.toArray, .int .i64 0]) ∧ LgR θ l' ⟨L.d, L.c, L.E.take N, L.S.take i⟩ a1' b1' a2' b2' ∧ (¬((N : Int) < 0 ∨ (L.E.length : Int) < (N : Int)) → LgV θ l' ⟨L.d, L.c, L.E.take N, L.S.take i⟩ a1' b1' a2' b2') ∧ Fr σ.size m a1 a1' ∧ Fr σ.size m a2 a2' := fun θ m hθ => by
  have hV : LgV θ (recC L.d L.c (.slice aE N N) (.slice aS i i)) ⟨L.d, L.c, L.E.take N, L.S.take i⟩ aE N aS i :=
   ⟨by simp only [lN, lS], by simp only [lN]; exact rE.Old hθ, by simp only [lS]; exact rS.Old hθ, by simp only [lN]; exact cE, by simp only [lS]; exact cS, ⟨hd, h.fit.c, fun e he => h.fit.E e (List.mem_of_mem_take he), by simp only [lN]; omega⟩, fun s hs => h.ok s (List.mem_of_mem_take hs), by simp only [lS]; omega⟩
  exact ⟨hθ, _, aE, N, aS, i, rfl, hV.r, fun _ => hV, fE _ _, fS _ _⟩
 by_cases hlt : i < L.S.length
 ·have dl : decide ((i : Int) < (L.S.length : Int)) = true := by rw [decide_eq_true]; omega
  have hen : ¬L.S[i].end_ ≤ (N : Int) := fun h5 => hgo ⟨hlt, hlt, h5⟩
  have d3 : decide (L.S[i].end_ ≤ (N : Int)) = false := decide_eq_false hen
  have hbd : (0:Int) ≤ (i:Int) ∧ (i:Int) < (L.S.length : Int) := by omega
  have hx : (L.S.map seaV)[i]? = some (seaV L.S[i]) := by simp [hlt]
  obtain ⟨b', off, rfl, h3⟩ := h.S.at hx
  have hr : ∀ l, rd1 (ap σ l) ⟨b', off + i * 33, none⟩ = some (.int .i64 L.S[i].end_) := fun l => rd1_row (rdN_old h3) (j := 0) rfl
  simp only [↓eD, eZ, ↓reduceIte, Nat.reduceEqDiff, Nat.reduceAdd, Nat.reduceMul, reduceCtorEq, Nat.reduceLeDiff, Int.reduceLT, Int.reduceLE, Int.reduceToNat, Int.reduceEq, Nat.reduceLT, rec17 hd, rec18 hd, dl, hbd, Int.toNat_natCast, hr, d3, sE, sS, rec_s17 hd, rec_s18 hd, rec_len hd, rec_take hd, rs, lz, rec_one, rec_ne, undef_eq]
  rw [ap_nil]
  exact fin _ _ .ap
 ·have dl : decide ((i : Int) < (L.S.length : Int)) = false := by rw [decide_eq_false]; omega
  simp only [↓eD, eZ, ↓reduceIte, Nat.reduceEqDiff, Nat.reduceAdd, Nat.reduceMul, reduceCtorEq, Nat.reduceLeDiff, Int.reduceLT, Int.reduceLE, Int.reduceToNat, Int.reduceEq, Nat.reduceLT, rec17 hd, rec18 hd, dl, sE, sS, rec_s17 hd, rec_s18 hd, rec_len hd, rec_take hd, rs, lz, rec_one, rec_ne, undef_eq]
  rw [ap_nil]
  exact fin _ _ .ap
def digestF (L : Lg) (n : Int) : List Int × Int := if 0 ≤ n ∧ n ≤ (L.E.length : Int) then (chainF L.d L.c L.E n.toNat, 0) else (List.replicate 16 0, 1)
theorem ret16 {θ : H} {b ver : Nat} {d : List Int} (hd : d.length = 16) (h : θ[b]? = some (.cells ver (digC (List.replicate 16 0)) (0, 0))) : wrN θ ⟨b, 0, none⟩ (digC d) = some (θ.setIfInBounds b (.cells (ver + 1) (digC d) (0, 0))) := by
 rw [wrN_eq, if_neg (by rw [digC_ne' hd (by omega)]; exact id), h, wrc_cells, digC_sets (by simp [hd]), if_pos ⟨by simp [digC_length, hd], digC_one⟩]; rfl
theorem ldigest_app {σ : H} {l : List Value} {L : Lg} {a1 a2 : Option Addr} {b1 b2 : Nat} {n : Int} (h : LgV σ l L a1 b1 a2 b2) (hG : HGlob σ) :
  App Tryd.prog (.func 26) #[] #[.agg l.toArray, .int .i64 n] σ fun v σ' => σ' = σ ∧ v = .tuple #[.agg (digC (digestF L n).1).toArray, .int .i64 (digestF L n).2] := by
 refine App.forget (App.of_sem mixed Tryd.func26 t26 k26 r26 (Nat.le_of_ble_eq_true rfl) ?_)
 have hd := h.fit.d
 have hl := h.l
 subst hl
 rw [← ap_nil (σ := σ)]
 unfold s26
 have fl : ∀ (d : List Int) (x : Int), flat (.tuple #[.agg (digC d).toArray, .int .i64 x]) = true := fun d x => by simp [flat, digC, flat.flat1]
 simp only [↓eD, eZ, ↓reduceIte, Nat.reduceEqDiff, Nat.reduceAdd, Nat.reduceMul, reduceCtorEq, Nat.reduceLeDiff, Int.reduceLT, Int.reduceLE, Int.reduceToNat, Int.reduceEq, Nat.reduceLT, rec_len hd, rec_take hd, digC_rep]
 refine appK_of (chainf_app hd rfl rfl) ?_
 rintro _ _ ⟨rfl, rfl⟩
 simp only [↓eD, eZ, ↓reduceIte, Nat.reduceEqDiff, Nat.reduceAdd, Nat.reduceMul, reduceCtorEq, Nat.reduceLeDiff, Int.reduceLT, Int.reduceLE, Int.reduceToNat, Int.reduceEq, Nat.reduceLT]
 generalize hRC : recC L.d L.c (.slice a1 L.E.length b1) (.slice a2 L.S.length b2) = RC at h
 generalize hT : ap (ap σ [.cells 0 RC (0, 0), .cells 0 [.int .i64 n] (0, 0), .cells 0 (digC (List.replicate 16 0)) (0, 0), .cells 0 [.int .i64 0] (0, 0)]) [.cells 0 RC (0, 0)] = T
 have hTs : T.size = σ.size + 5 := by rw [← hT, ap_size, ap_size]; rfl
 have hO : Old σ T := by rw [← hT]; exact Old.ap.trans .ap
 have q1 : T[σ.size + 1]? = some (.cells 0 [.int .i64 n] (0, 0)) := by rw [← hT, ap_old (by simp [ap_size]), ap_new]; rfl
 have q2 : T[σ.size + 2]? = some (.cells 0 (digC (List.replicate 16 0)) (0, 0)) := by rw [← hT, ap_old (by simp [ap_size]), ap_new]; rfl
 have q3 : T[σ.size + 3]? = some (.cells 0 [.int .i64 0] (0, 0)) := by rw [← hT, ap_old (by simp [ap_size]), ap_new]; rfl
 have q4 : T[σ.size + 4]? = some (.cells 0 RC (0, 0)) := by
  rw [← hT, show σ.size + 4 = (ap σ [.cells 0 RC (0, 0), .cells 0 [.int .i64 n] (0, 0), .cells 0 (digC (List.replicate 16 0)) (0, 0), .cells 0 [.int .i64 0] (0, 0)]).size by simp [ap_size]]
  exact ap_new0
 clear hT
 refine rng_of (by kernel_rfl) fun R hY => ?_
 have hpz : (T.push (.loop 0 .ready none R)).size = T.size + 1 := by simp
 have hpo : Old T (T.push (.loop 0 .ready none R)) := old_push
 refine (chain1_app (L := L) (q := σ.size + 4) (a1 := a1) (b1 := b1) (a2 := a2) (b2 := b2) h.fit
  (fun i θ => Old σ θ ∧ T.size + 1 ≤ θ.size ∧ θ[σ.size + 1]? = some (.cells 0 [.int .i64 n] (0, 0)) ∧ θ[σ.size + 2]? = some (.cells 0 (digC (List.replicate 16 0)) (0, 0)) ∧ θ[σ.size + 3]? = some (.cells 0 [.int .i64 0] (0, 0)) ∧ θ[σ.size + 4]? = some (.cells 0 RC (0, 0)) ∧ (∃ ver, θ[T.size]? = some (.loop ver .ready none R)) ∧ ¬(0 ≤ n ∧ n < (i : Int)))
  (fun θ => Old σ θ ∧ θ[σ.size + 2]? = some (.cells 1 (digC (chainF L.d L.c L.E n.toNat)) (0, 0)) ∧ θ[σ.size + 3]? = some (.cells 1 [.int .i64 0] (0, 0)) ∧ (∃ ver, θ[T.size]? = some (.loop ver .done (some .ret) R)) ∧ 0 ≤ n ∧ n ≤ (L.E.length : Int))
  ⟨hO.trans hpo, by simp, (hpo.2 _ (by omega)).trans q1, (hpo.2 _ (by omega)).trans q2, (hpo.2 _ (by omega)).trans q3, (hpo.2 _ (by omega)).trans q4, ⟨0, by simp⟩, by omega⟩ ?_ ?_ ?_).mono ?_
 ·rintro i θ θ' ⟨o, z, q1, q2, q3, q4, ⟨vl, q5⟩, q6⟩ _ ⟨m1, m2⟩
  rw [hpz] at m2
  exact ⟨⟨Nat.le_trans o.1 m1, fun c hc => (m2 c (by omega)).trans (o.2 c hc)⟩, by omega, (m2 _ (by omega)).trans q1, (m2 _ (by omega)).trans q2, (m2 _ (by omega)).trans q3, (m2 _ (by omega)).trans q4, ⟨vl, (m2 _ (by omega)).trans q5⟩, q6⟩
 ·rintro i θ ⟨o, z, q1, q2, q3, q4, _⟩ _
  exact ⟨by rw [hRC]; exact q4, h.E.Old o, hG.Old o⟩
 ·rintro i hi θ hz ⟨o, z, q1, q2, q3, q4, ⟨vl, q5⟩, q6⟩
  have cl : (digC (chainF L.d L.c L.E i)).length = 16 := by rw [digC_length, chainF_len]
  have t2 := digC_take (l := chainF L.d L.c L.E i) chainF_len
  have u2 := digC_sets (z := List.replicate 16 0) (l := chainF L.d L.c L.E i) (by simp [chainF_len])
  have m2 := digC_ne' (l := chainF L.d L.c L.E i) chainF_len (by omega)
  refine yield_step hY q5 rfl [(3, .pointer (some ⟨σ.size + 1, 0, none⟩)), (4, .pointer (some ⟨σ.size + 2, 0, none⟩)), (5, .pointer (some ⟨σ.size + 3, 0, none⟩)), (6, .int .i64 (i : Int)), (7, .pointer (some ⟨θ.size, 0, none⟩))]
   (ap θ [.cells 1 (digC (chainF L.d L.c L.E i)) (0, 0)]) (fun A hA => ?_) ((ap_old (by omega)).trans q5) ?_
  ·rw [← ap_nil (σ := θ)]
   simp only [↓eD, eZ, ↓reduceIte, Nat.reduceEqDiff, Nat.reduceAdd, Nat.reduceMul, reduceCtorEq, Nat.reduceLeDiff, Int.reduceLT, Int.reduceLE, Int.reduceToNat, Int.reduceEq, Nat.reduceLT, digC_rep, digC_length, chainF_len, t2, u2, m2, digC_one, List.length_replicate]
   exact hA
  ·have hzz : T.size ≠ θ.size := by omega
   generalize hX : Blk.cells 1 (digC (chainF L.d L.c L.E i)) (0, 0) = X
   generalize hB : Blk.loop (vl + 1) .busy none R = Bk
   have o1 : Old σ ((ap θ [X]).setIfInBounds T.size Bk) := (o.trans .ap).set (by omega)
   have r1 := (get_set_ne (k := Bk) (by omega : T.size ≠ σ.size + 1)).trans ((ap_old (l := [X]) (by omega)).trans q1)
   have r2 := (get_set_ne (k := Bk) (by omega : T.size ≠ σ.size + 2)).trans ((ap_old (l := [X]) (by omega)).trans q2)
   have r3 := (get_set_ne (k := Bk) (by omega : T.size ≠ σ.size + 3)).trans ((ap_old (l := [X]) (by omega)).trans q3)
   have r4 := (get_set_ne (k := Bk) (by omega : T.size ≠ σ.size + 4)).trans ((ap_old (l := [X]) (by omega)).trans q4)
   have rl : ((ap θ [X]).setIfInBounds T.size Bk)[T.size]? = some Bk := get_set ((ap_old (l := [X]) (by omega)).trans q5)
   have rx : ((ap θ [X]).setIfInBounds T.size Bk)[θ.size]? = some X := (get_set_ne hzz).trans ap_new0
   have hsz1 : ((ap θ [X]).setIfInBounds T.size Bk).size = θ.size + 1 := by simp [ap_size]
   have hu : ∀ c, T.size + 1 ≤ c → c < θ.size → ((ap θ [X]).setIfInBounds T.size Bk)[c]? = θ[c]? := fun c h1 h2 => (get_set_ne (by omega)).trans (ap_old h2)
   generalize (ap θ [X]).setIfInBounds T.size Bk = η at o1 r1 r2 r3 r4 rl rx hsz1 hu
   subst hX
   rw [← hB] at rl
   have f1 : rd1 η ⟨σ.size + 1, 0, none⟩ = some (.int .i64 n) := by rw [rd1_eq, r1]; rfl
   have fx : rdN η ⟨θ.size, 0, none⟩ 16 = some (digC (chainF L.d L.c L.E i)) := rdN_all rx cl
   by_cases hin : (i : Int) = n
   ·have d1 : decide ((i : Int) = n) = true := decide_eq_true hin
    have w2 := ret16 (d := chainF L.d L.c L.E i) chainF_len r2
    have w3 : ∀ k, wrN (η.setIfInBounds (σ.size + 2) k) ⟨σ.size + 3, 0, none⟩ [.int .i64 0] = some ((η.setIfInBounds (σ.size + 2) k).setIfInBounds (σ.size + 3) (.cells 1 [.int .i64 0] (0, 0))) := fun k => ret_wr ((get_set_ne (by omega)).trans r3)
    have hnn : n.toNat = i := by omega
    simp only [↓eD, eZ, ↓reduceIte, Nat.reduceEqDiff, Nat.reduceAdd, Nat.reduceMul, reduceCtorEq, Nat.reduceLeDiff, Int.reduceLT, Int.reduceLE, Int.reduceToNat, Int.reduceEq, Nat.reduceLT, f1, fx, d1, digC_length, chainF_len, t2, w2, w3, undef_eq]
    refine ⟨vl + 1, .busy, none, (get_set_ne (by omega)).trans ((get_set_ne (by omega)).trans rl), ⟨by simp; omega, fun c c1 c2 => ?_⟩, .inr ⟨((o1.set (by omega)).set (by omega)).set (by omega), ?_, ?_, ⟨_, get_set ((get_set_ne (by omega)).trans ((get_set_ne (by omega)).trans rl))⟩, by omega, by omega⟩⟩
    ·rw [hpz] at c1
     exact (((get_set_ne (by omega)).trans (get_set_ne (by omega))).trans (get_set_ne (by omega))).trans (hu c c1 c2)
    ·rw [hnn]
     exact ((get_set_ne (by omega)).trans (get_set_ne (by omega))).trans (get_set r2)
    ·exact (get_set_ne (by omega)).trans (get_set ((get_set_ne (by omega)).trans r3))
   ·have d1 : decide ((i : Int) = n) = false := decide_eq_false hin
    simp only [↓eD, eZ, ↓reduceIte, Nat.reduceEqDiff, Nat.reduceAdd, Nat.reduceMul, reduceCtorEq, Nat.reduceLeDiff, Int.reduceLT, Int.reduceLE, Int.reduceToNat, Int.reduceEq, Nat.reduceLT, f1, d1, undef_eq]
    refine ⟨vl + 1, .busy, none, rl, ⟨by simp; omega, fun c c1 c2 => ?_⟩, .inl ⟨o1.set (by omega), by simp; omega, (get_set_ne (by omega)).trans r1, (get_set_ne (by omega)).trans r2, (get_set_ne (by omega)).trans r3, (get_set_ne (by omega)).trans r4, ⟨_, get_set rl⟩, by omega⟩⟩
    rw [hpz] at c1
    exact (get_set_ne (by omega)).trans (hu c c1 c2)
 ·rintro v θ (⟨o, z, q1, q2, q3, q4, ⟨vl, q5⟩, q6⟩ | ⟨o, q2, q3, ⟨vl, q5⟩, q6, q7⟩)
  ·have hf : digestF L n = (List.replicate 16 0, 1) := if_neg (by omega)
   refine ⟨vl, .ready, none, q5, by simp, ?_⟩
   have r2 := (get_set_ne (k := .loop (vl + 1) .exhausted none R) (by omega : T.size ≠ σ.size + 2)).trans q2
   have r3 := (get_set_ne (k := .loop (vl + 1) .exhausted none R) (by omega : T.size ≠ σ.size + 3)).trans q3
   have o1 : Old σ (θ.setIfInBounds T.size (.loop (vl + 1) .exhausted none R)) := o.set (by omega)
   generalize θ.setIfInBounds T.size (.loop (vl + 1) .exhausted none R) = η at r2 r3 o1
   have z16 : (List.replicate 16 (0 : Int)).length = 16 := rfl
   have w2 := ret16 (d := List.replicate 16 0) rfl r2
   have w3 : ∀ k, wrN (η.setIfInBounds (σ.size + 2) k) ⟨σ.size + 3, 0, none⟩ [.int .i64 1] = some ((η.setIfInBounds (σ.size + 2) k).setIfInBounds (σ.size + 3) (.cells 1 [.int .i64 1] (0, 0))) := fun k => ret_wr ((get_set_ne (by omega)).trans r3)
   have g2 : ∀ k, rdN ((η.setIfInBounds (σ.size + 2) (.cells 1 (digC (List.replicate 16 0)) (0, 0))).setIfInBounds (σ.size + 3) k) ⟨σ.size + 2, 0, none⟩ 16 = some (digC (List.replicate 16 0)) := fun k => rdN_all ((get_set_ne (by omega)).trans (get_set r2)) rfl
   have g3 : ∀ k, rd1 ((η.setIfInBounds (σ.size + 2) k).setIfInBounds (σ.size + 3) (.cells 1 [.int .i64 1] (0, 0))) ⟨σ.size + 3, 0, none⟩ = some (.int .i64 1) := fun k => ret_rd ((get_set_ne (by omega)).trans r3)
   simp only [↓eD, eZ, ↓reduceIte, Nat.reduceEqDiff, Nat.reduceAdd, Nat.reduceMul, reduceCtorEq, Nat.reduceLeDiff, Int.reduceLT, Int.reduceLE, Int.reduceToNat, Int.reduceEq, Nat.reduceLT, digC_rep, digC_length, z16, List.length_replicate, w2, w3, g2, g3, hf, undef_eq]
   exact ⟨(o1.set (by omega)).set (by omega), fl _ _⟩
  ·have hf : digestF L n = (chainF L.d L.c L.E n.toNat, 0) := if_pos ⟨q6, q7⟩
   refine ⟨vl, .done, some .ret, q5, by simp, ?_⟩
   have r2 := (get_set_ne (k := .loop (vl + 1) .exhausted (some .ret) R) (by omega : T.size ≠ σ.size + 2)).trans q2
   have r3 := (get_set_ne (k := .loop (vl + 1) .exhausted (some .ret) R) (by omega : T.size ≠ σ.size + 3)).trans q3
   have o1 : Old σ (θ.setIfInBounds T.size (.loop (vl + 1) .exhausted (some .ret) R)) := o.set (by omega)
   generalize θ.setIfInBounds T.size (.loop (vl + 1) .exhausted (some .ret) R) = η at r2 r3 o1
   have g2 : rdN η ⟨σ.size + 2, 0, none⟩ 16 = some (digC (chainF L.d L.c L.E n.toNat)) := rdN_all r2 (by rw [digC_length, chainF_len])
   have g3 : rd1 η ⟨σ.size + 3, 0, none⟩ = some (.int .i64 0) := by rw [rd1_eq, r3]; rfl
   simp only [↓eD, eZ, ↓reduceIte, Nat.reduceEqDiff, Nat.reduceAdd, Nat.reduceMul, reduceCtorEq, Nat.reduceLeDiff, Int.reduceLT, Int.reduceLE, Int.reduceToNat, Int.reduceEq, Nat.reduceLT, g2, g3, hf, undef_eq]
   exact ⟨o1, fl _ _⟩
@[irreducible] def sealF (key : ByteArray) (d : List Int) (n : Int) : List Int := ofF 292 [key, bytesS d, bytesS (intF n)]
theorem sealF_len {key : ByteArray} {d : List Int} {n : Int} : (sealF key d n).length = 16 := by rw [sealF]; exact ofF_len
theorem seal_of_app {σ : H} {key : ByteArray} {d : List Int} {n : Int} (hd : d.length = 16) (hn : I64 n) (hk : key.size < 100000000000) (hG : HGlob σ) :
  App Tryd.prog (.func 56) #[] #[.string key, .agg (digC d).toArray, .int .i64 n] σ fun v σ' => σ' = σ ∧ v = .agg (digC (sealF key d n)).toArray := by
 refine App.forget (App.of_sem mixed Tryd.func56 t56 k56 r56 (Nat.le_of_ble_eq_true rfl) ?_)
 unfold s56
 have e0 : ap σ [] = σ := ap_nil
 have hd' := digC_len hd
 have td := digC_take hd
 rw [← e0]
 have sa : sliceArr 16 1 (.pointer (some ⟨σ.size, 0, none⟩)) none none none = some (.slice (some ⟨σ.size, 0, none⟩) 16 16) := rfl
 simp only [↓eD, eZ, ↓reduceIte, Nat.reduceEqDiff, Nat.reduceAdd, Nat.reduceMul, reduceCtorEq, Nat.reduceLeDiff, Int.reduceLT, Int.reduceLE, Int.reduceToNat, Int.reduceEq, Nat.reduceLT, hd', td, sa, bytesOf_dig, dig_str, Option.bind_some]
 refine appK_of (wint_app hn.1 hn.2) ?_
 rintro v σ1 ⟨ho1, hg1⟩
 obtain ⟨bs, cc, rfl⟩ := hg1.slice
 have e1 : ap σ1 [] = σ1 := ap_nil
 obtain ⟨bk, off, rfl, h2⟩ := (hg1.old (Old.ap (l := []))).whl.at intF_pos
 rw [Nat.mul_one] at h2
 rw [← e1]
 have hz0 : σ1[σ.size]? = some (.cells 0 (digC d) (0, 0)) := (ho1.2 _ (by simp [ap_size])).trans (by rw [ap_new0]; rfl)
 have hlt0 : σ.size < σ1.size := (Array.getElem?_eq_some_iff.1 hz0).1
 have r0 : ∀ L, rdN (ap σ1 L) ⟨σ.size, 0, none⟩ 16 = some (digC d) := fun L => rdN_all ((ap_old hlt0).trans hz0) hd'
 simp only [↓eD, eZ, ↓reduceIte, Nat.reduceEqDiff, Nat.reduceAdd, Nat.reduceMul, reduceCtorEq, Nat.reduceLeDiff, Int.reduceLT, Int.reduceLE, Int.reduceToNat, Int.reduceEq, Nat.reduceLT, h2, Option.bind_some, bytesOf_dig, dig_str, r0]
 have hs2 : ∀ s ∈ [key, bytesS d, bytesS (intF n)], s.size < 100000000000 := by
  intro s hs
  have h10 : (intF n).length ≤ 10 := intF_len
  simp only [List.mem_cons, List.not_mem_nil, or_false] at hs
  rcases hs with rfl | rfl | rfl
  ·exact hk
  ·rw [bytesS_size]; omega
  ·rw [bytesS_size]; omega
 refine appK_at (hof_app (l := [key, bytesS d, bytesS (intF n)]) (whl_lit (ver := 0) (by rw [ap_new0]; rfl) rfl (by decide)) (by simp) hs2 (hG.Old ((Old.ap.trans ho1).trans .ap))) ?_
 have hz : σ1[σ.size + 1]? = some (.cells 0 (digC (List.replicate 16 0)) (0, 0)) := (ho1.2 _ (by simp [ap_size])).trans (by rw [ap_new]; rfl)
 have hlt : σ.size + 1 < σ1.size := (Array.getElem?_eq_some_iff.1 hz).1
 have hz' : ∀ L, (ap σ1 L)[σ.size + 1]? = some (.cells 0 (digC (List.replicate 16 0)) (0, 0)) := fun L => (ap_old hlt).trans hz
 have hof : ofF 292 [key, bytesS d, bytesS (intF n)] = sealF key d n := by rw [sealF]
 have t16 := digC_take (l := sealF key d n) sealF_len
 have w2 : ∀ L, wrN (ap σ1 L) ⟨σ.size + 1, 0, none⟩ (digC (sealF key d n)) = some ((ap σ1 L).setIfInBounds (σ.size + 1) (.cells 1 (digC (sealF key d n)) (0, 0))) := fun L => ret16 sealF_len (hz' L)
 have r2 : ∀ L, rdN ((ap σ1 L).setIfInBounds (σ.size + 1) (.cells 1 (digC (sealF key d n)) (0, 0))) ⟨σ.size + 1, 0, none⟩ 16 = some (digC (sealF key d n)) := fun L => rdN_all (get_set (hz' L)) (by rw [digC_length, sealF_len])
 simp only [↓eD, eZ, ↓reduceIte, Nat.reduceEqDiff, Nat.reduceAdd, Nat.reduceMul, reduceCtorEq, Nat.reduceLeDiff, Int.reduceLT, Int.reduceLE, Int.reduceToNat, Int.reduceEq, Nat.reduceLT, hof, digC_length, sealF_len, t16, w2, r2]
 exact ⟨((Old.ap.trans ho1).trans .ap).set (by omega), flat_dig⟩
def endF (S : List Sea) : Int := match S.getLast? with | none => 0 | some s => s.end_
theorem sealed_app {σ : H} {l : List Value} {L : Lg} {a1 a2 : Option Addr} {b1 b2 : Nat} (h : LgR σ l L a1 b1 a2 b2) (hm : L.S.length < 2000000000000) :
  App Tryd.prog (.func 55) #[] #[.agg l.toArray] σ fun v σ' => σ' = σ ∧ v = .int .i64 (endF L.S) := by
 refine App.forget (App.of_sem mixed Tryd.func55 t55 k55 r55 (Nat.le_of_ble_eq_true rfl) ?_)
 have hd := h.d
 have hl := h.l
 subst hl
 rw [← ap_nil (σ := σ)]
 unfold s55
 by_cases h0 : L.S.length = 0
 ·have d0 : decide ((L.S.length : Int) = 0) = true := by rw [decide_eq_true]; omega
  have he : endF L.S = 0 := by rw [List.length_eq_zero_iff.1 h0]; rfl
  simp only [↓eD, eZ, ↓reduceIte, Nat.reduceEqDiff, Nat.reduceAdd, Nat.reduceMul, reduceCtorEq, Nat.reduceLeDiff, Int.reduceLT, Int.reduceLE, Int.reduceToNat, Int.reduceEq, Nat.reduceLT, rec18 hd, d0, he, undef_eq]
  exact ⟨.ap, rfl⟩
 ·have d0 : decide ((L.S.length : Int) = 0) = false := by rw [decide_eq_false]; omega
  have hlt : L.S.length - 1 < L.S.length := by omega
  have hw : IntKind.wrap .i64 ((L.S.length : Int) - 1) = ((L.S.length - 1 : Nat) : Int) := by rw [wrap64' (by omega) (by omega)]; omega
  have hbd : (0:Int) ≤ ((L.S.length - 1 : Nat) : Int) ∧ ((L.S.length - 1 : Nat) : Int) < (L.S.length : Int) := by omega
  have hx : (L.S.map seaV)[L.S.length - 1]? = some (seaV L.S[L.S.length - 1]) := by simp [hlt]
  obtain ⟨b', off, rfl, h3⟩ := h.S.at hx
  have hr : ∀ l, rd1 (ap σ l) ⟨b', off + (L.S.length - 1) * 33, none⟩ = some (.int .i64 L.S[L.S.length - 1].end_) := fun l => rd1_row (rdN_old h3) (j := 0) rfl
  have he : endF L.S = L.S[L.S.length - 1].end_ := by
   unfold endF
   rw [List.getLast?_eq_getElem?, List.getElem?_eq_getElem hlt]
  simp only [↓eD, eZ, ↓reduceIte, Nat.reduceEqDiff, Nat.reduceAdd, Nat.reduceMul, reduceCtorEq, Nat.reduceLeDiff, Int.reduceLT, Int.reduceLE, Int.reduceToNat, Int.reduceEq, Nat.reduceLT, rec18 hd, d0, hw, hbd, Int.toNat_natCast, hr, he, undef_eq]
  exact ⟨.ap, rfl⟩
def keyOk (key : ByteArray) : List Sea → Bool
 |[] => true
 |s :: r => if s.seal_ = sealF key s.dig s.end_ then keyOk key r else false
def lsealedF (L : Lg) (key : ByteArray) : Int × Int := if keyOk key L.S = true then (endF L.S, 0) else (0, 8)
theorem lsealed_app {σ : H} {l : List Value} {L : Lg} {a1 a2 : Option Addr} {b1 b2 : Nat} {key : ByteArray} (h : LgV σ l L a1 b1 a2 b2) (hk : key.size < 100000000000) (hG : HGlob σ) :
  App Tryd.prog (.func 24) #[] #[.agg l.toArray, .string key] σ fun v σ' => σ' = σ ∧ v = .tuple #[.int .i64 (lsealedF L key).1, .int .i64 (lsealedF L key).2] := by
 refine App.forget (App.of_sem mixed Tryd.func24 t24 k24 r24 (Nat.le_of_ble_eq_true rfl) ?_)
 have hd := h.fit.d
 have hl := h.l
 subst hl
 rw [← ap_nil (σ := σ)]
 unfold s24
 simp only [↓eD, eZ, ↓reduceIte, Nat.reduceEqDiff, Nat.reduceAdd, Nat.reduceMul, reduceCtorEq, Nat.reduceLeDiff, Int.reduceLT, Int.reduceLE, Int.reduceToNat, Int.reduceEq, Nat.reduceLT, rec18 hd]
 generalize hRC : recC L.d L.c (.slice a1 L.E.length b1) (.slice a2 L.S.length b2) = RC at h
 have lR : RC.length = 19 := by rw [← hRC]; exact rec_len hd
 have hfs := h.nS
 refine loop_for (J := fun i e τ => i ≤ L.S.length ∧ e = [(1, .string key), (2, .pointer (some ⟨σ.size, 0, none⟩)), (9, .slice a2 L.S.length b2), (10, .int .i64 (L.S.length : Int)), (11, .int .i64 (i : Int))] ∧ Old σ τ ∧ τ[σ.size]? = some (.cells 0 RC (0, 0)) ∧ keyOk key (L.S.drop i) = keyOk key L.S) L.S.length
  ⟨by omega, rfl, .ap, by rw [ap_new0]; rfl, rfl⟩ ?_
 rintro i e τ hi ⟨_, rfl, ho, hb0, hkey⟩
 have hz : σ.size < τ.size := (Array.getElem?_eq_some_iff.1 hb0).1
 by_cases hlt : i < L.S.length
 ·have dl : decide ((i : Int) < (L.S.length : Int)) = true := by rw [decide_eq_true]; omega
  have hbd : (0:Int) ≤ (i:Int) ∧ (i:Int) < (L.S.length : Int) := by omega
  have hw : IntKind.wrap .i64 ((i:Int) + 1) = ((i + 1 : Nat) : Int) := by rw [wrap64' (by omega) (by omega)]; omega
  have hx : (L.S.map seaV)[i]? = some (seaV L.S[i]) := by simp [hlt]
  obtain ⟨b', off, rfl, h1⟩ := (h.S.Old ho).at hx
  have hr : ∀ l, rdN (ap τ l) ⟨b', off + i * 33, none⟩ 33 = some (seaV L.S[i]) := fun l => rdN_old h1
  obtain ⟨hok, hend⟩ := h.ok L.S[i] (by simp)
  have hstep : keyOk key (L.S.drop i) = if L.S[i].seal_ = sealF key L.S[i].dig L.S[i].end_ then keyOk key (L.S.drop (i + 1)) else false := by
   rw [List.drop_eq_getElem_cons hlt, keyOk]
  generalize hSi : L.S[i] = si at hr hok hend hstep
  have sl := seaV_len hok
  have so := seaV_one (s := si)
  have sf : ∀ z : List Value, z.length = 33 → sets z 0 (seaV si) = seaV si := fun z hz => by rw [sets_all (by omega)]; simp [sl, hz]
  have st : (seaV si).take 33 = seaV si := List.take_of_length_le (by omega)
  have sn : (seaV si = []) = False := eq_false (by simp [seaV])
  have hbx : ∀ L', (ap τ ([.cells 1 (seaV si) (0, 0)] ++ L'))[τ.size]? = some (.cells 1 (seaV si) (0, 0)) := fun L' => ap_new0
  have ld : (digC si.dig).length = 16 := by rw [digC_length, hok.1]
  have lsl : (digC si.seal_).length = 16 := by rw [digC_length, hok.2]
  have k17 : ((seaV si).drop 17).take 16 = digC si.seal_ := by
   unfold seaV
   rw [List.drop_succ_cons, List.drop_left' ld]
   exact List.take_of_length_le (by omega)
  have k1 : ((seaV si).drop 1).take 16 = digC si.dig := by
   unfold seaV
   rw [List.drop_succ_cons, List.drop_zero, List.take_left' ld]
  have s0 : (seaV si)[0]? = some (.int .i64 si.end_) := rfl
  rw [← ap_nil (σ := τ)]
  have ae := aggEq_dig (a := si.seal_) (b := sealF key si.dig si.end_) hok.2 sealF_len
  simp only [↓eD, eZ, ↓reduceIte, Nat.reduceEqDiff, Nat.reduceAdd, Nat.reduceMul, reduceCtorEq, Nat.reduceLeDiff, Int.reduceLT, Int.reduceLE, Int.reduceToNat, Int.reduceEq, Nat.reduceLT, dl, hbd, Int.toNat_natCast, hr, sl, so, sf, st, sn, s0, k1, k17, undef_eq]
  refine appK_at (seal_of_app hok.1 hend hk (hG.Old (ho.trans .ap))) ?_
  by_cases hq : si.seal_ = sealF key si.dig si.end_
  ·have d1 : decide (si.seal_ = sealF key si.dig si.end_) = true := decide_eq_true hq
   simp only [↓eD, eZ, ↓reduceIte, Nat.reduceEqDiff, Nat.reduceAdd, Nat.reduceMul, reduceCtorEq, Nat.reduceLeDiff, Int.reduceLT, Int.reduceLE, Int.reduceToNat, Int.reduceEq, Nat.reduceLT, sl, k1, k17, ae, d1, hw, undef_eq]
   exact ⟨hlt, by omega, ho.trans .ap, (ap_old hz).trans hb0, by rw [← hkey, hstep, if_pos hq]⟩
  ·have d1 : decide (si.seal_ = sealF key si.dig si.end_) = false := decide_eq_false hq
   have hf : lsealedF L key = (0, 8) := if_neg (by rw [← hkey, hstep, if_neg hq]; simp)
   simp only [↓eD, eZ, ↓reduceIte, Nat.reduceEqDiff, Nat.reduceAdd, Nat.reduceMul, reduceCtorEq, Nat.reduceLeDiff, Int.reduceLT, Int.reduceLE, Int.reduceToNat, Int.reduceEq, Nat.reduceLT, sl, k1, k17, ae, d1, hf, undef_eq]
   exact ⟨ho.trans .ap, by simp [flat, flat.flat1]⟩
 ·have : i = L.S.length := by omega
  subst this
  have dl : decide ((L.S.length : Int) < (L.S.length : Int)) = false := by rw [decide_eq_false]; omega
  have hall : keyOk key L.S = true := by rw [← hkey, List.drop_length]; rfl
  have hf : lsealedF L key = (endF L.S, 0) := if_pos hall
  have g0 : rdN τ ⟨σ.size, 0, none⟩ 19 = some RC := rdN_all hb0 lR
  simp only [↓eD, eZ, ↓reduceIte, Nat.reduceEqDiff, Nat.reduceAdd, Nat.reduceMul, reduceCtorEq, Nat.reduceLeDiff, Int.reduceLT, Int.reduceLE, Int.reduceToNat, Int.reduceEq, Nat.reduceLT, dl, g0, undef_eq]
  refine appK_at (sealed_app (h.r.Old ho) hfs) ?_
  simp only [↓eD, eZ, ↓reduceIte, Nat.reduceEqDiff, Nat.reduceAdd, Nat.reduceMul, reduceCtorEq, Nat.reduceLeDiff, Int.reduceLT, Int.reduceLE, Int.reduceToNat, Int.reduceEq, Nat.reduceLT, hf, undef_eq]
  exact ⟨ho, by simp [flat, flat.flat1]⟩
def newSeal (L : Lg) (key : ByteArray) : Sea := ⟨(L.E.length : Int), chainF L.d L.c L.E L.E.length, sealF key (chainF L.d L.c L.E L.E.length) (L.E.length : Int)⟩
def sealS (L : Lg) (key : ByteArray) : Lg × Int := if (L.E.length : Int) = endF L.S then (.zero, 4) else if 256 ≤ L.S.length then (.zero, 2) else (⟨L.d, L.c, L.E, L.S ++ [newSeal L key]⟩, 0)
theorem newSeal_ok {L : Lg} {key : ByteArray} (h : L.E.length < 2000000000000) : (newSeal L key).ok ∧ I64 (newSeal L key).end_ := ⟨⟨chainF_len, sealF_len⟩, by unfold newSeal I64; dsimp only; omega⟩
theorem lseal_app {σ : H} {l : List Value} {L : Lg} {a1 a2 : Option Addr} {b1 b2 : Nat} {key : ByteArray} (h : LgV σ l L a1 b1 a2 b2) (hk : key.size < 100000000000) (hG : HGlob σ) :
  App Tryd.prog (.func 23) #[] #[.agg l.toArray, .string key] σ fun v σ' => Old σ σ' ∧ ∃ l' a1' b1' a2' b2', v = .tuple #[.agg l'.toArray, .int .i64 (sealS L key).2] ∧ LgR σ' l' (sealS L key).1 a1' b1' a2' b2' ∧ ((sealS L key).2 = 0 → LgV σ' l' (sealS L key).1 a1' b1' a2' b2') ∧ Fr σ.size σ'.size a1 a1' ∧ Fr σ.size σ'.size a2 a2' := by
 refine App.of_sem mixed Tryd.func23 t23 k23 r23 (Nat.le_of_ble_eq_true rfl) ?_
 have hd := h.fit.d
 have hl := h.l
 subst hl
 rw [← ap_nil (σ := σ)]
 unfold s23
 have hfe := h.fit.n
 have hfs := h.nS
 have zr : ∀ θ, LgR θ zeroL Lg.zero none 0 none 0 := fun θ => ⟨rfl, rfl, ⟨none, 0, rfl, fun i x h => by simp [Lg.zero] at h⟩, ⟨none, 0, rfl, fun i x h => by simp [Lg.zero] at h⟩, fun s h => by simp [Lg.zero] at h⟩
 simp only [↓eD, eZ, ↓reduceIte, Nat.reduceEqDiff, Nat.reduceAdd, Nat.reduceMul, reduceCtorEq, Nat.reduceLeDiff, Int.reduceLT, Int.reduceLE, Int.reduceToNat, Int.reduceEq, Nat.reduceLT, rec17 hd, rec_len hd, rec_take hd]
 refine appK_at (sealed_app (h.r.Old .ap) hfs) ?_
 by_cases h1 : (L.E.length : Int) = endF L.S
 ·have d1 : decide ((L.E.length : Int) = endF L.S) = true := decide_eq_true h1
  have hf : sealS L key = (.zero, 4) := if_pos h1
  simp only [↓eD, eZ, ↓reduceIte, Nat.reduceEqDiff, Nat.reduceAdd, Nat.reduceMul, reduceCtorEq, Nat.reduceLeDiff, Int.reduceLT, Int.reduceLE, Int.reduceToNat, Int.reduceEq, Nat.reduceLT, d1, undef_eq, hf]
  rw [ap_nil]
  exact ⟨.ap, zeroL, none, 0, none, 0, rfl, zr _, fun hh => (by cases hh), .none, .none⟩
 have d1 : decide ((L.E.length : Int) = endF L.S) = false := decide_eq_false h1
 by_cases h2 : 256 ≤ L.S.length
 ·have d2 : decide ((256 : Int) ≤ (L.S.length : Int)) = true := by rw [decide_eq_true]; omega
  have hf : sealS L key = (.zero, 2) := by unfold sealS; rw [if_neg h1, if_pos h2]
  simp only [↓eD, eZ, ↓reduceIte, Nat.reduceEqDiff, Nat.reduceAdd, Nat.reduceMul, reduceCtorEq, Nat.reduceLeDiff, Int.reduceLT, Int.reduceLE, Int.reduceToNat, Int.reduceEq, Nat.reduceLT, rec18 hd, d1, d2, undef_eq, hf]
  rw [ap_nil]
  exact ⟨.ap, zeroL, none, 0, none, 0, rfl, zr _, fun hh => (by cases hh), .none, .none⟩
 have d2 : decide ((256 : Int) ≤ (L.S.length : Int)) = false := by rw [decide_eq_false]; omega
 have hf : sealS L key = (⟨L.d, L.c, L.E, L.S ++ [newSeal L key]⟩, 0) := by unfold sealS; rw [if_neg h1, if_neg h2]
 simp only [↓eD, eZ, ↓reduceIte, Nat.reduceEqDiff, Nat.reduceAdd, Nat.reduceMul, reduceCtorEq, Nat.reduceLeDiff, Int.reduceLT, Int.reduceLE, Int.reduceToNat, Int.reduceEq, Nat.reduceLT, rec_len hd, rec_take hd, rec18 hd, d1, d2, undef_eq]
 refine appK_at (ldigest_app (n := (L.E.length : Int)) (h.Old .ap) (hG.Old .ap)) ?_
 have hdg : digestF L (L.E.length : Int) = (chainF L.d L.c L.E L.E.length, 0) := by unfold digestF; rw [if_pos (by omega), Int.toNat_natCast]
 rw [hdg]
 obtain ⟨D, hD⟩ : ∃ D, D = chainF L.d L.c L.E L.E.length := ⟨_, rfl⟩
 have lD : D.length = 16 := by rw [hD]; exact chainF_len
 have t2 := digC_take (l := D) lD
 have u2 := digC_sets (z := List.replicate 16 0) (l := D) (by simp [lD])
 have m2 := digC_ne' (l := D) lD (by omega)
 obtain ⟨aS, sS, rS, cS, _⟩ := Row.cut (k := L.S.length) h.S h.cS (Nat.le_refl _) (Nat.lt_trans (show L.S.length < 1000000000000000 by omega) (by decide))
 rw [List.take_of_length_le (by simp)] at rS
 have hI : I64 (L.E.length : Int) := by unfold I64; omega
 rw [← hD]
 simp only [↓eD, eZ, ↓reduceIte, Nat.reduceEqDiff, Nat.reduceAdd, Nat.reduceMul, reduceCtorEq, Nat.reduceLeDiff, Int.reduceLT, Int.reduceLE, Int.reduceToNat, Int.reduceEq, Nat.reduceLT, rec18 hd, digC_rep, digC_length, lD, t2, u2, m2, digC_one, List.length_replicate, sS, undef_eq]
 refine appK_at (seal_of_app lD hI hk (hG.Old .ap)) ?_
 obtain ⟨Q, hQ⟩ : ∃ Q, Q = sealF key D (L.E.length : Int) := ⟨_, rfl⟩
 have lQ : Q.length = 16 := by rw [hQ]; exact sealF_len
 rw [← hQ]
 have ld : (digC D).length = 16 := by rw [digC_length, lD]
 have lq : (digC Q).length = 16 := by rw [digC_length, lQ]
 have sb1 : sets [.int .i64 (L.E.length : Int), .int .u8 0, .int .u8 0, .int .u8 0, .int .u8 0, .int .u8 0, .int .u8 0, .int .u8 0, .int .u8 0, .int .u8 0, .int .u8 0, .int .u8 0, .int .u8 0, .int .u8 0, .int .u8 0, .int .u8 0, .int .u8 0, .int .u8 0, .int .u8 0, .int .u8 0, .int .u8 0, .int .u8 0, .int .u8 0, .int .u8 0, .int .u8 0, .int .u8 0, .int .u8 0, .int .u8 0, .int .u8 0, .int .u8 0, .int .u8 0, .int .u8 0, .int .u8 0] 1 (digC D) = .int .i64 (L.E.length : Int) :: (digC D ++ List.replicate 16 (.int .u8 0)) := by
  rw [sets_all (by rw [ld]; simp), ld]
  simp
 have hN : seaV (newSeal L key) = .int .i64 (L.E.length : Int) :: (digC D ++ digC Q) := by
  unfold seaV newSeal
  dsimp only
  rw [← hD, ← hQ]
 have sb2 : sets (.int .i64 (L.E.length : Int) :: (digC D ++ List.replicate 16 (.int .u8 0))) 17 (digC Q) = seaV (newSeal L key) := by
  rw [hN, sets_all (by rw [lq]; simp [ld]), lq]
  rw [List.take_succ_cons, List.take_left' ld, List.drop_of_length_le (by simp [ld]), List.append_nil]
  rfl
 have lb1 : (Value.int .i64 (L.E.length : Int) :: (digC D ++ List.replicate 16 (.int .u8 0))).length = 33 := by simp [ld]
 obtain ⟨nok, nend⟩ := newSeal_ok (key := key) hfe
 have sl := seaV_len nok
 have so := seaV_one (s := newSeal L key)
 have sf : ∀ z : List Value, z.length = 33 → sets z 0 (seaV (newSeal L key)) = seaV (newSeal L key) := fun z hz => by rw [sets_all (by omega)]; simp [sl, hz]
 have st : (seaV (newSeal L key)).take 33 = seaV (newSeal L key) := List.take_of_length_le (by omega)
 have sn : (seaV (newSeal L key) = []) = False := eq_false (by simp [seaV])
 simp only [↓eD, eZ, ↓reduceIte, Nat.reduceEqDiff, Nat.reduceAdd, Nat.reduceMul, reduceCtorEq, Nat.reduceLeDiff, Int.reduceLT, Int.reduceLE, Int.reduceToNat, Int.reduceEq, Nat.reduceLT, rec18 hd, digC_length, lD, lQ, t2, sS, undef_eq, sb1, sb2, lb1, sl, so, sf, st, sn]
 rw [← zeroL]
 generalize hX : ap σ [.cells 0 (recC L.d L.c (.slice a1 L.E.length b1) (.slice a2 L.S.length b2)) (0, 0), .cells 0 zeroL (0, 0), .cells 1 (digC D) (0, 0), .cells 0 (seaV (newSeal L key)) (0, 0)] = τ3
 have ho3 : Old σ τ3 := by rw [← hX]; exact .ap
 have hs3 : τ3.size = σ.size + 4 := by rw [← hX]; simp [ap_size]
 have p0 : τ3[σ.size]? = some (.cells 0 (recC L.d L.c (.slice a1 L.E.length b1) (.slice a2 L.S.length b2)) (0, 0)) := by rw [← hX, ap_new0]; rfl
 have p1 : τ3[σ.size + 1]? = some (.cells 0 zeroL (0, 0)) := by rw [← hX, ap_new]; rfl
 have p3 : τ3[σ.size + 3]? = some (.cells 0 (seaV (newSeal L key)) (0, 0)) := by rw [← hX, ap_new]; rfl
 have hxc : xcells τ3 33 (.slice (some ⟨σ.size + 3, 0, none⟩) 1 1) = some (1, seaV (newSeal L key)) := by
  show (rdN τ3 ⟨σ.size + 3, 0, none⟩ (1 * 33)).map (1, ·) = _
  rw [rdN_all p3 (by rw [sl])]
  rfl
 have hln : ∀ r ∈ L.S.map seaV, r.length = 33 := by
  intro r hr
  obtain ⟨x, hx, rfl⟩ := List.mem_map.1 hr
  exact seaV_len (h.ok x hx).1
 obtain ⟨v2, hap, hv2, hrow2, hcap2⟩ := Row.grow (s := 33) (bytes := 40) (n := L.S.length) (by omega) (rS.Old ho3) hln hxc sl (by omega) (by omega)
 have ho4 : Old τ3 (τ3.push (.cells 0 (L.S.map seaV ++ [seaV (newSeal L key)]).flatten (0, 0))) := old_push
 have p0' := (ho4.2 σ.size (by omega)).trans p0
 have p1' := (ho4.2 (σ.size + 1) (by omega)).trans p1
 have ho5 := ho3.trans ho4
 have hs4 : τ3.size < (τ3.push (.cells 0 (L.S.map seaV ++ [seaV (newSeal L key)]).flatten (0, 0))).size := by simp
 generalize τ3.push (.cells 0 (L.S.map seaV ++ [seaV (newSeal L key)]).flatten (0, 0)) = τ4 at hap hrow2 ho4 p0' p1' ho5 hs4
 refine onV_of hap ?_
 subst hv2
 have o2 : (Value.slice (some ⟨τ3.size, 0, none⟩) (L.S.length + 1) (inex 33 (L.S.length + 1))).oneCell' = true := rfl
 have w18 : wrN τ4 ⟨σ.size, 18, none⟩ [.slice (some ⟨τ3.size, 0, none⟩) (L.S.length + 1) (inex 33 (L.S.length + 1))] = some (τ4.setIfInBounds σ.size (.cells 1 (recC L.d L.c (.slice a1 L.E.length b1) (.slice (some ⟨τ3.size, 0, none⟩) (L.S.length + 1) (inex 33 (L.S.length + 1)))) (0, 0))) := by
  rw [wrN_eq, if_neg (by simp), p0', wrc_cells, if_pos ⟨by rw [rec_len hd]; show 18 + 1 ≤ 19; omega, by simp [o2]⟩]
  have rc18 : (recC L.d L.c (.slice a1 L.E.length b1) (.slice a2 L.S.length b2)).set 18 (.slice (some ⟨τ3.size, 0, none⟩) (L.S.length + 1) (inex 33 (L.S.length + 1))) = recC L.d L.c (.slice a1 L.E.length b1) (.slice (some ⟨τ3.size, 0, none⟩) (L.S.length + 1) (inex 33 (L.S.length + 1))) := rec_s18 hd
  rw [← rc18]
  rfl
 have q0 := get_set (k := .cells 1 (recC L.d L.c (.slice a1 L.E.length b1) (.slice (some ⟨τ3.size, 0, none⟩) (L.S.length + 1) (inex 33 (L.S.length + 1)))) (0, 0)) p0'
 have q1 : (τ4.setIfInBounds σ.size (.cells 1 (recC L.d L.c (.slice a1 L.E.length b1) (.slice (some ⟨τ3.size, 0, none⟩) (L.S.length + 1) (inex 33 (L.S.length + 1)))) (0, 0)))[σ.size + 1]? = some (.cells 0 zeroL (0, 0)) := (get_set_ne (by omega)).trans p1'
 have q0' := rdN_all q0 (rec_len hd)
 have w2 := ret19 hd q1 (v := .slice a1 L.E.length b1) (w := .slice (some ⟨τ3.size, 0, none⟩) (L.S.length + 1) (inex 33 (L.S.length + 1))) (c := L.c) rec_one
 have r2 := rdN_all (get_set (k := .cells 1 (recC L.d L.c (.slice a1 L.E.length b1) (.slice (some ⟨τ3.size, 0, none⟩) (L.S.length + 1) (inex 33 (L.S.length + 1)))) (0, 0)) q1) (rec_len hd)
 have hblk : ∀ k k' : Blk, ((τ4.setIfInBounds σ.size k).setIfInBounds (σ.size + 1) k')[τ3.size]? = τ4[τ3.size]? := fun k k' => (get_set_ne (by omega)).trans (get_set_ne (by omega))
 have O := ((ho5.set (b := σ.size) (k := .cells 1 (recC L.d L.c (.slice a1 L.E.length b1) (.slice (some ⟨τ3.size, 0, none⟩) (L.S.length + 1) (inex 33 (L.S.length + 1)))) (0, 0)) (Nat.le_refl _)).set (b := σ.size + 1) (k := .cells 1 (recC L.d L.c (.slice a1 L.E.length b1) (.slice (some ⟨τ3.size, 0, none⟩) (L.S.length + 1) (inex 33 (L.S.length + 1)))) (0, 0)) (by omega))
 simp only [↓eD, eZ, ↓reduceIte, Nat.reduceEqDiff, Nat.reduceAdd, Nat.reduceMul, reduceCtorEq, Nat.reduceLeDiff, Int.reduceLT, Int.reduceLE, Int.reduceToNat, Int.reduceEq, Nat.reduceLT, w18, q0', rec_len hd, w2, r2, undef_eq]
 rw [ap_nil, hf]
 have hlen : (L.S ++ [newSeal L key]).length = L.S.length + 1 := by simp
 have hV : LgV ((τ4.setIfInBounds σ.size (.cells 1 (recC L.d L.c (.slice a1 L.E.length b1) (.slice (some ⟨τ3.size, 0, none⟩) (L.S.length + 1) (inex 33 (L.S.length + 1)))) (0, 0))).setIfInBounds (σ.size + 1) (.cells 1 (recC L.d L.c (.slice a1 L.E.length b1) (.slice (some ⟨τ3.size, 0, none⟩) (L.S.length + 1) (inex 33 (L.S.length + 1)))) (0, 0)))
   (recC L.d L.c (.slice a1 L.E.length b1) (.slice (some ⟨τ3.size, 0, none⟩) (L.S.length + 1) (inex 33 (L.S.length + 1)))) ⟨L.d, L.c, L.E, L.S ++ [newSeal L key]⟩ a1 b1 (some ⟨τ3.size, 0, none⟩) (inex 33 (L.S.length + 1)) := by
  refine ⟨by simp only [hlen], h.E.Old O, ?_, h.cE, ?_, ⟨hd, h.fit.c, h.fit.E, h.fit.n⟩, ?_, by simp only [hlen]; omega⟩
  ·simp only [hlen]
   rw [List.map_append]
   exact Row.block hrow2 (hblk _ _)
  ·simp only [hlen]; exact hcap2
  ·intro x hx
   rcases List.mem_append.1 hx with hx | hx
   ·exact h.ok x hx
   ·rw [List.mem_singleton.1 hx]; exact ⟨nok, nend⟩
 exact ⟨O, _, a1, b1, some ⟨τ3.size, 0, none⟩, inex 33 (L.S.length + 1), rfl, hV.r, fun _ => hV, .same, .new (by omega) (by simp only [Array.size_setIfInBounds]; exact hs4)⟩
set_option maxHeartbeats 1000000
theorem chkE_of {L : Lg} (h : rightsF L) : ∀ {f k : Nat}, chkE L f k = true
 |0, _ => rfl
 |f + 1, k => by
  rw [chkE]
  cases hk : L.E[k]? with
  |none => rfl
  |some e =>
   obtain ⟨hlt, rfl⟩ := List.getElem?_eq_some_iff.1 hk
   simp only
   rw [if_pos (h k hlt)]
   exact chkE_of h
theorem chkE_iff {L : Lg} : chkE L L.E.length 0 = true ↔ rightsF L :=
 ⟨fun h k hk => chkE_data (by omega) h k (by omega) hk, fun h => chkE_of h⟩
structure Good (L : Lg) : Prop where
 c1 : 1 ≤ L.c
 c4 : L.c ≤ 4
 nE : L.E.length ≤ 4096
 nS : L.S.length ≤ 256
 r : rightsF L
 s : chkS L.E.length L.S 0 = true
 d : chkD L L.S = true
theorem good_iff {L : Lg} : checkF L = 0 ↔ Good L := by
 constructor
 ·intro h
  unfold checkF at h
  split at h
  ·exact absurd h (by decide)
  split at h
  ·exact absurd h (by decide)
  split at h
  ·exact absurd h (by decide)
  split at h
  ·exact absurd h (by decide)
  split at h
  ·exact absurd h (by decide)
  rename_i h1 h2 h3 h4 h5
  exact ⟨by omega, by omega, by omega, by omega, chkE_iff.1 (by simpa using h3), by simpa using h4, by simpa using h5⟩
 ·intro h
  have := h.c1
  have := h.c4
  have := h.nE
  have := h.nS
  unfold checkF
  rw [if_neg (by omega), if_neg (by omega), if_neg (by rw [chkE_iff.2 h.r]; decide), if_neg (by rw [h.s]; decide), if_neg (by rw [h.d]; decide)]
theorem chkS_mono {n m : Nat} (hnm : n ≤ m) : ∀ {S : List Sea} {e : Int}, chkS n S e = true → chkS m S e = true
 |[], _, _ => rfl
 |s :: S, e, h => by
  rw [chkS] at h ⊢
  split at h
  ·cases h
  ·rw [if_neg (by omega)]; exact chkS_mono hnm h
theorem chainF_pre {d : List Int} {c : Int} {E F : List Ent} {n : Nat} (h : n ≤ E.length) (h2 : E = F.take E.length) : chainF d c F n = chainF d c E n := by
 unfold chainF
 rw [h2, List.take_take, Nat.min_eq_left h]
theorem chkD_ext {L M : Lg} {S : List Sea} (hd : L.d = M.d) (hc : L.c = M.c) (h : ∀ s ∈ S, 0 ≤ s.end_ ∧ s.end_ ≤ (L.E.length : Int)) (he : L.E = M.E.take L.E.length) (hk : chkD L S = true) : chkD M S = true := by
 induction S with
 |nil => rfl
 |cons s S ih =>
  rw [chkD] at hk ⊢
  split at hk
  ·rename_i h1
   have := h s List.mem_cons_self
   rw [if_pos (by rw [h1, hd, hc]; exact (chainF_pre (by omega) he).symm)]
   exact ih (fun s hs => h s (List.mem_cons_of_mem _ hs)) hk
  ·cases hk
theorem good_append {L : Lg} {e : Ent} (h : Good L) (hn : L.E.length < 4096) (he : appOk L e = true) : Good ⟨L.d, L.c, L.E ++ [e], L.S⟩ := by
 have he := of_decide_eq_true he
 refine ⟨h.c1, h.c4, by simp; omega, h.nS, ?_, ?_, ?_⟩
 ·intro k hk
  simp only [List.length_append, List.length_cons, List.length_nil] at hk
  by_cases hlt : k < L.E.length
  ·have := h.r k hlt
   simp only
   rw [List.getElem_append_left hlt, List.take_append_of_le_length (by omega)]
   exact this
  ·have : k = L.E.length := by omega
   subst this
   simp only
   rw [List.getElem_append_right (Nat.le_refl _), List.take_left']
   ·simpa using he
   ·rfl
 ·exact chkS_mono (by simp) h.s
 ·exact chkD_ext (L := L) (M := ⟨L.d, L.c, L.E ++ [e], L.S⟩) rfl rfl (chkS_bounds (Int.le_refl 0) h.s) (by simp) h.d
theorem good_app {L : Lg} {e : Ent} (h : Good L) : Good (appF L e).1 := by
 unfold appF
 split
 ·exact h
 ·split
  ·exact good_append h (by omega) (by assumption)
  ·exact h
theorem endF_bounds {L : Lg} (h : Good L) : 0 ≤ endF L.S ∧ endF L.S ≤ L.E.length := by
 unfold endF
 cases hl : L.S.getLast? with
 |none => simp
 |some s => exact chkS_bounds (Int.le_refl 0) h.s s (List.mem_of_getLast? hl)
theorem chkS_app {n : Nat} {s : Sea} : ∀ {S : List Sea} {e : Int}, chkS n S e = true → (match S.getLast? with | none => e | some q => q.end_) < s.end_ → s.end_ ≤ n → chkS n (S ++ [s]) e = true
 |[], e, _, h1, h2 => by
  rw [List.nil_append, chkS, if_neg (by simp at h1; omega)]; rfl
 |q :: S, e, h, h1, h2 => by
  rw [List.cons_append, chkS]
  rw [chkS] at h
  split at h
  ·cases h
  ·rename_i h3
   rw [if_neg h3]
   refine chkS_app h ?_ h2
   cases S with
   |nil => simpa using h1
   |cons r S => rw [List.getLast?_cons_cons] at h1; exact h1
theorem chkD_app {L : Lg} {s : Sea} : ∀ {S : List Sea}, chkD L S = true → s.dig = chainF L.d L.c L.E s.end_.toNat → chkD L (S ++ [s]) = true
 |[], _, h => by rw [List.nil_append, chkD, if_pos h]; rfl
 |q :: S, h1, h => by
  rw [List.cons_append, chkD]
  rw [chkD] at h1
  split at h1
  ·rename_i h2
   rw [if_pos h2]; exact chkD_app h1 h
  ·cases h1
theorem chkD_same {L M : Lg} (hd : L.d = M.d) (hc : L.c = M.c) (hE : L.E = M.E) : ∀ {S : List Sea}, chkD L S = chkD M S
 |[] => rfl
 |q :: S => by rw [chkD, chkD, chkD_same hd hc hE, hd, hc, hE]
theorem good_seal {L : Lg} {key : ByteArray} (h : Good L) (hn : (L.E.length : Int) ≠ endF L.S) (hs : L.S.length < 256) : Good ⟨L.d, L.c, L.E, L.S ++ [newSeal L key]⟩ := by
 have hb := endF_bounds h
 refine ⟨h.c1, h.c4, h.nE, by simp; omega, h.r, ?_, ?_⟩
 ·refine chkS_app h.s ?_ ?_
  ·show endF L.S < _
   unfold newSeal
   simp only
   omega
  ·unfold newSeal
   simp only
   omega
 ·rw [chkD_same (L := ⟨L.d, L.c, L.E, L.S ++ [newSeal L key]⟩) (M := L) rfl rfl rfl]
  refine chkD_app h.d ?_
  unfold newSeal
  simp only [Int.toNat_natCast]
theorem keyOk_app {key : ByteArray} {s : Sea} : ∀ {S : List Sea}, keyOk key S = true → s.seal_ = sealF key s.dig s.end_ → keyOk key (S ++ [s]) = true
 |[], _, h => by rw [List.nil_append, keyOk, if_pos h]; rfl
 |q :: S, h1, h => by
  rw [List.cons_append, keyOk]
  rw [keyOk] at h1
  split at h1
  ·rename_i h2
   rw [if_pos h2]; exact keyOk_app h1 h
  ·cases h1
theorem keyOk_new {L : Lg} {key : ByteArray} (h : keyOk key L.S = true) : keyOk key (L.S ++ [newSeal L key]) = true := keyOk_app h rfl
end Go.Proofs.YtopnlllipkockaaDoor
