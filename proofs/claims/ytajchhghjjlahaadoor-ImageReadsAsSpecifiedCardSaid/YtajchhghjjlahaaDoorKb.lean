/- Walks of the functions that the claim reaches. Conditions: none. -/
import Derived.Test.YtajchhghjjlahaaDoorKa
set_option linter.all false
set_option maxRecDepth 10000
set_option maxHeartbeats 4000000
namespace Go.Proofs.YtajchhghjjlahaaDoor
open Go Go.Cn Go.RowKit
attribute [local irreducible] evL sem onG onI onV
def stringsF (l : List ByteArray) : List Int := intF l.length ++ l.flatMap bytesF
theorem bytesF_len7 {s : ByteArray} : (bytesF s).length ≤ 10 + s.size := by
 unfold bytesF
 rw [List.length_append, strI_len]
 have : (intF s.size).length ≤ 10 := intF_len
 omega
theorem flat_len_mem {α β : Type} {f : α → List β} {l : List α} {n i : Nat} (h : ∀ x ∈ l, (f x).length ≤ n) : ((l.take i).flatMap f).length ≤ i * n := by
 induction i with
 |zero => simp
 |succ i ih =>
  by_cases hi : i < l.length
  ·rw [flat_take hi, List.length_append, Nat.succ_mul]
   have := h l[i] (by simp)
   omega
  ·rw [List.take_of_length_le (by omega)]
   rw [List.take_of_length_le (by omega)] at ih
   rw [Nat.succ_mul]; omega
theorem wlists_app {σ : H} {sl : Value} {l : List ByteArray} (hr : Whl σ 1 sl l.length (l.map .string)) (hl : l.length < 1000000) (hI : ∀ s ∈ l, s.size < 1000000) :
  App Tryd.prog (.func 62) #[] #[sl, .func (.func 63) #[] #[]] σ fun v σ' => Old σ σ' ∧ Grown σ σ' 1 v (digC (stringsF l)) (stringsF l).length := by
 refine App.of_sem mixed Tryd.func62 t62 k62 r62 (Nat.le_of_ble_eq_true rfl) ?_
 obtain ⟨base, cp, rfl⟩ := hr.slice
 unfold s62
 have e0 : ap σ [] = σ := ap_nil
 rw [← e0]
 simp only [↓eD, eZ, ↓reduceIte, Nat.reduceEqDiff, Nat.reduceAdd, Nat.reduceMul, reduceCtorEq, Nat.reduceLeDiff, Int.reduceLT, Int.reduceLE, Int.reduceToNat, Int.reduceEq, Nat.reduceLT]
 refine appK_of (wint_app (by omega) (by omega)) ?_
 rintro v σ1 ⟨ho1, hg1⟩
 simp only [↓eD, eZ, ↓reduceIte, Nat.reduceEqDiff, Nat.reduceAdd, Nat.reduceMul, reduceCtorEq, Nat.reduceLeDiff, Int.reduceLT, Int.reduceLE, Int.reduceToNat, Int.reduceEq, Nat.reduceLT]
 refine loop_for (J := fun i e τ => i ≤ l.length ∧ ∃ v, e = [(1, .func (.func 63) #[] #[]), (5, v), (11, .slice base l.length cp), (12, .int .i64 l.length), (13, .int .i64 i)] ∧ Old σ τ ∧ Grown σ τ 1 v (digC (intF l.length ++ (l.take i).flatMap bytesF)) (intF l.length ++ (l.take i).flatMap bytesF).length) l.length
  ⟨by omega, v, rfl, Old.ap.trans ho1, by simpa using hg1.from (by simp [ap_size])⟩ ?_
 rintro i e τ hi ⟨_, v, rfl, ho, hg⟩
 have e1 : ap τ [] = τ := ap_nil
 rw [← e1]
 by_cases hlt : i < l.length
 ·have dl : decide ((i : Int) < (l.length : Int)) = true := by rw [decide_eq_true]; omega
  obtain ⟨b, off, rfl, h1⟩ := hr.at (by omega)
  have hrd : ∀ L, rd1 (ap τ L) ⟨b, off + i, none⟩ = some (.string l[i]) := fun L => rd1_Old (ho.trans .ap) (rd1_row h1 (by simp [hlt]))
  have hb : (0:Int) ≤ (i:Int) ∧ (i:Int) < (l.length : Int) := by omega
  have hw : IntKind.wrap .i64 ((i:Int) + 1) = ((i + 1 : Nat) : Int) := by rw [wrap64' (by omega) (by omega)]; omega
  have hI' := hI l[i] (by simp)
  simp only [↓eD, eZ, ↓reduceIte, Nat.reduceEqDiff, Nat.reduceAdd, Nat.reduceMul, reduceCtorEq, Nat.reduceLeDiff, Int.reduceLT, Int.reduceLE, Int.reduceToNat, Int.reduceEq, Nat.reduceLT, dl, hb, Int.toNat_natCast, Nat.mul_one, hrd, undef_eq]
  refine appK_of (wbytes_app (by omega)) ?_
  rintro w τ2 ⟨ho2, hg2⟩
  simp only [↓eD, eZ, ↓reduceIte, Nat.reduceEqDiff, Nat.reduceAdd, Nat.reduceMul, reduceCtorEq, Nat.reduceLeDiff, Int.reduceLT, Int.reduceLE, Int.reduceToNat, Int.reduceEq, Nat.reduceLT, undef_eq]
  have hlen := flat_len_mem (f := bytesF) (l := l) (i := i) (n := 1000010) fun x hx => by have := bytesF_len7 (s := x); have := hI x hx; omega
  have hlen2 : (intF l.length).length ≤ 10 := intF_len
  have hlen3 : (bytesF l[i]).length ≤ 10 + l[i].size := bytesF_len7
  have hoo : Old σ τ2 := (ho.trans .ap).trans ho2
  have hgg := (hg.old (Old.ap (l := []))).old ho2
  have hmul : i * 1000010 ≤ 1000000 * 1000010 := Nat.mul_le_mul_right _ (by omega)
  obtain ⟨v', τ', ha, hA⟩ := append_bytes (new := bytesF l[i]) hgg hoo.1 hg2.whl.x (by rw [List.length_append]; omega)
  refine onV_of ha ?_
  simp only [↓eD, eZ, ↓reduceIte, Nat.reduceEqDiff, Nat.reduceAdd, Nat.reduceMul, reduceCtorEq, Nat.reduceLeDiff, Int.reduceLT, Int.reduceLE, Int.reduceToNat, Int.reduceEq, Nat.reduceLT, hw, undef_eq]
  refine ⟨hlt, by omega, v', rfl, hA.Old hgg hoo, ?_⟩
  rw [flat_take hlt, ← List.append_assoc]
  exact hA.grown
 ·have : i = l.length := by omega
  subst this
  have dl : decide ((l.length : Int) < (l.length : Int)) = false := by rw [decide_eq_false]; omega
  simp only [↓eD, eZ, ↓reduceIte, Nat.reduceEqDiff, Nat.reduceAdd, Nat.reduceMul, reduceCtorEq, Nat.reduceLeDiff, Int.reduceLT, Int.reduceLE, Int.reduceToNat, Int.reduceEq, Nat.reduceLT, dl, undef_eq]
  rw [List.take_length] at hg
  exact ⟨ho.trans .ap, hg.old .ap⟩
theorem wstrs_app {σ : H} {sl : Value} {l : List ByteArray} (hr : Whl σ 1 sl l.length (l.map .string)) (hl : l.length < 1000000) (hI : ∀ s ∈ l, s.size < 1000000) :
  App Tryd.prog (.func 39) #[] #[sl] σ fun v σ' => Old σ σ' ∧ Grown σ σ' 1 v (digC (stringsF l)) (stringsF l).length := by
 refine App.of_sem mixed Tryd.func39 t39 k39 r39 (Nat.le_of_ble_eq_true rfl) ?_
 obtain ⟨base, cp, rfl⟩ := hr.slice
 unfold s39
 simp only [↓eD, eZ, ↓reduceIte, Nat.reduceEqDiff, Nat.reduceAdd, Nat.reduceMul, reduceCtorEq, Nat.reduceLeDiff, Int.reduceLT, Int.reduceLE, Int.reduceToNat, Int.reduceEq, Nat.reduceLT]
 refine appK_of (wlists_app hr hl hI) ?_
 rintro v σ1 ⟨ho1, hg1⟩
 simp only [↓eD, eZ, ↓reduceIte, Nat.reduceEqDiff, Nat.reduceAdd, Nat.reduceMul, reduceCtorEq, Nat.reduceLeDiff, Int.reduceLT, Int.reduceLE, Int.reduceToNat, Int.reduceEq, Nat.reduceLT]
 exact ⟨ho1, hg1⟩
theorem rstrs_app {σ : H} {sl : Value} {l : List ByteArray} (hr : Whl σ 1 sl l.length (l.map .string)) (hl : l.length < 1000000) (hI : ∀ s ∈ l, s.size < 1000000) :
  App Tryd.prog (.func 41) #[] #[sl] σ fun v σ' => Old σ σ' ∧ Grown σ σ' 1 v (digC (stringsF l)) (stringsF l).length := by
 refine App.of_sem mixed Tryd.func41 t41 k41 r41 (Nat.le_of_ble_eq_true rfl) ?_
 obtain ⟨base, cp, rfl⟩ := hr.slice
 unfold s41
 have e0 : ap σ [] = σ := ap_nil
 rw [← e0]
 simp only [↓eD, eZ, ↓reduceIte, Nat.reduceEqDiff, Nat.reduceAdd, Nat.reduceMul, reduceCtorEq, Nat.reduceLeDiff, Int.reduceLT, Int.reduceLE, Int.reduceToNat, Int.reduceEq, Nat.reduceLT]
 refine appK_of int_app ?_
 rintro v σ1 ⟨ho1, hg1⟩
 simp only [↓eD, eZ, ↓reduceIte, Nat.reduceEqDiff, Nat.reduceAdd, Nat.reduceMul, reduceCtorEq, Nat.reduceLeDiff, Int.reduceLT, Int.reduceLE, Int.reduceToNat, Int.reduceEq, Nat.reduceLT]
 refine loop_for (J := fun i e τ => i ≤ l.length ∧ ∃ v, e = [(0, .slice base l.length cp), (3, v), (4, .int .i64 i)] ∧ Old σ τ ∧ Grown σ τ 1 v (digC (intF l.length ++ (l.take i).flatMap bytesF)) (intF l.length ++ (l.take i).flatMap bytesF).length) l.length
  ⟨by omega, v, rfl, Old.ap.trans ho1, by simpa using hg1.from (by simp [ap_size])⟩ ?_
 rintro i e τ hi ⟨_, v, rfl, ho, hg⟩
 have e1 : ap τ [] = τ := ap_nil
 rw [← e1]
 by_cases hlt : i < l.length
 ·have dl : decide ((i : Int) < (l.length : Int)) = true := by rw [decide_eq_true]; omega
  obtain ⟨b, off, rfl, h1⟩ := hr.at (by omega)
  have hrd : ∀ L, rd1 (ap τ L) ⟨b, off + i, none⟩ = some (.string l[i]) := fun L => rd1_Old (ho.trans .ap) (rd1_row h1 (by simp [hlt]))
  have hb : (0:Int) ≤ (i:Int) ∧ (i:Int) < (l.length : Int) := by omega
  have hw : IntKind.wrap .i64 ((i:Int) + 1) = ((i + 1 : Nat) : Int) := by rw [wrap64' (by omega) (by omega)]; omega
  have hI' := hI l[i] (by simp)
  simp only [↓eD, eZ, ↓reduceIte, Nat.reduceEqDiff, Nat.reduceAdd, Nat.reduceMul, reduceCtorEq, Nat.reduceLeDiff, Int.reduceLT, Int.reduceLE, Int.reduceToNat, Int.reduceEq, Nat.reduceLT, dl, hb, Int.toNat_natCast, Nat.mul_one, hrd, undef_eq]
  refine appK_of (bytes_app (by omega)) ?_
  rintro w τ2 ⟨ho2, hg2⟩
  simp only [↓eD, eZ, ↓reduceIte, Nat.reduceEqDiff, Nat.reduceAdd, Nat.reduceMul, reduceCtorEq, Nat.reduceLeDiff, Int.reduceLT, Int.reduceLE, Int.reduceToNat, Int.reduceEq, Nat.reduceLT, undef_eq]
  have hlen := flat_len_mem (f := bytesF) (l := l) (i := i) (n := 1000010) fun x hx => by have := bytesF_len7 (s := x); have := hI x hx; omega
  have hlen2 : (intF l.length).length ≤ 10 := intF_len
  have hlen3 : (bytesF l[i]).length ≤ 10 + l[i].size := bytesF_len7
  have hoo : Old σ τ2 := (ho.trans .ap).trans ho2
  have hgg := (hg.old (Old.ap (l := []))).old ho2
  have hmul : i * 1000010 ≤ 1000000 * 1000010 := Nat.mul_le_mul_right _ (by omega)
  obtain ⟨v', τ', ha, hA⟩ := append_bytes (new := bytesF l[i]) hgg hoo.1 hg2.whl.x (by rw [List.length_append]; omega)
  refine onV_of ha ?_
  simp only [↓eD, eZ, ↓reduceIte, Nat.reduceEqDiff, Nat.reduceAdd, Nat.reduceMul, reduceCtorEq, Nat.reduceLeDiff, Int.reduceLT, Int.reduceLE, Int.reduceToNat, Int.reduceEq, Nat.reduceLT, hw, undef_eq]
  refine ⟨hlt, by omega, v', rfl, hA.Old hgg hoo, ?_⟩
  rw [flat_take hlt, ← List.append_assoc]
  exact hA.grown
 ·have : i = l.length := by omega
  subst this
  have dl : decide ((l.length : Int) < (l.length : Int)) = false := by rw [decide_eq_false]; omega
  simp only [↓eD, eZ, ↓reduceIte, Nat.reduceEqDiff, Nat.reduceAdd, Nat.reduceMul, reduceCtorEq, Nat.reduceLeDiff, Int.reduceLT, Int.reduceLE, Int.reduceToNat, Int.reduceEq, Nat.reduceLT, dl, undef_eq]
  rw [List.take_length] at hg
  exact ⟨ho.trans .ap, hg.old .ap⟩
set_option maxHeartbeats 1000000
section
variable {α : Type} {one : List Int → α × Nat × Int} {enc : α → List Int} {ok : α → Prop}
def encL (enc : α → List Int) (l : List α) : List Int := intF l.length ++ l.flatMap enc
theorem getL_read (H2 : ∀ b x u, Byt b → one b = (x, u, 0) → b.take u = enc x ∧ ok x ∧ u ≤ b.length) {b : List Int} (hb : Byt b) : ∀ {k at_ : Nat} {acc l : List α} {u : Nat}, at_ ≤ b.length → getL one b k at_ acc = (l, u, 0) → ∃ m, l = acc ++ m ∧ m.length = k ∧ at_ ≤ u ∧ u ≤ b.length ∧ (b.drop at_).take (u - at_) = m.flatMap enc ∧ ∀ x ∈ m, ok x
 |0, at_, acc, l, u, ha, h => by
  rw [getL] at h
  injection h with h1 h2
  injection h2 with h2
  subst h1 h2
  exact ⟨[], by simp, rfl, Nat.le_refl _, ha, by simp, fun x hx => by simp at hx⟩
 |k + 1, at_, acc, l, u, ha, h => by
  rw [getL] at h
  split at h
  ·rename_i hne
   injection h with _ h2
   injection h2 with _ h3
   exact absurd h3 hne
  ·rename_i hz
   have hz : (one (b.drop at_)).2.2 = 0 := Decidable.byContradiction hz
   obtain ⟨h1, h2, h3⟩ := H2 (b.drop at_) (one (b.drop at_)).1 (one (b.drop at_)).2.1 (byt_drop hb) (by rw [← hz])
   rw [List.length_drop] at h3
   obtain ⟨m, e1, e2, e3, e4, e5, e6⟩ := getL_read H2 hb (k := k) (by omega) h
   refine ⟨(one (b.drop at_)).1 :: m, by rw [e1]; simp, by simp [e2], by omega, e4, ?_, ?_⟩
   ·rw [List.flatMap_cons, ← h1, ← e5, ← List.drop_drop]
    have hu : u - at_ = (one (b.drop at_)).2.1 + (u - (at_ + (one (b.drop at_)).2.1)) := by omega
    rw [hu, List.take_add]
   ·intro x hx
    rcases List.mem_cons.1 hx with rfl | hx
    ·exact h2
    ·exact e6 x hx
theorem flat_ge (h1 : ∀ x, 1 ≤ (enc x).length) : ∀ {l : List α}, l.length ≤ (l.flatMap enc).length
 |[] => by simp
 |x :: l => by
  rw [List.flatMap_cons, List.length_append, List.length_cons]
  have := flat_ge h1 (l := l)
  have := h1 x
  omega
theorem listF_read (H2 : ∀ b x u, Byt b → one b = (x, u, 0) → b.take u = enc x ∧ ok x ∧ u ≤ b.length) {b : List Int} (hb : Byt b) {l : List α} {u : Nat} (h : listF one 1 b = (l, u, 0)) : b.take u = encL enc l ∧ (∀ x ∈ l, ok x) ∧ u ≤ b.length := by
 unfold listF at h
 split at h
 ·rename_i hne
  injection h with _ h2
  injection h2 with _ h3
  exact absurd h3 hne
 ·rename_i hz
  have hz : (lenF 1 b).2.2 = 0 := Decidable.byContradiction hz
  obtain ⟨g1, g2, g3⟩ := lenF_ok (m := 1) (Nat.le_refl 1) hz
  obtain ⟨m, e1, e2, e3, e4, e5, e6⟩ := getL_read H2 hb (by omega) h
  rw [List.nil_append] at e1
  subst e1
  obtain ⟨c1, _, c3, c4, _⟩ := getF_canon (n := (lenF 1 b).1) (u := (lenF 1 b).2.1) hb (by rw [g3, ← hz])
  refine ⟨?_, e6, e4⟩
  unfold encL
  rw [← e5, e2, show (((lenF 1 b).1.toNat : Nat) : Int) = (lenF 1 b).1 by omega, ← c1, ← List.take_add]
  congr 1
  omega
end
theorem intF_one {n : Int} : 1 ≤ (intF n).length := by
 unfold intF
 rw [varF]
 split <;> simp
def okI (n : Int) : Prop := -9223372036854775808 ≤ n ∧ n < 9223372036854775808
theorem int_one : ∀ (b : List Int) x u, Byt b → getF b = (x, u, 0) → b.take u = intF x ∧ okI x ∧ u ≤ b.length := fun b x u hb h => by
 obtain ⟨h1, h2, _, h3, _⟩ := getF_canon hb h
 exact ⟨h1, h2, h3⟩
theorem bytesS_strI {s : ByteArray} : bytesS (strI s) = s := by
 unfold bytesS strI
 rw [List.map_map]
 have : (s.data.toList.map ((fun x : Int => UInt8.ofNat x.toNat) ∘ fun b : UInt8 => (b.toNat : Int))) = s.data.toList := by
  rw [List.map_congr_left (g := id)]
  ·simp
  ·intro b _
   simp
 rw [this]
theorem str_one : ∀ (b : List Int) (x : ByteArray) u, Byt b → bytF b = (x, u, 0) → b.take u = bytesF x ∧ True ∧ u ≤ b.length := fun b x u hb h => by
 unfold bytF at h
 split at h
 ·rename_i hne
  injection h with _ h2
  injection h2 with _ h3
  exact absurd h3 hne
 ·rename_i hz
  have hz : (lenF 1 b).2.2 = 0 := Decidable.byContradiction hz
  obtain ⟨g1, g2, g3⟩ := lenF_ok (m := 1) (Nat.le_refl 1) hz
  obtain ⟨c1, _, c3, c4, _⟩ := getF_canon (n := (lenF 1 b).1) (u := (lenF 1 b).2.1) hb (by rw [g3, ← hz])
  injection h with h1 h2
  injection h2 with h2 _
  subst h1 h2
  refine ⟨?_, trivial, by omega⟩
  have hsz : (bytesS ((b.drop (lenF 1 b).2.1).take (lenF 1 b).1.toNat)).size = (lenF 1 b).1.toNat := by
   rw [bytesS_size', List.length_take, List.length_drop]; omega
  unfold bytesF
  rw [strI_bytesS (fun y hy => hb y (List.mem_of_mem_drop (List.mem_of_mem_take hy))), hsz, show (((lenF 1 b).1.toNat : Nat) : Int) = (lenF 1 b).1 by omega, ← c1, ← List.take_add]
theorem bytesF_one {s : ByteArray} : 1 ≤ (bytesF s).length := by
 unfold bytesF
 rw [List.length_append]
 have := intF_one (n := (s.size : Int))
 omega
set_option maxHeartbeats 4000000
def OldB (b : Nat) (σ τ : H) : Prop := σ.size ≤ τ.size ∧ ∀ c, c < σ.size → c ≠ b → τ[c]? = σ[c]?
theorem rdb_of {θ θ' : H} {b n ver : Nat} {cs : List Value} (h : θ[b]? = some (.cells ver cs (0, 0))) (ho : Old θ θ') (hn : cs.length = n) : rdN θ' ⟨b, 0, none⟩ n = some cs :=
 rdN_all ((ho.2 _ (Array.getElem?_eq_some_iff.1 h).1).trans h) hn
theorem rd1_of {θ θ' : H} {b ver k : Nat} {cs : List Value} {x : Value} (h : θ[b]? = some (.cells ver cs (0, 0))) (ho : Old θ θ') (hn : cs[k]? = some x) : rd1 θ' ⟨b, k, none⟩ = some x := by
 rw [rd1_eq, (ho.2 _ (Array.getElem?_eq_some_iff.1 h).1).trans h]; exact hn
theorem rdp_of {θ θ' : H} {b n ver : Nat} {cs ds : List Value} (h : θ[b]? = some (.cells ver (cs ++ ds) (0, 0))) (ho : Old θ θ') (hn : cs.length = n) (h0 : 0 < n) : rdN θ' ⟨b, 0, none⟩ n = some cs := by
 rw [rdN_eq, if_neg (by omega), (ho.2 _ (Array.getElem?_eq_some_iff.1 h).1).trans h, rdcN_cells, if_pos (by rw [List.length_append]; show 0 + n ≤ _; omega)]
 show some (((cs ++ ds).drop 0).take n) = _
 rw [List.drop_zero, List.take_left' hn]
theorem whl_int {σ : H} {a : Option Addr} {c i : Nat} {x : List Int} (h : Whl σ 1 (.slice a x.length c) x.length (x.map (.int .i64))) (hi : i < x.length) : ∃ k o, a = some ⟨k, o, none⟩ ∧ rd1 σ ⟨k, o + i, none⟩ = some (.int .i64 x[i]) := by
 obtain ⟨k, o, h1, h2⟩ := h.at (by omega)
 exact ⟨k, o, h1, rd1_row h2 (by simp [hi])⟩
theorem whl_str {σ : H} {a : Option Addr} {c i : Nat} {x : List ByteArray} (h : Whl σ 1 (.slice a x.length c) x.length (x.map .string)) (hi : i < x.length) : ∃ k o, a = some ⟨k, o, none⟩ ∧ rd1 σ ⟨k, o + i, none⟩ = some (.string x[i]) := by
 obtain ⟨k, o, h1, h2⟩ := h.at (by omega)
 exact ⟨k, o, h1, rd1_row h2 (by simp [hi])⟩
theorem Whl.oldB {σ τ : H} {s n b : Nat} {v : Value} {cs : List Value} (h : Whl σ s v n cs) (hb : ∀ c, baseOf v = some c → c ≠ b) (ho : OldB b σ τ) (hs : 0 < s) : Whl τ s v n cs := by
 obtain ⟨h1, h2 | ⟨k, o, cap, rfl, h3, h4⟩⟩ := h
 ·exact ⟨h1, .inl h2⟩
 ·by_cases hn : n = 0
  ·subst hn
   have hc : cs = [] := by simpa using h1
   subst hc
   refine ⟨h1, .inr ⟨k, o, cap, rfl, h3, ?_⟩⟩
   rw [Nat.zero_mul, rdN_eq, if_pos rfl]
  ·refine ⟨h1, .inr ⟨k, o, cap, rfl, h3, ?_⟩⟩
   have hne := hb k rfl
   have hk : k < σ.size := by
    rw [rdN_eq, if_neg (Nat.mul_ne_zero hn (by omega))] at h4
    cases hq : σ[k]? with
    |none => simp only [hq] at h4; cases h4
    |some q => exact (Array.getElem?_eq_some_iff.1 hq).1
   rw [rdN_eq] at h4 ⊢
   show (if n * s = 0 then some [] else rdcN τ[k]? _ (n * s)) = _
   rw [ho.2 k hk hne]
   exact h4
theorem take_get {α : Type} {l : List α} {i : Nat} {x : α} (h : l[i]? = some x) : l.take (i + 1) = l.take i ++ [x] := by
 obtain ⟨hi, rfl⟩ := List.getElem?_eq_some_iff.1 h
 exact List.take_succ_eq_append_getElem hi
theorem OldB.set {b : Nat} {σ τ : H} {k : Blk} (h : OldB b σ τ) : OldB b σ (τ.setIfInBounds b k) := ⟨by simpa using h.1, fun c h1 h2 => (get_set_ne (Ne.symm h2)).trans (h.2 c h1 h2)⟩
theorem OldB.grow {b : Nat} {σ τ τ1 τ' : H} {s n0 n : Nat} {v v' : Value} {cs0 cs : List Value} (h : OldB b σ τ) (ho : Old τ τ1) (A : Ap (sized σ.size) τ1 τ' s v v' cs n) (hg : Grown (sized σ.size) τ1 s v cs0 n0) : OldB b σ τ' := by
 have h1 := h.1
 have h2 := ho.1
 have h3 := A.size
 refine ⟨by omega, fun c hc hne => ?_⟩
 have h4 : σ[c]? = some σ[c] := Array.getElem?_eq_getElem hc
 rw [h4]
 exact A.low hg (by rw [sized_size]; exact hc) ((ho.2 c (by omega)).trans ((h.2 c hc hne).trans h4))
theorem OldB.Old' {b : Nat} {σ τ τ' : H} (h : OldB b σ τ) (ho : Old τ τ') : OldB b σ τ' := by
 have h1 := h.1
 have h2 := ho.1
 exact ⟨by omega, fun c hc hne => (ho.2 c (by omega)).trans (h.2 c hc hne)⟩
theorem OldB.old {b : Nat} {ρ σ τ : H} (h : OldB b σ τ) (ho : Old ρ σ) (hb : ρ.size ≤ b) : Old ρ τ := by
 have h1 := h.1
 have h2 := ho.1
 exact ⟨by omega, fun c hc => (h.2 c (by omega) (by omega)).trans (ho.2 c hc)⟩
theorem rdN_lt {σ : H} {k o n : Nat} {cs : List Value} (h : rdN σ ⟨k, o, none⟩ n = some cs) (hn : 0 < n) : k < σ.size := by
 rw [rdN_eq, if_neg (by omega)] at h
 cases hq : σ[k]? with
 |none => simp only [hq] at h; cases h
 |some q => exact (Array.getElem?_eq_some_iff.1 hq).1
theorem set_self {σ : H} {b : Nat} {k : Blk} (h : σ[b]? = some k) : σ.setIfInBounds b k = σ := by
 obtain ⟨h1, h2⟩ := Array.getElem?_eq_some_iff.1 h
 apply Array.ext
 ·simp
 ·intro i hi1 hi2
  rw [Array.getElem_setIfInBounds]
  split
  ·rename_i e; subst e; exact h2.symm
  ·rfl
set_option maxHeartbeats 8000000
def I64 (n : Int) : Prop := -9223372036854775808 ≤ n ∧ n < 9223372036854775808
def intsF (l : List Int) : List Int := intF l.length ++ l.flatMap intF
theorem ints_app {σ : H} {sl : Value} {l : List Int} (hr : Whl σ 1 sl l.length (i64C l)) (hl : l.length < 10000000000) :
  App Tryd.prog (.func 40) #[] #[sl] σ fun v σ' => Old σ σ' ∧ Grown σ σ' 1 v (digC (intsF l)) (intsF l).length := by
 refine App.of_sem mixed Tryd.func40 t40 k40 r40 (Nat.le_of_ble_eq_true rfl) ?_
 obtain ⟨base, cp, rfl⟩ := hr.slice
 unfold s40
 have e0 : ap σ [] = σ := ap_nil
 rw [← e0]
 simp only [↓eD, eZ, ↓reduceIte, Nat.reduceEqDiff, Nat.reduceAdd, Nat.reduceMul, reduceCtorEq, Nat.reduceLeDiff, Int.reduceLT, Int.reduceLE, Int.reduceToNat, Int.reduceEq, Nat.reduceLT]
 refine appK_of int_app ?_
 rintro v σ1 ⟨ho1, hg1⟩
 simp only [↓eD, eZ, ↓reduceIte, Nat.reduceEqDiff, Nat.reduceAdd, Nat.reduceMul, reduceCtorEq, Nat.reduceLeDiff, Int.reduceLT, Int.reduceLE, Int.reduceToNat, Int.reduceEq, Nat.reduceLT]
 refine loop_for (J := fun i e τ => i ≤ l.length ∧ ∃ v, e = [(0, .slice base l.length cp), (3, v), (4, .int .i64 i)] ∧ Old σ τ ∧ Grown σ τ 1 v (digC (intF l.length ++ (l.take i).flatMap intF)) (intF l.length ++ (l.take i).flatMap intF).length) l.length
  ⟨by omega, v, rfl, Old.ap.trans ho1, by simpa using hg1.from (by simp [ap_size])⟩ ?_
 rintro i e τ hi ⟨_, v, rfl, ho, hg⟩
 have e1 : ap τ [] = τ := ap_nil
 rw [← e1]
 simp only [↓eD, eZ, ↓reduceIte, Nat.reduceEqDiff, Nat.reduceAdd, Nat.reduceMul, reduceCtorEq, Nat.reduceLeDiff, Int.reduceLT, Int.reduceLE, Int.reduceToNat, Int.reduceEq, Nat.reduceLT]
 refine onI_dec (fun hlt => ?_) (fun hge => ?_)
 ·have hlt : i < l.length := by omega
  obtain ⟨b, off, rfl, h1⟩ := hr.at (by omega)
  have hrd : ∀ L, rd1 (ap τ L) ⟨b, off + i, none⟩ = some (.int .i64 l[i]) := fun L => rd1_Old (ho.trans .ap) (rd1_row h1 (by simp [i64C, hlt]))
  have hb : (0:Int) ≤ (i:Int) ∧ (i:Int) < (l.length : Int) := by omega
  have hw : IntKind.wrap .i64 ((i:Int) + 1) = ((i + 1 : Nat) : Int) := by rw [wrap64 (by omega) (by omega)]; omega
  simp only [↓eD, eZ, ↓reduceIte, Nat.reduceEqDiff, Nat.reduceAdd, Nat.reduceMul, reduceCtorEq, Nat.reduceLeDiff, Int.reduceLT, Int.reduceLE, Int.reduceToNat, Int.reduceEq, Nat.reduceLT, hb, Int.toNat_natCast, hrd]
  refine appK_of int_app ?_
  rintro w τ2 ⟨ho2, hg2⟩
  simp only [↓eD, eZ, ↓reduceIte, Nat.reduceEqDiff, Nat.reduceAdd, Nat.reduceMul, reduceCtorEq, Nat.reduceLeDiff, Int.reduceLT, Int.reduceLE, Int.reduceToNat, Int.reduceEq, Nat.reduceLT]
  have hlen := flat_len (f := intF) (l := l) (i := i) fun x => intF_len
  have hlen2 : (intF l.length).length ≤ 10 := intF_len
  have hlen3 : (intF l[i]).length ≤ 10 := intF_len
  have hoo : Old σ τ2 := (ho.trans .ap).trans ho2
  have hgg := (hg.old (Old.ap (l := []))).old ho2
  obtain ⟨v', τ', ha, hA⟩ := append_bytes (new := intF l[i]) hgg hoo.1 hg2.whl.x (by rw [List.length_append]; omega)
  refine onV_of ha ?_
  simp only [↓eD, eZ, ↓reduceIte, Nat.reduceEqDiff, Nat.reduceAdd, Nat.reduceMul, reduceCtorEq, Nat.reduceLeDiff, Int.reduceLT, Int.reduceLE, Int.reduceToNat, Int.reduceEq, Nat.reduceLT, hw]
  refine ⟨hlt, by omega, v', rfl, hA.Old hgg hoo, ?_⟩
  rw [flat_take hlt, ← List.append_assoc]
  exact hA.grown
 ·have : i = l.length := by omega
  subst this
  simp only [↓eD, eZ, ↓reduceIte, Nat.reduceEqDiff, Nat.reduceAdd, Nat.reduceMul, reduceCtorEq, Nat.reduceLeDiff, Int.reduceLT, Int.reduceLE, Int.reduceToNat, Int.reduceEq, Nat.reduceLT]
  rw [List.take_length] at hg
  exact ⟨ho.trans .ap, hg.old .ap⟩
theorem wlist_app {σ : H} {sl : Value} {l : List Int} (hr : Whl σ 1 sl l.length (i64C l)) (hl : l.length < 10000000000) (hI : ∀ n ∈ l, I64 n) :
  App Tryd.prog (.func 60) #[] #[sl, .func (.func 61) #[] #[]] σ fun v σ' => Old σ σ' ∧ Grown σ σ' 1 v (digC (intsF l)) (intsF l).length := by
 refine App.of_sem mixed Tryd.func60 t60 k60 r60 (Nat.le_of_ble_eq_true rfl) ?_
 obtain ⟨base, cp, rfl⟩ := hr.slice
 unfold s60
 have e0 : ap σ [] = σ := ap_nil
 rw [← e0]
 simp only [↓eD, eZ, ↓reduceIte, Nat.reduceEqDiff, Nat.reduceAdd, Nat.reduceMul, reduceCtorEq, Nat.reduceLeDiff, Int.reduceLT, Int.reduceLE, Int.reduceToNat, Int.reduceEq, Nat.reduceLT]
 refine appK_of (wint_app (by omega) (by omega)) ?_
 rintro v σ1 ⟨ho1, hg1⟩
 simp only [↓eD, eZ, ↓reduceIte, Nat.reduceEqDiff, Nat.reduceAdd, Nat.reduceMul, reduceCtorEq, Nat.reduceLeDiff, Int.reduceLT, Int.reduceLE, Int.reduceToNat, Int.reduceEq, Nat.reduceLT]
 refine loop_for (J := fun i e τ => i ≤ l.length ∧ ∃ v, e = [(1, .func (.func 61) #[] #[]), (5, v), (11, .slice base l.length cp), (12, .int .i64 l.length), (13, .int .i64 i)] ∧ Old σ τ ∧ Grown σ τ 1 v (digC (intF l.length ++ (l.take i).flatMap intF)) (intF l.length ++ (l.take i).flatMap intF).length) l.length
  ⟨by omega, v, rfl, Old.ap.trans ho1, by simpa using hg1.from (by simp [ap_size])⟩ ?_
 rintro i e τ hi ⟨_, v, rfl, ho, hg⟩
 have e1 : ap τ [] = τ := ap_nil
 rw [← e1]
 by_cases hlt : i < l.length
 ·have dl : decide ((i : Int) < (l.length : Int)) = true := by rw [decide_eq_true]; omega
  obtain ⟨b, off, rfl, h1⟩ := hr.at (by omega)
  have hrd : ∀ L, rd1 (ap τ L) ⟨b, off + i, none⟩ = some (.int .i64 l[i]) := fun L => rd1_Old (ho.trans .ap) (rd1_row h1 (by simp [i64C, hlt]))
  have hb : (0:Int) ≤ (i:Int) ∧ (i:Int) < (l.length : Int) := by omega
  have hw : IntKind.wrap .i64 ((i:Int) + 1) = ((i + 1 : Nat) : Int) := by rw [wrap64' (by omega) (by omega)]; omega
  have hI' := hI l[i] (by simp)
  simp only [↓eD, eZ, ↓reduceIte, Nat.reduceEqDiff, Nat.reduceAdd, Nat.reduceMul, reduceCtorEq, Nat.reduceLeDiff, Int.reduceLT, Int.reduceLE, Int.reduceToNat, Int.reduceEq, Nat.reduceLT, dl, hb, Int.toNat_natCast, Nat.mul_one, hrd]
  refine appK_of (wint_app hI'.1 hI'.2) ?_
  rintro w τ2 ⟨ho2, hg2⟩
  simp only [↓eD, eZ, ↓reduceIte, Nat.reduceEqDiff, Nat.reduceAdd, Nat.reduceMul, reduceCtorEq, Nat.reduceLeDiff, Int.reduceLT, Int.reduceLE, Int.reduceToNat, Int.reduceEq, Nat.reduceLT]
  have hlen := flat_len (f := intF) (l := l) (i := i) fun x => intF_len
  have hlen2 : (intF l.length).length ≤ 10 := intF_len
  have hlen3 : (intF l[i]).length ≤ 10 := intF_len
  have hoo : Old σ τ2 := (ho.trans .ap).trans ho2
  have hgg := (hg.old (Old.ap (l := []))).old ho2
  obtain ⟨v', τ', ha, hA⟩ := append_bytes (new := intF l[i]) hgg hoo.1 hg2.whl.x (by rw [List.length_append]; omega)
  refine onV_of ha ?_
  simp only [↓eD, eZ, ↓reduceIte, Nat.reduceEqDiff, Nat.reduceAdd, Nat.reduceMul, reduceCtorEq, Nat.reduceLeDiff, Int.reduceLT, Int.reduceLE, Int.reduceToNat, Int.reduceEq, Nat.reduceLT, hw]
  refine ⟨hlt, by omega, v', rfl, hA.Old hgg hoo, ?_⟩
  rw [flat_take hlt, ← List.append_assoc]
  exact hA.grown
 ·have : i = l.length := by omega
  subst this
  have dl : decide ((l.length : Int) < (l.length : Int)) = false := by rw [decide_eq_false]; omega
  simp only [↓eD, eZ, ↓reduceIte, Nat.reduceEqDiff, Nat.reduceAdd, Nat.reduceMul, reduceCtorEq, Nat.reduceLeDiff, Int.reduceLT, Int.reduceLE, Int.reduceToNat, Int.reduceEq, Nat.reduceLT, dl]
  rw [List.take_length] at hg
  exact ⟨ho.trans .ap, hg.old .ap⟩
theorem wints_app {σ : H} {sl : Value} {l : List Int} (hr : Whl σ 1 sl l.length (i64C l)) (hl : l.length < 10000000000) (hI : ∀ n ∈ l, I64 n) :
  App Tryd.prog (.func 38) #[] #[sl] σ fun v σ' => Old σ σ' ∧ Grown σ σ' 1 v (digC (intsF l)) (intsF l).length := by
 refine App.of_sem mixed Tryd.func38 t38 k38 r38 (Nat.le_of_ble_eq_true rfl) ?_
 obtain ⟨base, cp, rfl⟩ := hr.slice
 unfold s38
 simp only [↓eD, eZ, ↓reduceIte, Nat.reduceEqDiff, Nat.reduceAdd, Nat.reduceMul, reduceCtorEq, Nat.reduceLeDiff, Int.reduceLT, Int.reduceLE, Int.reduceToNat, Int.reduceEq, Nat.reduceLT]
 refine appK_of (wlist_app hr hl hI) ?_
 rintro v σ1 ⟨ho1, hg1⟩
 simp only [↓eD, eZ, ↓reduceIte, Nat.reduceEqDiff, Nat.reduceAdd, Nat.reduceMul, reduceCtorEq, Nat.reduceLeDiff, Int.reduceLT, Int.reduceLE, Int.reduceToNat, Int.reduceEq, Nat.reduceLT]
 exact ⟨ho1, hg1⟩
structure H2 (σ τ : H) (v w : Value) (cs ds : List Value) : Prop where
 old : Old σ τ
 gv : Grown σ τ 1 v cs cs.length
 gw : Grown σ τ 1 w ds ds.length
 ne : ∀ c, baseOf v = some c → baseOf w ≠ some c
theorem H2.symm {σ τ : H} {v w : Value} {cs ds : List Value} (h : H2 σ τ v w cs ds) : H2 σ τ w v ds cs := ⟨h.old, h.gw, h.gv, fun c h1 h2 => h.ne c h2 h1⟩
theorem H2.Old' {σ τ τ' : H} {v w : Value} {cs ds : List Value} (h : H2 σ τ v w cs ds) (ho : Old τ τ') : H2 σ τ' v w cs ds := ⟨h.old.trans ho, h.gv.old ho, h.gw.old ho, h.ne⟩
theorem H2.left {σ τ : H} {v w xa : Value} {cs ds new : List Value} {bytes m : Nat} (h : H2 σ τ v w cs ds) (hx : xcells τ 1 xa = some (m, new)) (hm : new.length = m) (hone : new.all Value.oneCell' = true) (hb : (cs.length + m) * bytes ≤ 140737488355328) (hb0 : 0 < bytes) :
  ∃ v' τ', append 1 bytes v xa τ = some (v', τ') ∧ H2 σ τ' v' w (cs ++ new) ds ∧ (∀ c k, τ[c]? = some k → baseOf v ≠ some c → τ'[c]? = some k) ∧ τ.size ≤ τ'.size := by
 obtain ⟨v', τ', ha, A⟩ := append_grown h.gv (by omega) h.old.1 hx (by omega) hone hb hb0
 refine ⟨v', τ', ha, ⟨A.Old h.gv h.old, by rw [List.length_append, hm]; exact A.grown, h.gw.keep fun c k h1 h2 => A.frame c k h2 fun h3 => h.ne c h3 h1, fun c h1 h2 => ?_⟩, A.frame, A.size⟩
 rcases A.base with h3 | h3
 ·rw [h3] at h1; exact h.ne c h1 h2
 ·rw [h3] at h1
  injection h1 with h1
  have := (h.gw.base h2).2
  omega
theorem i64C_len {a : List Int} : (i64C a).length = a.length := by simp [i64C]
theorem xc_of {τ : H} {b n ver : Nat} {cs : List Value} (h : τ[b]? = some (.cells ver cs (0, 0))) (hn : cs.length = n) : xcells τ 1 (.slice (some ⟨b, 0, none⟩) n n) = some (n, cs) := by
 show (rdN τ ⟨b, 0, none⟩ (n * 1)).map (n, ·) = _
 rw [Nat.mul_one, rdN_all h hn]
 rfl
theorem get_of {τ τ' : H} {c : Nat} {k : Blk} {v : Value} (hf : ∀ c k, τ[c]? = some k → baseOf v ≠ some c → τ'[c]? = some k) (h : τ[c]? = some k) (hb : baseOf v ≠ some c) : τ'[c]? = some k := hf c k h hb
set_option maxHeartbeats 4000000
structure Seg where
 at_ : Int
 data : ByteArray
def segV (s : Seg) : List Value := [.int .i64 s.at_, .string s.data]
structure Img where
 e : Int
 p : Int
 S : List Seg
 D : List (List Int)
def imgC (e p : Int) (v w : Value) : List Value := [.int .i64 e, .int .i64 p, v, w]
structure ImgR (σ : H) (l : List Value) (I : Img) (a1 : Option Addr) (b1 : Nat) (a2 : Option Addr) (b2 : Nat) : Prop where
 l : l = imgC I.e I.p (.slice a1 I.S.length b1) (.slice a2 I.D.length b2)
 S : Row σ 2 (.slice a1 I.S.length b1) (I.S.map segV)
 D : Row σ 128 (.slice a2 I.D.length b2) (I.D.map digC)
 d : ∀ d ∈ I.D, d.length = 128 ∧ Byt d
 c1 : CapOk 2 (.slice a1 I.S.length b1)
 c2 : CapOk 128 (.slice a2 I.D.length b2)
 e : I64 I.e
 p : I64 I.p
 s : ∀ s ∈ I.S, I64 s.at_ ∧ s.data.size ≤ 140737488351232
 n1 : I.S.length < 100000000000000
 n2 : I.D.length < 2000000000000
theorem ImgR.Old {σ τ : H} {l : List Value} {I : Img} {a1 a2 : Option Addr} {b1 b2 : Nat} (h : ImgR σ l I a1 b1 a2 b2) (ho : Old σ τ) : ImgR τ l I a1 b1 a2 b2 :=
 ⟨h.l, h.S.Old ho, h.D.Old ho, h.d, h.c1, h.c2, h.e, h.p, h.s, h.n1, h.n2⟩
def entF (e p : Int) : Bool := decide (0 ≤ e ∧ e.tmod 4 = 0 ∧ e ≤ p * 128 - 4)
theorem lent_app {σ : H} {e p : Int} (h1 : -1000000 ≤ p) (h2 : p ≤ 1000000) : App Tryd.prog (.func 35) #[] #[.int .i64 e, .int .i64 p] σ fun v σ' => σ' = σ ∧ v = .bool (entF e p) := by
 refine App.forget (App.of_sem mixed Tryd.func35 t35 k35 r35 (Nat.le_of_ble_eq_true rfl) ?_)
 rw [← ap_nil (σ := σ)]
 unfold s35 entF
 have w1 : IntKind.wrap .i64 (p * 128) = p * 128 := wrap64' (by omega) (by omega)
 have w2 : IntKind.wrap .i64 (p * 128 - 4) = p * 128 - 4 := wrap64' (by omega) (by omega)
 have z4 : ((4 : Int) = 0) = False := by simp
 by_cases g1 : 0 ≤ e
 case neg =>
  have d1 : decide (0 ≤ e) = false := decide_eq_false g1
  have f : decide (0 ≤ e ∧ e.tmod 4 = 0 ∧ e ≤ p * 128 - 4) = false := decide_eq_false fun h => g1 h.1
  simp only [↓eD, eZ, ↓reduceIte, Nat.reduceEqDiff, Nat.reduceAdd, Nat.reduceMul, reduceCtorEq, Nat.reduceLeDiff, Int.reduceLT, Int.reduceLE, Int.reduceToNat, Int.reduceEq, Nat.reduceLT, d1, f, undef_eq]
  first | exact ⟨.ap, rfl⟩ | exact .ap
 have d1 : decide (0 ≤ e) = true := decide_eq_true g1
 by_cases g2 : e.tmod 4 = 0
 case neg =>
  have d2 : decide (e.tmod 4 = 0) = false := decide_eq_false g2
  have f : decide (0 ≤ e ∧ e.tmod 4 = 0 ∧ e ≤ p * 128 - 4) = false := decide_eq_false fun h => g2 h.2.1
  simp only [↓eD, eZ, ↓reduceIte, Nat.reduceEqDiff, Nat.reduceAdd, Nat.reduceMul, reduceCtorEq, Nat.reduceLeDiff, Int.reduceLT, Int.reduceLE, Int.reduceToNat, Int.reduceEq, Nat.reduceLT, d1, d2, z4, f, undef_eq]
  first | exact ⟨.ap, rfl⟩ | exact .ap
 have d2 : decide (e.tmod 4 = 0) = true := decide_eq_true g2
 have f : decide (0 ≤ e ∧ e.tmod 4 = 0 ∧ e ≤ p * 128 - 4) = decide (e ≤ p * 128 - 4) := decide_eq_decide.2 ⟨fun h => h.2.2, fun h => ⟨g1, g2, h⟩⟩
 simp only [↓eD, eZ, ↓reduceIte, Nat.reduceEqDiff, Nat.reduceAdd, Nat.reduceMul, reduceCtorEq, Nat.reduceLeDiff, Int.reduceLT, Int.reduceLE, Int.reduceToNat, Int.reduceEq, Nat.reduceLT, d1, d2, z4, w1, w2, f, undef_eq]
 first | exact ⟨.ap, rfl⟩ | exact .ap
theorem rent_app {σ : H} {e p : Int} (h1 : -1000000 ≤ p) (h2 : p ≤ 1000000) : App Tryd.prog (.func 36) #[] #[.int .i64 e, .int .i64 p] σ fun v σ' => σ' = σ ∧ v = .bool (entF e p) := by
 refine App.forget (App.of_sem mixed Tryd.func36 t36 k36 r36 (Nat.le_of_ble_eq_true rfl) ?_)
 rw [← ap_nil (σ := σ)]
 unfold s36 entF
 have w1 : IntKind.wrap .i64 (p * 128) = p * 128 := wrap64' (by omega) (by omega)
 have w2 : IntKind.wrap .i64 (p * 128 - 4) = p * 128 - 4 := wrap64' (by omega) (by omega)
 have z4 : ((4 : Int) = 0) = False := by simp
 by_cases g1 : 0 ≤ e
 case neg =>
  have d1 : decide (0 ≤ e) = false := decide_eq_false g1
  have f : decide (0 ≤ e ∧ e.tmod 4 = 0 ∧ e ≤ p * 128 - 4) = false := decide_eq_false fun h => g1 h.1
  simp only [↓eD, eZ, ↓reduceIte, Nat.reduceEqDiff, Nat.reduceAdd, Nat.reduceMul, reduceCtorEq, Nat.reduceLeDiff, Int.reduceLT, Int.reduceLE, Int.reduceToNat, Int.reduceEq, Nat.reduceLT, d1, f, undef_eq]
  first | exact ⟨.ap, rfl⟩ | exact .ap
 have d1 : decide (0 ≤ e) = true := decide_eq_true g1
 by_cases g2 : e.tmod 4 = 0
 case neg =>
  have d2 : decide (e.tmod 4 = 0) = false := decide_eq_false g2
  have f : decide (0 ≤ e ∧ e.tmod 4 = 0 ∧ e ≤ p * 128 - 4) = false := decide_eq_false fun h => g2 h.2.1
  simp only [↓eD, eZ, ↓reduceIte, Nat.reduceEqDiff, Nat.reduceAdd, Nat.reduceMul, reduceCtorEq, Nat.reduceLeDiff, Int.reduceLT, Int.reduceLE, Int.reduceToNat, Int.reduceEq, Nat.reduceLT, d1, d2, z4, f, undef_eq]
  first | exact ⟨.ap, rfl⟩ | exact .ap
 have d2 : decide (e.tmod 4 = 0) = true := decide_eq_true g2
 have f : decide (0 ≤ e ∧ e.tmod 4 = 0 ∧ e ≤ p * 128 - 4) = decide (e ≤ p * 128 - 4) := decide_eq_decide.2 ⟨fun h => h.2.2, fun h => ⟨g1, g2, h⟩⟩
 simp only [↓eD, eZ, ↓reduceIte, Nat.reduceEqDiff, Nat.reduceAdd, Nat.reduceMul, reduceCtorEq, Nat.reduceLeDiff, Int.reduceLT, Int.reduceLE, Int.reduceToNat, Int.reduceEq, Nat.reduceLT, d1, d2, z4, w1, w2, f, undef_eq]
 first | exact ⟨.ap, rfl⟩ | exact .ap
def segsF (size : Int) : Int → List Seg → Int
 |_, [] => 0
 |d, s :: r => if s.data.size = 0 ∨ s.at_ < d ∨ s.at_ > size ∨ (s.data.size : Int) > size - s.at_ then 3 else segsF size (s.at_ + s.data.size) r
def checkI (I : Img) : Int :=
 if I.p < 1 ∨ I.p > 64 ∨ entF I.e I.p = false then 7 else if I.S.length > 64 ∨ I.D.length > 64 then 2 else segsF (I.p * 128) 0 I.S
theorem lcheck_app {σ : H} {l : List Value} {I : Img} {a1 a2 : Option Addr} {b1 b2 : Nat} (h : ImgR σ l I a1 b1 a2 b2) :
  App Tryd.prog (.func 15) #[] #[.agg l.toArray] σ fun v σ' => σ' = σ ∧ v = .int .i64 (checkI I) := by
 refine App.forget (App.of_sem mixed Tryd.func15 t15 k15 r15 (Nat.le_of_ble_eq_true rfl) ?_)
 have hl := h.l
 subst hl
 rw [← ap_nil (σ := σ)]
 unfold s15 imgC
 have fin : ∀ M : List Blk, Old σ (ap σ M) := fun M => .ap
 by_cases g1 : I.p < 1
 ·have d1 : decide (I.p < 1) = true := decide_eq_true g1
  have f : checkI I = 7 := if_pos (.inl g1)
  simp only [↓eD, eZ, ↓reduceIte, Nat.reduceEqDiff, Nat.reduceAdd, Nat.reduceMul, reduceCtorEq, Nat.reduceLeDiff, Int.reduceLT, Int.reduceLE, Int.reduceToNat, Int.reduceEq, Nat.reduceLT, d1, f, undef_eq]
  first | exact ⟨fin _, rfl⟩ | exact fin _
 have d1 : decide (I.p < 1) = false := decide_eq_false g1
 by_cases g2 : I.p > 64
 ·have d2 : decide (64 < I.p) = true := decide_eq_true g2
  have f : checkI I = 7 := if_pos (.inr (.inl g2))
  simp only [↓eD, eZ, ↓reduceIte, Nat.reduceEqDiff, Nat.reduceAdd, Nat.reduceMul, reduceCtorEq, Nat.reduceLeDiff, Int.reduceLT, Int.reduceLE, Int.reduceToNat, Int.reduceEq, Nat.reduceLT, d1, d2, f, undef_eq]
  first | exact ⟨fin _, rfl⟩ | exact fin _
 have d2 : decide (64 < I.p) = false := decide_eq_false g2
 have wp : IntKind.wrap .i64 (I.p * 128) = I.p * 128 := wrap64' (by omega) (by omega)
 simp only [↓eD, eZ, ↓reduceIte, Nat.reduceEqDiff, Nat.reduceAdd, Nat.reduceMul, reduceCtorEq, Nat.reduceLeDiff, Int.reduceLT, Int.reduceLE, Int.reduceToNat, Int.reduceEq, Nat.reduceLT, d1, d2, wp, undef_eq]
 refine appK_at (lent_app (by omega) (by omega)) ?_
 cases g3 : entF I.e I.p with
 |false =>
  have f : checkI I = 7 := if_pos (.inr (.inr g3))
  simp only [↓eD, eZ, ↓reduceIte, Nat.reduceEqDiff, Nat.reduceAdd, Nat.reduceMul, reduceCtorEq, Nat.reduceLeDiff, Int.reduceLT, Int.reduceLE, Int.reduceToNat, Int.reduceEq, Nat.reduceLT, f, Bool.not_false, undef_eq]
  first | exact ⟨fin _, rfl⟩ | exact fin _
 |true =>
 have n1 := h.n1
 have n2 := h.n2
 by_cases g4 : I.S.length > 64
 ·have d4 : decide ((64 : Int) < (I.S.length : Int)) = true := by rw [decide_eq_true]; omega
  have f : checkI I = 2 := by unfold checkI; rw [if_neg (by rw [g3]; simp; omega), if_pos (.inl g4)]
  simp only [↓eD, eZ, ↓reduceIte, Nat.reduceEqDiff, Nat.reduceAdd, Nat.reduceMul, reduceCtorEq, Nat.reduceLeDiff, Int.reduceLT, Int.reduceLE, Int.reduceToNat, Int.reduceEq, Nat.reduceLT, d4, f, Bool.not_true, undef_eq]
  first | exact ⟨fin _, rfl⟩ | exact fin _
 have d4 : decide ((64 : Int) < (I.S.length : Int)) = false := by rw [decide_eq_false]; omega
 by_cases g5 : I.D.length > 64
 ·have d5 : decide ((64 : Int) < (I.D.length : Int)) = true := by rw [decide_eq_true]; omega
  have f : checkI I = 2 := by unfold checkI; rw [if_neg (by rw [g3]; simp; omega), if_pos (.inr g5)]
  simp only [↓eD, eZ, ↓reduceIte, Nat.reduceEqDiff, Nat.reduceAdd, Nat.reduceMul, reduceCtorEq, Nat.reduceLeDiff, Int.reduceLT, Int.reduceLE, Int.reduceToNat, Int.reduceEq, Nat.reduceLT, d4, d5, f, Bool.not_true, undef_eq]
  first | exact ⟨fin _, rfl⟩ | exact fin _
 have d5 : decide ((64 : Int) < (I.D.length : Int)) = false := by rw [decide_eq_false]; omega
 have f : checkI I = segsF (I.p * 128) 0 I.S := by unfold checkI; rw [if_neg (by rw [g3]; simp; omega), if_neg (by omega)]
 simp only [↓eD, eZ, ↓reduceIte, Nat.reduceEqDiff, Nat.reduceAdd, Nat.reduceMul, reduceCtorEq, Nat.reduceLeDiff, Int.reduceLT, Int.reduceLE, Int.reduceToNat, Int.reduceEq, Nat.reduceLT, d4, d5, Bool.not_true, undef_eq]
 rw [f]
 refine loop_for (J := fun i e τ => i ≤ I.S.length ∧ ∃ (d : Int), e = [(3, .int .i64 (I.p * 128)), (4, .int .i64 d), (39, .slice a1 I.S.length b1), (40, .int .i64 (I.S.length : Int)), (41, .int .i64 (i : Int))] ∧ Old σ τ ∧ τ[σ.size]? = some (.cells 0 [.int .i64 I.e, .int .i64 I.p, .slice a1 I.S.length b1, .slice a2 I.D.length b2] (0, 0)) ∧ 0 ≤ d ∧ d ≤ I.p * 128 ∧ segsF (I.p * 128) 0 I.S = segsF (I.p * 128) d (I.S.drop i)) I.S.length ⟨by omega, 0, rfl, fin _, by rw [ap_new0]; rfl, by omega, by omega, rfl⟩ ?_
 rintro i e τ hi ⟨_, d, rfl, oτ, bτ, hd0, hd1, hf⟩
 rw [hf]
 have fin : ∀ M : List Blk, Old σ (ap τ M) := fun M => oτ.trans .ap
 have g1' : ∀ M, rd1 (ap τ M) ⟨σ.size, 1, none⟩ = some (.int .i64 I.p) := fun M => rd1_of bτ .ap rfl
 have g2' : ∀ M, rd1 (ap τ M) ⟨σ.size, 2, none⟩ = some (.slice a1 I.S.length b1) := fun M => rd1_of bτ .ap rfl
 rw [← ap_nil (σ := τ)]
 by_cases hlt : i < I.S.length
 ·have dl : decide ((i : Int) < (I.S.length : Int)) = true := by rw [decide_eq_true]; omega
  have hbd : (0:Int) ≤ (i:Int) ∧ (i:Int) < (I.S.length : Int) := by omega
  have hw : IntKind.wrap .i64 ((i:Int) + 1) = ((i + 1 : Nat) : Int) := by rw [wrap64' (by omega) (by omega)]; omega
  have hx : (I.S.map segV)[i]? = some (segV I.S[i]) := by simp [hlt]
  obtain ⟨b', off, rfl, h1⟩ := h.S.at hx
  obtain ⟨q, hq⟩ : ∃ q, q = I.S[i] := ⟨_, rfl⟩
  rw [← hq, segV] at h1
  have hs := h.s q (hq ▸ List.getElem_mem hlt)
  obtain ⟨⟨hs1, hs2⟩, hs3⟩ := hs
  have hdr : I.S.drop i = q :: I.S.drop (i + 1) := by rw [hq]; exact List.drop_eq_getElem_cons hlt
  rw [hdr, segsF]
  have hr := fun M => rdN_old (l := M) (rdN_Old oτ h1)
  have he : decide (q.data = ⟨#[]⟩) = decide (q.data.size = 0) := decide_eq_decide.2 ⟨fun h => by rw [h]; rfl, fun h => by
   apply ByteArray.ext
   exact Array.eq_empty_of_size_eq_zero h⟩
  have he' : decide ((q.data.size : Int) = 0) = decide (q.data.size = 0) := decide_eq_decide.2 (by omega)
  by_cases k1 : q.data.size = 0
  ·have e1 : decide (q.data.size = 0) = true := decide_eq_true k1
   rw [if_pos (.inl k1)]
   simp only [↓eD, eZ, ↓reduceIte, Nat.reduceEqDiff, Nat.reduceAdd, Nat.reduceMul, reduceCtorEq, Nat.reduceLeDiff, Int.reduceLT, Int.reduceLE, Int.reduceToNat, Int.reduceEq, Nat.reduceLT, g1', g2', dl, hbd, Int.toNat_natCast, hr, he, he', e1, wp, undef_eq]
   first | exact ⟨fin _, rfl⟩ | exact fin _
  have e1 : decide (q.data.size = 0) = false := decide_eq_false k1
  by_cases k2 : q.at_ < d
  ·have e2 : decide (q.at_ < d) = true := decide_eq_true k2
   rw [if_pos (.inr (.inl k2))]
   simp only [↓eD, eZ, ↓reduceIte, Nat.reduceEqDiff, Nat.reduceAdd, Nat.reduceMul, reduceCtorEq, Nat.reduceLeDiff, Int.reduceLT, Int.reduceLE, Int.reduceToNat, Int.reduceEq, Nat.reduceLT, g1', g2', dl, hbd, Int.toNat_natCast, hr, he, he', e1, e2, wp, undef_eq]
   first | exact ⟨fin _, rfl⟩ | exact fin _
  have e2 : decide (q.at_ < d) = false := decide_eq_false k2
  by_cases k3 : q.at_ > I.p * 128
  ·have e3 : decide (I.p * 128 < q.at_) = true := decide_eq_true k3
   rw [if_pos (.inr (.inr (.inl k3)))]
   simp only [↓eD, eZ, ↓reduceIte, Nat.reduceEqDiff, Nat.reduceAdd, Nat.reduceMul, reduceCtorEq, Nat.reduceLeDiff, Int.reduceLT, Int.reduceLE, Int.reduceToNat, Int.reduceEq, Nat.reduceLT, g1', g2', dl, hbd, Int.toNat_natCast, hr, he, he', e1, e2, e3, wp, undef_eq]
   first | exact ⟨fin _, rfl⟩ | exact fin _
  have e3 : decide (I.p * 128 < q.at_) = false := decide_eq_false k3
  have wsb : IntKind.wrap .i64 (I.p * 128 - q.at_) = I.p * 128 - q.at_ := wrap64' (by omega) (by omega)
  by_cases k4 : (q.data.size : Int) > I.p * 128 - q.at_
  ·have e4 : decide (I.p * 128 - q.at_ < (q.data.size : Int)) = true := decide_eq_true k4
   rw [if_pos (.inr (.inr (.inr k4)))]
   simp only [↓eD, eZ, ↓reduceIte, Nat.reduceEqDiff, Nat.reduceAdd, Nat.reduceMul, reduceCtorEq, Nat.reduceLeDiff, Int.reduceLT, Int.reduceLE, Int.reduceToNat, Int.reduceEq, Nat.reduceLT, g1', g2', dl, hbd, Int.toNat_natCast, hr, he, he', e1, e2, e3, e4, wp, wsb, undef_eq]
   first | exact ⟨fin _, rfl⟩ | exact fin _
  have e4 : decide (I.p * 128 - q.at_ < (q.data.size : Int)) = false := decide_eq_false k4
  have wad : IntKind.wrap .i64 (q.at_ + (q.data.size : Int)) = q.at_ + (q.data.size : Int) := wrap64' (by omega) (by omega)
  rw [if_neg (fun hh => hh.elim k1 fun hh => hh.elim k2 fun hh => hh.elim k3 k4)]
  simp only [↓eD, eZ, ↓reduceIte, Nat.reduceEqDiff, Nat.reduceAdd, Nat.reduceMul, reduceCtorEq, Nat.reduceLeDiff, Int.reduceLT, Int.reduceLE, Int.reduceToNat, Int.reduceEq, Nat.reduceLT, g1', g2', dl, hbd, Int.toNat_natCast, hr, he, he', e1, e2, e3, e4, wp, wsb, wad, hw, undef_eq]
  exact ⟨hlt, by omega, _, rfl, fin _, (ap_old (Array.getElem?_eq_some_iff.1 bτ).1).trans bτ, by omega, by omega, rfl⟩
 have : i = I.S.length := by omega
 subst this
 have dl : decide ((I.S.length : Int) < (I.S.length : Int)) = false := by rw [decide_eq_false]; omega
 have hz : segsF (I.p * 128) d (I.S.drop I.S.length) = 0 := by rw [List.drop_length]; rfl
 rw [hz]
 simp only [↓eD, eZ, ↓reduceIte, Nat.reduceEqDiff, Nat.reduceAdd, Nat.reduceMul, reduceCtorEq, Nat.reduceLeDiff, Int.reduceLT, Int.reduceLE, Int.reduceToNat, Int.reduceEq, Nat.reduceLT, g1', g2', dl, undef_eq]
 first | exact ⟨fin _, rfl⟩ | exact fin _
theorem rcheck_app {σ : H} {l : List Value} {I : Img} {a1 a2 : Option Addr} {b1 b2 : Nat} (h : ImgR σ l I a1 b1 a2 b2) :
  App Tryd.prog (.func 16) #[] #[.agg l.toArray] σ fun v σ' => σ' = σ ∧ v = .int .i64 (checkI I) := by
 refine App.forget (App.of_sem mixed Tryd.func16 t16 k16 r16 (Nat.le_of_ble_eq_true rfl) ?_)
 have hl := h.l
 subst hl
 rw [← ap_nil (σ := σ)]
 unfold s16 imgC
 have fin : ∀ M : List Blk, Old σ (ap σ M) := fun M => .ap
 by_cases g1 : I.p < 1
 ·have d1 : decide (I.p < 1) = true := decide_eq_true g1
  have f : checkI I = 7 := if_pos (.inl g1)
  simp only [↓eD, eZ, ↓reduceIte, Nat.reduceEqDiff, Nat.reduceAdd, Nat.reduceMul, reduceCtorEq, Nat.reduceLeDiff, Int.reduceLT, Int.reduceLE, Int.reduceToNat, Int.reduceEq, Nat.reduceLT, d1, f, undef_eq]
  first | exact ⟨fin _, rfl⟩ | exact fin _
 have d1 : decide (I.p < 1) = false := decide_eq_false g1
 by_cases g2 : I.p > 64
 ·have d2 : decide (64 < I.p) = true := decide_eq_true g2
  have f : checkI I = 7 := if_pos (.inr (.inl g2))
  simp only [↓eD, eZ, ↓reduceIte, Nat.reduceEqDiff, Nat.reduceAdd, Nat.reduceMul, reduceCtorEq, Nat.reduceLeDiff, Int.reduceLT, Int.reduceLE, Int.reduceToNat, Int.reduceEq, Nat.reduceLT, d1, d2, f, undef_eq]
  first | exact ⟨fin _, rfl⟩ | exact fin _
 have d2 : decide (64 < I.p) = false := decide_eq_false g2
 have wp : IntKind.wrap .i64 (I.p * 128) = I.p * 128 := wrap64' (by omega) (by omega)
 simp only [↓eD, eZ, ↓reduceIte, Nat.reduceEqDiff, Nat.reduceAdd, Nat.reduceMul, reduceCtorEq, Nat.reduceLeDiff, Int.reduceLT, Int.reduceLE, Int.reduceToNat, Int.reduceEq, Nat.reduceLT, d1, d2, wp, undef_eq]
 refine appK_at (rent_app (by omega) (by omega)) ?_
 cases g3 : entF I.e I.p with
 |false =>
  have f : checkI I = 7 := if_pos (.inr (.inr g3))
  simp only [↓eD, eZ, ↓reduceIte, Nat.reduceEqDiff, Nat.reduceAdd, Nat.reduceMul, reduceCtorEq, Nat.reduceLeDiff, Int.reduceLT, Int.reduceLE, Int.reduceToNat, Int.reduceEq, Nat.reduceLT, f, Bool.not_false, undef_eq]
  first | exact ⟨fin _, rfl⟩ | exact fin _
 |true =>
 have n1 := h.n1
 have n2 := h.n2
 by_cases g4 : I.S.length > 64
 ·have d4 : decide ((64 : Int) < (I.S.length : Int)) = true := by rw [decide_eq_true]; omega
  have f : checkI I = 2 := by unfold checkI; rw [if_neg (by rw [g3]; simp; omega), if_pos (.inl g4)]
  simp only [↓eD, eZ, ↓reduceIte, Nat.reduceEqDiff, Nat.reduceAdd, Nat.reduceMul, reduceCtorEq, Nat.reduceLeDiff, Int.reduceLT, Int.reduceLE, Int.reduceToNat, Int.reduceEq, Nat.reduceLT, d4, f, Bool.not_true, undef_eq]
  first | exact ⟨fin _, rfl⟩ | exact fin _
 have d4 : decide ((64 : Int) < (I.S.length : Int)) = false := by rw [decide_eq_false]; omega
 by_cases g5 : I.D.length > 64
 ·have d5 : decide ((64 : Int) < (I.D.length : Int)) = true := by rw [decide_eq_true]; omega
  have f : checkI I = 2 := by unfold checkI; rw [if_neg (by rw [g3]; simp; omega), if_pos (.inr g5)]
  simp only [↓eD, eZ, ↓reduceIte, Nat.reduceEqDiff, Nat.reduceAdd, Nat.reduceMul, reduceCtorEq, Nat.reduceLeDiff, Int.reduceLT, Int.reduceLE, Int.reduceToNat, Int.reduceEq, Nat.reduceLT, d4, d5, f, Bool.not_true, undef_eq]
  first | exact ⟨fin _, rfl⟩ | exact fin _
 have d5 : decide ((64 : Int) < (I.D.length : Int)) = false := by rw [decide_eq_false]; omega
 have f : checkI I = segsF (I.p * 128) 0 I.S := by unfold checkI; rw [if_neg (by rw [g3]; simp; omega), if_neg (by omega)]
 simp only [↓eD, eZ, ↓reduceIte, Nat.reduceEqDiff, Nat.reduceAdd, Nat.reduceMul, reduceCtorEq, Nat.reduceLeDiff, Int.reduceLT, Int.reduceLE, Int.reduceToNat, Int.reduceEq, Nat.reduceLT, d4, d5, Bool.not_true, undef_eq]
 rw [f]
 refine loop_for (J := fun i e τ => i ≤ I.S.length ∧ ∃ (d : Int), e = [(1, .pointer (some ⟨σ.size, 0, none⟩)), (3, .int .i64 d), (4, .int .i64 (i : Int))] ∧ Old σ τ ∧ τ[σ.size]? = some (.cells 0 [.int .i64 I.e, .int .i64 I.p, .slice a1 I.S.length b1, .slice a2 I.D.length b2] (0, 0)) ∧ 0 ≤ d ∧ d ≤ I.p * 128 ∧ segsF (I.p * 128) 0 I.S = segsF (I.p * 128) d (I.S.drop i)) I.S.length ⟨by omega, 0, rfl, fin _, by rw [ap_new0]; rfl, by omega, by omega, rfl⟩ ?_
 rintro i e τ hi ⟨_, d, rfl, oτ, bτ, hd0, hd1, hf⟩
 rw [hf]
 have fin : ∀ M : List Blk, Old σ (ap τ M) := fun M => oτ.trans .ap
 have g1' : ∀ M, rd1 (ap τ M) ⟨σ.size, 1, none⟩ = some (.int .i64 I.p) := fun M => rd1_of bτ .ap rfl
 have g2' : ∀ M, rd1 (ap τ M) ⟨σ.size, 2, none⟩ = some (.slice a1 I.S.length b1) := fun M => rd1_of bτ .ap rfl
 rw [← ap_nil (σ := τ)]
 by_cases hlt : i < I.S.length
 ·have dl : decide ((i : Int) < (I.S.length : Int)) = true := by rw [decide_eq_true]; omega
  have hbd : (0:Int) ≤ (i:Int) ∧ (i:Int) < (I.S.length : Int) := by omega
  have hw : IntKind.wrap .i64 ((i:Int) + 1) = ((i + 1 : Nat) : Int) := by rw [wrap64' (by omega) (by omega)]; omega
  have hx : (I.S.map segV)[i]? = some (segV I.S[i]) := by simp [hlt]
  obtain ⟨b', off, rfl, h1⟩ := h.S.at hx
  obtain ⟨q, hq⟩ : ∃ q, q = I.S[i] := ⟨_, rfl⟩
  rw [← hq, segV] at h1
  have hs := h.s q (hq ▸ List.getElem_mem hlt)
  obtain ⟨⟨hs1, hs2⟩, hs3⟩ := hs
  have hdr : I.S.drop i = q :: I.S.drop (i + 1) := by rw [hq]; exact List.drop_eq_getElem_cons hlt
  rw [hdr, segsF]
  have hr := fun M => rdN_old (l := M) (rdN_Old oτ h1)
  have he : decide (q.data = ⟨#[]⟩) = decide (q.data.size = 0) := decide_eq_decide.2 ⟨fun h => by rw [h]; rfl, fun h => by
   apply ByteArray.ext
   exact Array.eq_empty_of_size_eq_zero h⟩
  have he' : decide ((q.data.size : Int) = 0) = decide (q.data.size = 0) := decide_eq_decide.2 (by omega)
  by_cases k1 : q.data.size = 0
  ·have e1 : decide (q.data.size = 0) = true := decide_eq_true k1
   rw [if_pos (.inl k1)]
   simp only [↓eD, eZ, ↓reduceIte, Nat.reduceEqDiff, Nat.reduceAdd, Nat.reduceMul, reduceCtorEq, Nat.reduceLeDiff, Int.reduceLT, Int.reduceLE, Int.reduceToNat, Int.reduceEq, Nat.reduceLT, g1', g2', dl, hbd, Int.toNat_natCast, hr, he, he', e1, wp, undef_eq]
   first | exact ⟨fin _, rfl⟩ | exact fin _
  have e1 : decide (q.data.size = 0) = false := decide_eq_false k1
  by_cases k2 : q.at_ < d
  ·have e2 : decide (q.at_ < d) = true := decide_eq_true k2
   rw [if_pos (.inr (.inl k2))]
   simp only [↓eD, eZ, ↓reduceIte, Nat.reduceEqDiff, Nat.reduceAdd, Nat.reduceMul, reduceCtorEq, Nat.reduceLeDiff, Int.reduceLT, Int.reduceLE, Int.reduceToNat, Int.reduceEq, Nat.reduceLT, g1', g2', dl, hbd, Int.toNat_natCast, hr, he, he', e1, e2, wp, undef_eq]
   first | exact ⟨fin _, rfl⟩ | exact fin _
  have e2 : decide (q.at_ < d) = false := decide_eq_false k2
  by_cases k3 : q.at_ > I.p * 128
  ·have e3 : decide (I.p * 128 < q.at_) = true := decide_eq_true k3
   rw [if_pos (.inr (.inr (.inl k3)))]
   simp only [↓eD, eZ, ↓reduceIte, Nat.reduceEqDiff, Nat.reduceAdd, Nat.reduceMul, reduceCtorEq, Nat.reduceLeDiff, Int.reduceLT, Int.reduceLE, Int.reduceToNat, Int.reduceEq, Nat.reduceLT, g1', g2', dl, hbd, Int.toNat_natCast, hr, he, he', e1, e2, e3, wp, undef_eq]
   first | exact ⟨fin _, rfl⟩ | exact fin _
  have e3 : decide (I.p * 128 < q.at_) = false := decide_eq_false k3
  have wsb : IntKind.wrap .i64 (I.p * 128 - q.at_) = I.p * 128 - q.at_ := wrap64' (by omega) (by omega)
  by_cases k4 : (q.data.size : Int) > I.p * 128 - q.at_
  ·have e4 : decide (I.p * 128 - q.at_ < (q.data.size : Int)) = true := decide_eq_true k4
   rw [if_pos (.inr (.inr (.inr k4)))]
   simp only [↓eD, eZ, ↓reduceIte, Nat.reduceEqDiff, Nat.reduceAdd, Nat.reduceMul, reduceCtorEq, Nat.reduceLeDiff, Int.reduceLT, Int.reduceLE, Int.reduceToNat, Int.reduceEq, Nat.reduceLT, g1', g2', dl, hbd, Int.toNat_natCast, hr, he, he', e1, e2, e3, e4, wp, wsb, undef_eq]
   first | exact ⟨fin _, rfl⟩ | exact fin _
  have e4 : decide (I.p * 128 - q.at_ < (q.data.size : Int)) = false := decide_eq_false k4
  have wad : IntKind.wrap .i64 (q.at_ + (q.data.size : Int)) = q.at_ + (q.data.size : Int) := wrap64' (by omega) (by omega)
  rw [if_neg (fun hh => hh.elim k1 fun hh => hh.elim k2 fun hh => hh.elim k3 k4)]
  simp only [↓eD, eZ, ↓reduceIte, Nat.reduceEqDiff, Nat.reduceAdd, Nat.reduceMul, reduceCtorEq, Nat.reduceLeDiff, Int.reduceLT, Int.reduceLE, Int.reduceToNat, Int.reduceEq, Nat.reduceLT, g1', g2', dl, hbd, Int.toNat_natCast, hr, he, he', e1, e2, e3, e4, wp, wsb, wad, hw, undef_eq]
  exact ⟨hlt, by omega, _, rfl, fin _, (ap_old (Array.getElem?_eq_some_iff.1 bτ).1).trans bτ, by omega, by omega, rfl⟩
 have : i = I.S.length := by omega
 subst this
 have dl : decide ((I.S.length : Int) < (I.S.length : Int)) = false := by rw [decide_eq_false]; omega
 have hz : segsF (I.p * 128) d (I.S.drop I.S.length) = 0 := by rw [List.drop_length]; rfl
 rw [hz]
 simp only [↓eD, eZ, ↓reduceIte, Nat.reduceEqDiff, Nat.reduceAdd, Nat.reduceMul, reduceCtorEq, Nat.reduceLeDiff, Int.reduceLT, Int.reduceLE, Int.reduceToNat, Int.reduceEq, Nat.reduceLT, g1', g2', dl, undef_eq]
 first | exact ⟨fin _, rfl⟩ | exact fin _
end Go.Proofs.YtajchhghjjlahaaDoor
