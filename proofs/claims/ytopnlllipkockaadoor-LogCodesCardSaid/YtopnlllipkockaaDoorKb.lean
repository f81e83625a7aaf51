/- Walks and plain laws. Conditions: none. -/
import Derived.Test.YtopnlllipkockaaDoorKa
set_option linter.all false
set_option maxRecDepth 10000
set_option maxHeartbeats 4000000
namespace Go.Proofs.YtopnlllipkockaaDoor
open Go Go.Cn Go.RowKit
attribute [local irreducible] evL sem onG onI onV
def stringsF (l : List ByteArray) : List Int := intF l.length ++ l.flatMap bytesF
theorem bytesF_len7 {s : ByteArray} : (bytesF s).length ≤ 10 + s.size := by
 unfold bytesF
 rw [List.length_append, strI_len]
 have : (intF s.size).length ≤ 10 := intF_len
 omega
theorem flat_len_mem {α β : Type} {f : α → List β} {l : List α} {n i : Nat} (h : ∀ x ∈ l, (f x).length ≤ n) : ((l.take i).flatMap f).length ≤ i * n := by
 induction i with
 |zero => simp
 |succ i ih =>
  by_cases hi : i < l.length
  ·rw [flat_take hi, List.length_append, Nat.succ_mul]
   have := h l[i] (by simp)
   omega
  ·rw [List.take_of_length_le (by omega)]
   rw [List.take_of_length_le (by omega)] at ih
   rw [Nat.succ_mul]; omega
theorem wlists_app {σ : H} {sl : Value} {l : List ByteArray} (hr : Whl σ 1 sl l.length (l.map .string)) (hl : l.length < 1000000) (hI : ∀ s ∈ l, s.size < 1000000) :
  App Tryd.prog (.func 82) #[] #[sl, .func (.func 70) #[] #[]] σ fun v σ' => Old σ σ' ∧ Grown σ σ' 1 v (digC (stringsF l)) (stringsF l).length := by
 refine App.of_sem mixed Tryd.func82 t82 k82 r82 (Nat.le_of_ble_eq_true rfl) ?_
 obtain ⟨base, cp, rfl⟩ := hr.slice
 unfold s82
 have e0 : ap σ [] = σ := ap_nil
 rw [← e0]
 simp only [↓eD, eZ, ↓reduceIte, Nat.reduceEqDiff, Nat.reduceAdd, Nat.reduceMul, reduceCtorEq, Nat.reduceLeDiff, Int.reduceLT, Int.reduceLE, Int.reduceToNat, Int.reduceEq, Nat.reduceLT]
 refine appK_of (wint_app (by omega) (by omega)) ?_
 rintro v σ1 ⟨ho1, hg1⟩
 simp only [↓eD, eZ, ↓reduceIte, Nat.reduceEqDiff, Nat.reduceAdd, Nat.reduceMul, reduceCtorEq, Nat.reduceLeDiff, Int.reduceLT, Int.reduceLE, Int.reduceToNat, Int.reduceEq, Nat.reduceLT]
 refine loop_for (J := fun i e τ => i ≤ l.length ∧ ∃ v, e = [(1, .func (.func 70) #[] #[]), (5, v), (11, .slice base l.length cp), (12, .int .i64 l.length), (13, .int .i64 i)] ∧ Old σ τ ∧ Grown σ τ 1 v (digC (intF l.length ++ (l.take i).flatMap bytesF)) (intF l.length ++ (l.take i).flatMap bytesF).length) l.length
  ⟨by omega, v, rfl, Old.ap.trans ho1, by simpa using hg1.from (by simp [ap_size])⟩ ?_
 rintro i e τ hi ⟨_, v, rfl, ho, hg⟩
 have e1 : ap τ [] = τ := ap_nil
 rw [← e1]
 by_cases hlt : i < l.length
 ·have dl : decide ((i : Int) < (l.length : Int)) = true := by rw [decide_eq_true]; omega
  obtain ⟨b, off, rfl, h1⟩ := hr.at (by omega)
  have hrd : ∀ L, rd1 (ap τ L) ⟨b, off + i, none⟩ = some (.string l[i]) := fun L => rd1_Old (ho.trans .ap) (rd1_row h1 (by simp [hlt]))
  have hb : (0:Int) ≤ (i:Int) ∧ (i:Int) < (l.length : Int) := by omega
  have hw : IntKind.wrap .i64 ((i:Int) + 1) = ((i + 1 : Nat) : Int) := by rw [wrap64' (by omega) (by omega)]; omega
  have hI' := hI l[i] (by simp)
  simp only [↓eD, eZ, ↓reduceIte, Nat.reduceEqDiff, Nat.reduceAdd, Nat.reduceMul, reduceCtorEq, Nat.reduceLeDiff, Int.reduceLT, Int.reduceLE, Int.reduceToNat, Int.reduceEq, Nat.reduceLT, dl, hb, Int.toNat_natCast, Nat.mul_one, hrd, undef_eq]
  refine appK_of (wbytes_app (by omega)) ?_
  rintro w τ2 ⟨ho2, hg2⟩
  simp only [↓eD, eZ, ↓reduceIte, Nat.reduceEqDiff, Nat.reduceAdd, Nat.reduceMul, reduceCtorEq, Nat.reduceLeDiff, Int.reduceLT, Int.reduceLE, Int.reduceToNat, Int.reduceEq, Nat.reduceLT, undef_eq]
  have hlen := flat_len_mem (f := bytesF) (l := l) (i := i) (n := 1000010) fun x hx => by have := bytesF_len7 (s := x); have := hI x hx; omega
  have hlen2 : (intF l.length).length ≤ 10 := intF_len
  have hlen3 : (bytesF l[i]).length ≤ 10 + l[i].size := bytesF_len7
  have hoo : Old σ τ2 := (ho.trans .ap).trans ho2
  have hgg := (hg.old (Old.ap (l := []))).old ho2
  have hmul : i * 1000010 ≤ 1000000 * 1000010 := Nat.mul_le_mul_right _ (by omega)
  obtain ⟨v', τ', ha, hA⟩ := append_bytes (new := bytesF l[i]) hgg hoo.1 hg2.whl.x (by rw [List.length_append]; omega)
  refine onV_of ha ?_
  simp only [↓eD, eZ, ↓reduceIte, Nat.reduceEqDiff, Nat.reduceAdd, Nat.reduceMul, reduceCtorEq, Nat.reduceLeDiff, Int.reduceLT, Int.reduceLE, Int.reduceToNat, Int.reduceEq, Nat.reduceLT, hw, undef_eq]
  refine ⟨hlt, by omega, v', rfl, hA.Old hgg hoo, ?_⟩
  rw [flat_take hlt, ← List.append_assoc]
  exact hA.grown
 ·have : i = l.length := by omega
  subst this
  have dl : decide ((l.length : Int) < (l.length : Int)) = false := by rw [decide_eq_false]; omega
  simp only [↓eD, eZ, ↓reduceIte, Nat.reduceEqDiff, Nat.reduceAdd, Nat.reduceMul, reduceCtorEq, Nat.reduceLeDiff, Int.reduceLT, Int.reduceLE, Int.reduceToNat, Int.reduceEq, Nat.reduceLT, dl, undef_eq]
  rw [List.take_length] at hg
  exact ⟨ho.trans .ap, hg.old .ap⟩
theorem wstrs_app {σ : H} {sl : Value} {l : List ByteArray} (hr : Whl σ 1 sl l.length (l.map .string)) (hl : l.length < 1000000) (hI : ∀ s ∈ l, s.size < 1000000) :
  App Tryd.prog (.func 65) #[] #[sl] σ fun v σ' => Old σ σ' ∧ Grown σ σ' 1 v (digC (stringsF l)) (stringsF l).length := by
 refine App.of_sem mixed Tryd.func65 t65 k65 r65 (Nat.le_of_ble_eq_true rfl) ?_
 obtain ⟨base, cp, rfl⟩ := hr.slice
 unfold s65
 simp only [↓eD, eZ, ↓reduceIte, Nat.reduceEqDiff, Nat.reduceAdd, Nat.reduceMul, reduceCtorEq, Nat.reduceLeDiff, Int.reduceLT, Int.reduceLE, Int.reduceToNat, Int.reduceEq, Nat.reduceLT]
 refine appK_of (wlists_app hr hl hI) ?_
 rintro v σ1 ⟨ho1, hg1⟩
 simp only [↓eD, eZ, ↓reduceIte, Nat.reduceEqDiff, Nat.reduceAdd, Nat.reduceMul, reduceCtorEq, Nat.reduceLeDiff, Int.reduceLT, Int.reduceLE, Int.reduceToNat, Int.reduceEq, Nat.reduceLT]
 exact ⟨ho1, hg1⟩
theorem rstrs_app {σ : H} {sl : Value} {l : List ByteArray} (hr : Whl σ 1 sl l.length (l.map .string)) (hl : l.length < 1000000) (hI : ∀ s ∈ l, s.size < 1000000) :
  App Tryd.prog (.func 66) #[] #[sl] σ fun v σ' => Old σ σ' ∧ Grown σ σ' 1 v (digC (stringsF l)) (stringsF l).length := by
 refine App.of_sem mixed Tryd.func66 t66 k66 r66 (Nat.le_of_ble_eq_true rfl) ?_
 obtain ⟨base, cp, rfl⟩ := hr.slice
 unfold s66
 have e0 : ap σ [] = σ := ap_nil
 rw [← e0]
 simp only [↓eD, eZ, ↓reduceIte, Nat.reduceEqDiff, Nat.reduceAdd, Nat.reduceMul, reduceCtorEq, Nat.reduceLeDiff, Int.reduceLT, Int.reduceLE, Int.reduceToNat, Int.reduceEq, Nat.reduceLT]
 refine appK_of int_app ?_
 rintro v σ1 ⟨ho1, hg1⟩
 simp only [↓eD, eZ, ↓reduceIte, Nat.reduceEqDiff, Nat.reduceAdd, Nat.reduceMul, reduceCtorEq, Nat.reduceLeDiff, Int.reduceLT, Int.reduceLE, Int.reduceToNat, Int.reduceEq, Nat.reduceLT]
 refine loop_for (J := fun i e τ => i ≤ l.length ∧ ∃ v, e = [(0, .slice base l.length cp), (3, v), (4, .int .i64 i)] ∧ Old σ τ ∧ Grown σ τ 1 v (digC (intF l.length ++ (l.take i).flatMap bytesF)) (intF l.length ++ (l.take i).flatMap bytesF).length) l.length
  ⟨by omega, v, rfl, Old.ap.trans ho1, by simpa using hg1.from (by simp [ap_size])⟩ ?_
 rintro i e τ hi ⟨_, v, rfl, ho, hg⟩
 have e1 : ap τ [] = τ := ap_nil
 rw [← e1]
 by_cases hlt : i < l.length
 ·have dl : decide ((i : Int) < (l.length : Int)) = true := by rw [decide_eq_true]; omega
  obtain ⟨b, off, rfl, h1⟩ := hr.at (by omega)
  have hrd : ∀ L, rd1 (ap τ L) ⟨b, off + i, none⟩ = some (.string l[i]) := fun L => rd1_Old (ho.trans .ap) (rd1_row h1 (by simp [hlt]))
  have hb : (0:Int) ≤ (i:Int) ∧ (i:Int) < (l.length : Int) := by omega
  have hw : IntKind.wrap .i64 ((i:Int) + 1) = ((i + 1 : Nat) : Int) := by rw [wrap64' (by omega) (by omega)]; omega
  have hI' := hI l[i] (by simp)
  simp only [↓eD, eZ, ↓reduceIte, Nat.reduceEqDiff, Nat.reduceAdd, Nat.reduceMul, reduceCtorEq, Nat.reduceLeDiff, Int.reduceLT, Int.reduceLE, Int.reduceToNat, Int.reduceEq, Nat.reduceLT, dl, hb, Int.toNat_natCast, Nat.mul_one, hrd, undef_eq]
  refine appK_of (bytes_app (by omega)) ?_
  rintro w τ2 ⟨ho2, hg2⟩
  simp only [↓eD, eZ, ↓reduceIte, Nat.reduceEqDiff, Nat.reduceAdd, Nat.reduceMul, reduceCtorEq, Nat.reduceLeDiff, Int.reduceLT, Int.reduceLE, Int.reduceToNat, Int.reduceEq, Nat.reduceLT, undef_eq]
  have hlen := flat_len_mem (f := bytesF) (l := l) (i := i) (n := 1000010) fun x hx => by have := bytesF_len7 (s := x); have := hI x hx; omega
  have hlen2 : (intF l.length).length ≤ 10 := intF_len
  have hlen3 : (bytesF l[i]).length ≤ 10 + l[i].size := bytesF_len7
  have hoo : Old σ τ2 := (ho.trans .ap).trans ho2
  have hgg := (hg.old (Old.ap (l := []))).old ho2
  have hmul : i * 1000010 ≤ 1000000 * 1000010 := Nat.mul_le_mul_right _ (by omega)
  obtain ⟨v', τ', ha, hA⟩ := append_bytes (new := bytesF l[i]) hgg hoo.1 hg2.whl.x (by rw [List.length_append]; omega)
  refine onV_of ha ?_
  simp only [↓eD, eZ, ↓reduceIte, Nat.reduceEqDiff, Nat.reduceAdd, Nat.reduceMul, reduceCtorEq, Nat.reduceLeDiff, Int.reduceLT, Int.reduceLE, Int.reduceToNat, Int.reduceEq, Nat.reduceLT, hw, undef_eq]
  refine ⟨hlt, by omega, v', rfl, hA.Old hgg hoo, ?_⟩
  rw [flat_take hlt, ← List.append_assoc]
  exact hA.grown
 ·have : i = l.length := by omega
  subst this
  have dl : decide ((l.length : Int) < (l.length : Int)) = false := by rw [decide_eq_false]; omega
  simp only [↓eD, eZ, ↓reduceIte, Nat.reduceEqDiff, Nat.reduceAdd, Nat.reduceMul, reduceCtorEq, Nat.reduceLeDiff, Int.reduceLT, Int.reduceLE, Int.reduceToNat, Int.reduceEq, Nat.reduceLT, dl, undef_eq]
  rw [List.take_length] at hg
  exact ⟨ho.trans .ap, hg.old .ap⟩
set_option maxHeartbeats 1000000
section
variable {α : Type} {one : List Int → α × Nat × Int} {enc : α → List Int} {ok : α → Prop}
def encL (enc : α → List Int) (l : List α) : List Int := intF l.length ++ l.flatMap enc
theorem getL_write (H1 : ∀ x r, ok x → one (enc x ++ r) = (x, (enc x).length, 0)) {b r : List Int} : ∀ {l : List α} {at_ : Nat} {acc : List α}, (∀ x ∈ l, ok x) → b.drop at_ = l.flatMap enc ++ r → getL one b l.length at_ acc = (acc ++ l, at_ + (l.flatMap enc).length, 0)
 |[], at_, acc, _, _ => by simp [getL]
 |x :: l, at_, acc, h, hb => by
  rw [List.flatMap_cons, List.append_assoc] at hb
  rw [List.length_cons, getL, hb, H1 x _ (h x List.mem_cons_self), if_neg (fun h => h rfl)]
  have hb2 : b.drop (at_ + (enc x).length) = l.flatMap enc ++ r := by rw [← List.drop_drop, hb, List.drop_left]
  rw [getL_write H1 (fun y hy => h y (List.mem_cons_of_mem _ hy)) hb2, List.flatMap_cons, List.length_append]
  simp [Nat.add_assoc]
theorem getL_read (H2 : ∀ b x u, Byt b → one b = (x, u, 0) → b.take u = enc x ∧ ok x ∧ u ≤ b.length) {b : List Int} (hb : Byt b) : ∀ {k at_ : Nat} {acc l : List α} {u : Nat}, at_ ≤ b.length → getL one b k at_ acc = (l, u, 0) → ∃ m, l = acc ++ m ∧ m.length = k ∧ at_ ≤ u ∧ u ≤ b.length ∧ (b.drop at_).take (u - at_) = m.flatMap enc ∧ ∀ x ∈ m, ok x
 |0, at_, acc, l, u, ha, h => by
  rw [getL] at h
  injection h with h1 h2
  injection h2 with h2
  subst h1 h2
  exact ⟨[], by simp, rfl, Nat.le_refl _, ha, by simp, fun x hx => by simp at hx⟩
 |k + 1, at_, acc, l, u, ha, h => by
  rw [getL] at h
  split at h
  ·rename_i hne
   injection h with _ h2
   injection h2 with _ h3
   exact absurd h3 hne
  ·rename_i hz
   have hz : (one (b.drop at_)).2.2 = 0 := Decidable.byContradiction hz
   obtain ⟨h1, h2, h3⟩ := H2 (b.drop at_) (one (b.drop at_)).1 (one (b.drop at_)).2.1 (byt_drop hb) (by rw [← hz])
   rw [List.length_drop] at h3
   obtain ⟨m, e1, e2, e3, e4, e5, e6⟩ := getL_read H2 hb (k := k) (by omega) h
   refine ⟨(one (b.drop at_)).1 :: m, by rw [e1]; simp, by simp [e2], by omega, e4, ?_, ?_⟩
   ·rw [List.flatMap_cons, ← h1, ← e5, ← List.drop_drop]
    have hu : u - at_ = (one (b.drop at_)).2.1 + (u - (at_ + (one (b.drop at_)).2.1)) := by omega
    rw [hu, List.take_add]
   ·intro x hx
    rcases List.mem_cons.1 hx with rfl | hx
    ·exact h2
    ·exact e6 x hx
theorem flat_ge (h1 : ∀ x, 1 ≤ (enc x).length) : ∀ {l : List α}, l.length ≤ (l.flatMap enc).length
 |[] => by simp
 |x :: l => by
  rw [List.flatMap_cons, List.length_append, List.length_cons]
  have := flat_ge h1 (l := l)
  have := h1 x
  omega
theorem listF_write (H1 : ∀ x r, ok x → one (enc x ++ r) = (x, (enc x).length, 0)) (h1 : ∀ x, 1 ≤ (enc x).length) {l : List α} {r : List Int} (hl : l.length < 1000000000) (h : ∀ x ∈ l, ok x) : listF one 1 (encL enc l ++ r) = (l, (encL enc l).length, 0) := by
 have hg := getF_int (n := (l.length : Int)) (r := l.flatMap enc ++ r) (by omega) (by omega)
 have hge := flat_ge h1 (l := l)
 have hb : encL enc l ++ r = intF l.length ++ (l.flatMap enc ++ r) := by unfold encL; rw [List.append_assoc]
 have hlen : lenF 1 (encL enc l ++ r) = ((l.length : Int), (intF l.length).length, 0) := by
  unfold lenF
  rw [hb, hg, if_neg (fun h => h rfl), if_neg (by dsimp only; omega), if_neg]
  simp only [List.length_append]
  rw [show ((1 : Nat) : Int) = 1 from rfl, Int.ediv_one]
  omega
 unfold listF
 rw [hlen, if_neg (fun h => h rfl)]
 dsimp only
 rw [Int.toNat_natCast, getL_write H1 (r := r) h (by rw [hb, List.drop_left])]
 unfold encL
 simp
theorem listF_read (H2 : ∀ b x u, Byt b → one b = (x, u, 0) → b.take u = enc x ∧ ok x ∧ u ≤ b.length) {b : List Int} (hb : Byt b) {l : List α} {u : Nat} (h : listF one 1 b = (l, u, 0)) : b.take u = encL enc l ∧ (∀ x ∈ l, ok x) ∧ u ≤ b.length := by
 unfold listF at h
 split at h
 ·rename_i hne
  injection h with _ h2
  injection h2 with _ h3
  exact absurd h3 hne
 ·rename_i hz
  have hz : (lenF 1 b).2.2 = 0 := Decidable.byContradiction hz
  obtain ⟨g1, g2, g3⟩ := lenF_ok (m := 1) (Nat.le_refl 1) hz
  obtain ⟨m, e1, e2, e3, e4, e5, e6⟩ := getL_read H2 hb (by omega) h
  rw [List.nil_append] at e1
  subst e1
  obtain ⟨c1, _, c3, c4, _⟩ := getF_canon (n := (lenF 1 b).1) (u := (lenF 1 b).2.1) hb (by rw [g3, ← hz])
  refine ⟨?_, e6, e4⟩
  unfold encL
  rw [← e5, e2, show (((lenF 1 b).1.toNat : Nat) : Int) = (lenF 1 b).1 by omega, ← c1, ← List.take_add]
  congr 1
  omega
end
theorem intF_one {n : Int} : 1 ≤ (intF n).length := by
 unfold intF
 rw [varF]
 split <;> simp
def okI (n : Int) : Prop := -9223372036854775808 ≤ n ∧ n < 9223372036854775808
theorem one_int : ∀ x r, okI x → getF (intF x ++ r) = (x, (intF x).length, 0) := fun x r h => getF_int h.1 h.2
theorem int_one : ∀ (b : List Int) x u, Byt b → getF b = (x, u, 0) → b.take u = intF x ∧ okI x ∧ u ≤ b.length := fun b x u hb h => by
 obtain ⟨h1, h2, _, h3, _⟩ := getF_canon hb h
 exact ⟨h1, h2, h3⟩
theorem bytesS_strI {s : ByteArray} : bytesS (strI s) = s := by
 unfold bytesS strI
 rw [List.map_map]
 have : (s.data.toList.map ((fun x : Int => UInt8.ofNat x.toNat) ∘ fun b : UInt8 => (b.toNat : Int))) = s.data.toList := by
  rw [List.map_congr_left (g := id)]
  ·simp
  ·intro b _
   simp
 rw [this]
theorem one_str : ∀ (x : ByteArray) r, x.size < 1000000000000000 → bytF (bytesF x ++ r) = (x, (bytesF x).length, 0) := fun x r h => by
 have hg := getF_int (n := (x.size : Int)) (r := strI x ++ r) (by omega) (by omega)
 have hb : bytesF x ++ r = intF x.size ++ (strI x ++ r) := by unfold bytesF; rw [List.append_assoc]
 have hlen : lenF 1 (bytesF x ++ r) = ((x.size : Int), (intF x.size).length, 0) := by
  unfold lenF
  rw [hb, hg, if_neg (fun h => h rfl), if_neg (by dsimp only; omega), if_neg]
  simp only [List.length_append, strI_len]
  rw [show ((1 : Nat) : Int) = 1 from rfl, Int.ediv_one]
  omega
 unfold bytF
 rw [hlen, if_neg (fun h => h rfl)]
 dsimp only
 rw [Int.toNat_natCast, hb, List.drop_left, ← strI_len (s := x), List.take_left, bytesS_strI]
 unfold bytesF
 simp [strI_len]
theorem str_one : ∀ (b : List Int) (x : ByteArray) u, Byt b → bytF b = (x, u, 0) → b.take u = bytesF x ∧ True ∧ u ≤ b.length := fun b x u hb h => by
 unfold bytF at h
 split at h
 ·rename_i hne
  injection h with _ h2
  injection h2 with _ h3
  exact absurd h3 hne
 ·rename_i hz
  have hz : (lenF 1 b).2.2 = 0 := Decidable.byContradiction hz
  obtain ⟨g1, g2, g3⟩ := lenF_ok (m := 1) (Nat.le_refl 1) hz
  obtain ⟨c1, _, c3, c4, _⟩ := getF_canon (n := (lenF 1 b).1) (u := (lenF 1 b).2.1) hb (by rw [g3, ← hz])
  injection h with h1 h2
  injection h2 with h2 _
  subst h1 h2
  refine ⟨?_, trivial, by omega⟩
  have hsz : (bytesS ((b.drop (lenF 1 b).2.1).take (lenF 1 b).1.toNat)).size = (lenF 1 b).1.toNat := by
   rw [bytesS_size', List.length_take, List.length_drop]; omega
  unfold bytesF
  rw [strI_bytesS (fun y hy => hb y (List.mem_of_mem_drop (List.mem_of_mem_take hy))), hsz, show (((lenF 1 b).1.toNat : Nat) : Int) = (lenF 1 b).1 by omega, ← c1, ← List.take_add]
theorem bytesF_one {s : ByteArray} : 1 ≤ (bytesF s).length := by
 unfold bytesF
 rw [List.length_append]
 have := intF_one (n := (s.size : Int))
 omega
set_option maxHeartbeats 8000000
structure H2 (σ τ : H) (v w : Value) (cs ds : List Value) : Prop where
 old : Old σ τ
 gv : Grown σ τ 1 v cs cs.length
 gw : Grown σ τ 1 w ds ds.length
 ne : ∀ c, baseOf v = some c → baseOf w ≠ some c
theorem H2.symm {σ τ : H} {v w : Value} {cs ds : List Value} (h : H2 σ τ v w cs ds) : H2 σ τ w v ds cs := ⟨h.old, h.gw, h.gv, fun c h1 h2 => h.ne c h2 h1⟩
theorem H2.Old' {σ τ τ' : H} {v w : Value} {cs ds : List Value} (h : H2 σ τ v w cs ds) (ho : Old τ τ') : H2 σ τ' v w cs ds := ⟨h.old.trans ho, h.gv.old ho, h.gw.old ho, h.ne⟩
theorem H2.left {σ τ : H} {v w xa : Value} {cs ds new : List Value} {bytes m : Nat} (h : H2 σ τ v w cs ds) (hx : xcells τ 1 xa = some (m, new)) (hm : new.length = m) (hone : new.all Value.oneCell' = true) (hb : (cs.length + m) * bytes ≤ 140737488355328) (hb0 : 0 < bytes) :
  ∃ v' τ', append 1 bytes v xa τ = some (v', τ') ∧ H2 σ τ' v' w (cs ++ new) ds ∧ (∀ c k, τ[c]? = some k → baseOf v ≠ some c → τ'[c]? = some k) ∧ τ.size ≤ τ'.size := by
 obtain ⟨v', τ', ha, A⟩ := append_grown h.gv (by omega) h.old.1 hx (by omega) hone hb hb0
 refine ⟨v', τ', ha, ⟨A.Old h.gv h.old, by rw [List.length_append, hm]; exact A.grown, h.gw.keep fun c k h1 h2 => A.frame c k h2 fun h3 => h.ne c h3 h1, fun c h1 h2 => ?_⟩, A.frame, A.size⟩
 rcases A.base with h3 | h3
 ·rw [h3] at h1; exact h.ne c h1 h2
 ·rw [h3] at h1
  injection h1 with h1
  have := (h.gw.base h2).2
  omega
structure H3 (σ τ : H) (u v w : Value) (cs ds es : List Value) : Prop where
 old : Old σ τ
 gu : Grown σ τ 1 u cs cs.length
 gv : Grown σ τ 1 v ds ds.length
 gw : Grown σ τ 1 w es es.length
 uv : ∀ c, baseOf u = some c → baseOf v ≠ some c
 uw : ∀ c, baseOf u = some c → baseOf w ≠ some c
 vw : ∀ c, baseOf v = some c → baseOf w ≠ some c
theorem H3.rot {σ τ : H} {u v w : Value} {cs ds es : List Value} (h : H3 σ τ u v w cs ds es) : H3 σ τ w v u es ds cs := ⟨h.old, h.gw, h.gv, h.gu, fun c h1 h2 => h.vw c h2 h1, fun c h1 h2 => h.uw c h2 h1, fun c h1 h2 => h.uv c h2 h1⟩
theorem H3.Old' {σ τ τ' : H} {u v w : Value} {cs ds es : List Value} (h : H3 σ τ u v w cs ds es) (ho : Old τ τ') : H3 σ τ' u v w cs ds es := ⟨h.old.trans ho, h.gu.old ho, h.gv.old ho, h.gw.old ho, h.uv, h.uw, h.vw⟩
theorem H3.first {σ τ : H} {u v w xa : Value} {cs ds es new : List Value} {bytes m : Nat} (h : H3 σ τ u v w cs ds es) (hx : xcells τ 1 xa = some (m, new)) (hm : new.length = m) (hone : new.all Value.oneCell' = true) (hb : (cs.length + m) * bytes ≤ 140737488355328) (hb0 : 0 < bytes) :
  ∃ u' τ', append 1 bytes u xa τ = some (u', τ') ∧ H3 σ τ' u' v w (cs ++ new) ds es ∧ (∀ c k, τ[c]? = some k → baseOf u ≠ some c → τ'[c]? = some k) ∧ τ.size ≤ τ'.size := by
 obtain ⟨u', τ', ha, A⟩ := append_grown h.gu (by omega) h.old.1 hx (by omega) hone hb hb0
 have key : ∀ x fs, Grown σ τ 1 x fs fs.length → (∀ c, baseOf u = some c → baseOf x ≠ some c) → (∀ c, baseOf u' = some c → baseOf x ≠ some c) := fun x fs hg hu c h1 h2 => by
  rcases A.base with h3 | h3
  ·rw [h3] at h1; exact hu c h1 h2
  ·rw [h3] at h1
   injection h1 with h1
   have := (hg.base h2).2
   omega
 exact ⟨u', τ', ha, ⟨A.Old h.gu h.old, by rw [List.length_append, hm]; exact A.grown, h.gv.keep fun c k h1 h2 => A.frame c k h2 fun h3 => h.uv c h3 h1, h.gw.keep fun c k h1 h2 => A.frame c k h2 fun h3 => h.uw c h3 h1, key v ds h.gv h.uv, key w es h.gw h.uw, h.vw⟩, A.frame, A.size⟩
theorem i64C_len {a : List Int} : (i64C a).length = a.length := by simp [i64C]
def numsE (e : Ent) : List Int := [e.kind, e.cpu, e.count, e.n]
def numsF (L : Lg) : List Int := [L.c, (L.E.length : Int), (L.S.length : Int)] ++ L.E.flatMap numsE ++ L.S.map Sea.end_
def dataF (L : Lg) : List ByteArray := L.E.map Ent.data
def seaB (s : Sea) : List Int := s.dig ++ s.seal_
def tailL (L : Lg) : List Int := L.S.flatMap seaB
def encF (L : Lg) : List Int := L.d ++ intsF (numsF L) ++ stringsF (dataF L) ++ tailL L
theorem numsE_len {E : List Ent} : (E.flatMap numsE).length = 4 * E.length := by
 induction E with
 |nil => rfl
 |cons e E ih => rw [List.flatMap_cons, List.length_append, ih]; simp [numsE]; omega
theorem append_copy {τ : H} {a : Addr} {n m bytes : Nat} {xa : Value} {cs new : List Value} (hr : rdN τ a n = some cs) (hl : cs.length = n) (hx : xcells τ 1 xa = some (m, new)) (hnew : new.length = m) (hm : 0 < m) (hb : (n + m) * bytes ≤ 140737488355328) (hb0 : 0 < bytes) :
  ∃ v', append 1 bytes (.slice (some a) n n) xa τ = some (v', τ.push (.cells 0 (cs ++ new) (0, 0))) ∧ Grown τ (τ.push (.cells 0 (cs ++ new) (0, 0))) 1 v' (cs ++ new) (cs ++ new).length := by
 have hbig : n + m < big := by
  have : (n + m) * 1 ≤ (n + m) * bytes := Nat.mul_le_mul_left _ hb0
  have : (140737488355328 : Nat) < big := by decide
  omega
 refine ⟨.slice (some ⟨τ.size, 0, none⟩) (n + m) (inex 1 (n + m)), ?_, ?_⟩
 ·simp only [append, hx]
  rw [if_neg (by rw [capLow_small (by omega)]; omega), if_pos ⟨hb, hb0⟩]
  simp only [Nat.mul_one, hr, csz_small (show n < big by omega), if_true]
 ·rw [List.length_append, hl, hnew]
  exact ⟨by rw [List.length_append, hl, hnew, Nat.mul_one], hbig, .inr ⟨τ.size, 0, _, Nat.le_refl _, .inl rfl, rfl, by simp⟩⟩
theorem xc_of {τ : H} {b n ver : Nat} {cs : List Value} (h : τ[b]? = some (.cells ver cs (0, 0))) (hn : cs.length = n) : xcells τ 1 (.slice (some ⟨b, 0, none⟩) n n) = some (n, cs) := by
 show (rdN τ ⟨b, 0, none⟩ (n * 1)).map (n, ·) = _
 rw [Nat.mul_one, rdN_all h hn]
 rfl
theorem get_of {τ τ' : H} {c : Nat} {k : Blk} {v : Value} (hf : ∀ c k, τ[c]? = some k → baseOf v ≠ some c → τ'[c]? = some k) (h : τ[c]? = some k) (hb : baseOf v ≠ some c) : τ'[c]? = some k := hf c k h hb
theorem wencode_app {σ : H} {l : List Value} {L : Lg} {a1 a2 : Option Addr} {b1 b2 : Nat} (h : LgV σ l L a1 b1 a2 b2) (hE : L.E.length ≤ 4096) (hS : L.S.length ≤ 256) (hD : ∀ e ∈ L.E, e.data.size < 1000000) :
  App Tryd.prog (.func 36) #[] #[.agg l.toArray] σ fun v σ' => Old σ σ' ∧ Whl σ' 1 v (encF L).length (digC (encF L)) := by
 refine App.of_sem mixed Tryd.func36 t36 k36 r36 (Nat.le_of_ble_eq_true rfl) ?_
 have hd := h.fit.d
 have c16 := h.c16
 have c17 := h.c17
 have c18 := h.c18
 have lR := h.len
 rw [← ap_nil (σ := σ)]
 unfold s36
 simp only [↓eD, eZ, ↓reduceIte, Nat.reduceEqDiff, Nat.reduceAdd, Nat.reduceMul, reduceCtorEq, Nat.reduceLeDiff, Int.reduceLT, Int.reduceLE, Int.reduceToNat, Int.reduceEq, Nat.reduceLT, c16, c17, c18]
 have hB : (ap σ [.cells 0 l (0, 0)]).size = σ.size + 1 := by simp [ap_size]
 have qB : (ap σ [.cells 0 l (0, 0)])[σ.size]? = some (.cells 0 l (0, 0)) := by rw [ap_new0]; rfl
 have oB : Old σ (ap σ [.cells 0 l (0, 0)]) := .ap
 have init : H2 (ap σ [.cells 0 l (0, 0)]) (ap σ [.cells 0 l (0, 0), .cells 0 [.int .i64 L.c, .int .i64 (L.E.length : Int), .int .i64 (L.S.length : Int)] (0, 0)]) (.slice (some ⟨σ.size + 1, 0, none⟩) 3 3) (.slice none 0 0) (i64C [L.c, (L.E.length : Int), (L.S.length : Int)]) [] := by
  refine ⟨⟨by simp [ap_size], fun c hc => ?_⟩, Grown.lit rfl (by decide) (by rw [hB]; omega) (by rw [ap_new]; rfl), .nil, fun c _ h => by cases h⟩
  rw [hB] at hc
  rcases Nat.lt_or_ge c σ.size with h1 | h1
  ·rw [ap_old h1, ap_old h1]
  ·have : c = σ.size := by omega
   subst this
   rw [ap_new0, ap_new0]; rfl
 generalize ap σ [.cells 0 l (0, 0)] = B at hB qB oB init
 refine loop_for (J := fun i e τ => i ≤ L.E.length ∧ ∃ v w, e = [(1, .pointer (some ⟨σ.size, 0, none⟩)), (3, v), (4, w), (21, .slice a1 L.E.length b1), (22, .int .i64 (L.E.length : Int)), (23, .int .i64 (i : Int))] ∧ H2 B τ v w (i64C ([L.c, (L.E.length : Int), (L.S.length : Int)] ++ (L.E.take i).flatMap numsE)) (((L.E.take i).map Ent.data).map Value.string)) L.E.length
  ⟨by omega, _, _, rfl, by simpa using init⟩ ?_
 clear init
 rintro i e τ hi ⟨_, v, w, rfl, hH⟩
 have hBτ := hH.old.1
 rw [hB] at hBτ
 by_cases hlt : i < L.E.length
 ·have dl : decide ((i : Int) < (L.E.length : Int)) = true := by rw [decide_eq_true]; omega
  have hbd : (0:Int) ≤ (i:Int) ∧ (i:Int) < (L.E.length : Int) := by omega
  have hw1 : IntKind.wrap .i64 ((i:Int) + 1) = ((i + 1 : Nat) : Int) := by rw [wrap64' (by omega) (by omega)]; omega
  have hx : (L.E.map entV)[i]? = some (entV L.E[i]) := by simp [hlt]
  obtain ⟨b', off, rfl, h1⟩ := (h.E.Old (oB.trans hH.old)).at hx
  have hr : ∀ M, rdN (ap τ M) ⟨b', off + i * 5, none⟩ 5 = some (entV L.E[i]) := fun M => rdN_old h1
  have ht := List.take_succ_eq_append_getElem hlt
  generalize hEi : L.E[i] = ei at hr ht
  rw [← ap_nil (σ := τ)]
  have rp4 : List.replicate 4 (Value.int .i64 0) = [.int .i64 0, .int .i64 0, .int .i64 0, .int .i64 0] := rfl
  simp only [↓eD, eZ, ↓reduceIte, Nat.reduceEqDiff, Nat.reduceAdd, Nat.reduceMul, reduceCtorEq, Nat.reduceLeDiff, Int.reduceLT, Int.reduceLE, Int.reduceToNat, Int.reduceEq, Nat.reduceLT, dl, hbd, Int.toNat_natCast, hr, entV, rp4, undef_eq]
  have hnl : (([L.c, (L.E.length : Int), (L.S.length : Int)] ++ (L.E.take i).flatMap numsE)).length = 3 + 4 * i := by rw [List.length_append, numsE_len, List.length_take, Nat.min_eq_left (by omega)]; rfl
  have z0 : ∀ K M, (ap τ ([K] ++ M))[τ.size]? = some K := fun K M => by rw [ap_new0]; rfl
  have z1 : ∀ K K' M, (ap τ ([K, K'] ++ M))[τ.size + 1]? = some K' := fun K K' M => by rw [ap_new]; rfl
  have z2 : ∀ K K' K'' M, (ap τ ([K, K', K''] ++ M))[τ.size + 2]? = some K'' := fun K K' K'' M => by rw [ap_new]; rfl
  have q0 : (ap τ [.cells 1 [.int .i64 ei.kind, .int .i64 ei.cpu, .int .i64 ei.count, .int .i64 ei.n, .string ei.data] (0, 0), .cells 0 [.int .i64 ei.kind, .int .i64 ei.cpu, .int .i64 ei.count, .int .i64 ei.n] (0, 0), .cells 0 [.string ei.data] (0, 0)])[τ.size]? = some (.cells 1 [.int .i64 ei.kind, .int .i64 ei.cpu, .int .i64 ei.count, .int .i64 ei.n, .string ei.data] (0, 0)) := z0 _ _
  have q1 : (ap τ [.cells 1 [.int .i64 ei.kind, .int .i64 ei.cpu, .int .i64 ei.count, .int .i64 ei.n, .string ei.data] (0, 0), .cells 0 [.int .i64 ei.kind, .int .i64 ei.cpu, .int .i64 ei.count, .int .i64 ei.n] (0, 0), .cells 0 [.string ei.data] (0, 0)])[τ.size + 1]? = some (.cells 0 [.int .i64 ei.kind, .int .i64 ei.cpu, .int .i64 ei.count, .int .i64 ei.n] (0, 0)) := z1 _ _ _
  have q2 : (ap τ [.cells 1 [.int .i64 ei.kind, .int .i64 ei.cpu, .int .i64 ei.count, .int .i64 ei.n, .string ei.data] (0, 0), .cells 0 [.int .i64 ei.kind, .int .i64 ei.cpu, .int .i64 ei.count, .int .i64 ei.n] (0, 0), .cells 0 [.string ei.data] (0, 0)])[τ.size + 2]? = some (.cells 0 [.string ei.data] (0, 0)) := z2 _ _ _ _
  have hH1 := hH.Old' (Old.ap (l := [.cells 1 [.int .i64 ei.kind, .int .i64 ei.cpu, .int .i64 ei.count, .int .i64 ei.n, .string ei.data] (0, 0), .cells 0 [.int .i64 ei.kind, .int .i64 ei.cpu, .int .i64 ei.count, .int .i64 ei.n] (0, 0), .cells 0 [.string ei.data] (0, 0)]))
  generalize ap τ [.cells 1 [.int .i64 ei.kind, .int .i64 ei.cpu, .int .i64 ei.count, .int .i64 ei.n, .string ei.data] (0, 0), .cells 0 [.int .i64 ei.kind, .int .i64 ei.cpu, .int .i64 ei.count, .int .i64 ei.n] (0, 0), .cells 0 [.string ei.data] (0, 0)] = T at q0 q1 q2 hH1 ⊢
  have bv : ∀ c, τ.size ≤ c → baseOf v ≠ some c := fun c hc hb => by have := (hH.gv.base hb).2; omega
  have bw : ∀ c, τ.size ≤ c → baseOf w ≠ some c := fun c hc hb => by have := (hH.gw.base hb).2; omega
  obtain ⟨v2, T2, ha, hH2, fr2, sz2⟩ := hH1.left (bytes := 8) (m := 4) (xc_of q1 rfl) rfl rfl (by rw [i64C_len, hnl]; omega) (by omega)
  refine onV_of ha ?_
  have p0 := get_of fr2 q0 (bv _ (Nat.le_refl _))
  have p2 := get_of fr2 q2 (bv _ (by omega))
  have r4 : rd1 T2 ⟨τ.size, 4, none⟩ = some (.string ei.data) := by rw [rd1_eq, p0]; rfl
  obtain ⟨w2, T3, hb, hH3, _, _⟩ := hH2.symm.left (bytes := 16) (m := 1) (xc_of p2 rfl) rfl rfl (by simp only [List.length_map, List.length_take]; omega) (by omega)
  simp only [↓eD, eZ, ↓reduceIte, Nat.reduceEqDiff, Nat.reduceAdd, Nat.reduceMul, reduceCtorEq, Nat.reduceLeDiff, Int.reduceLT, Int.reduceLE, Int.reduceToNat, Int.reduceEq, Nat.reduceLT, r4, undef_eq]
  refine onV_of hb ?_
  simp only [↓eD, eZ, ↓reduceIte, Nat.reduceEqDiff, Nat.reduceAdd, Nat.reduceMul, reduceCtorEq, Nat.reduceLeDiff, Int.reduceLT, Int.reduceLE, Int.reduceToNat, Int.reduceEq, Nat.reduceLT, hw1, undef_eq]
  refine ⟨hlt, by omega, v2, w2, rfl, ?_⟩
  have hfin := hH3.symm
  simp only [i64C, numsE, ht, List.map_append, List.map_cons, List.map_nil, List.cons_append, List.nil_append, List.append_nil, List.flatMap_append, List.flatMap_cons, List.flatMap_nil, List.append_assoc] at hfin ⊢
  exact hfin
 have : i = L.E.length := by omega
 subst this
 have dl : decide ((L.E.length : Int) < (L.E.length : Int)) = false := by rw [decide_eq_false]; omega
 rw [List.take_length] at hH
 have g18 : rd1 τ ⟨σ.size, 18, none⟩ = some (.slice a2 L.S.length b2) := rd1_of qB hH.old c18
 simp only [↓eD, eZ, ↓reduceIte, Nat.reduceEqDiff, Nat.reduceAdd, Nat.reduceMul, reduceCtorEq, Nat.reduceLeDiff, Int.reduceLT, Int.reduceLE, Int.reduceToNat, Int.reduceEq, Nat.reduceLT, dl, g18, undef_eq]
 refine loop_for (J := fun i e θ => i ≤ L.S.length ∧ ∃ u v t, e = [(1, .pointer (some ⟨σ.size, 0, none⟩)), (3, u), (4, v), (7, t), (45, .slice a2 L.S.length b2), (46, .int .i64 (L.S.length : Int)), (47, .int .i64 (i : Int))] ∧ H3 B θ u v t (i64C ([L.c, (L.E.length : Int), (L.S.length : Int)] ++ L.E.flatMap numsE ++ (L.S.take i).map Sea.end_)) ((L.E.map Ent.data).map Value.string) (digC ((L.S.take i).flatMap seaB))) L.S.length
  ⟨by omega, v, w, _, rfl, hH.old, by simpa using hH.gv, hH.gw, .nil, hH.ne, (fun c _ h => by cases h), (fun c _ h => by cases h)⟩ ?_
 clear hH hi dl g18
 rintro i e θ hi ⟨_, u, v, t, rfl, hH⟩
 have hBθ := hH.old.1
 rw [hB] at hBθ
 have hnl : (([L.c, (L.E.length : Int), (L.S.length : Int)] ++ L.E.flatMap numsE ++ (L.S.take i).map Sea.end_)).length ≤ 3 + 4 * L.E.length + L.S.length := by
  rw [List.length_append, List.length_append, numsE_len, List.length_map, List.length_take]; simp; omega
 by_cases hlt : i < L.S.length
 ·have dl : decide ((i : Int) < (L.S.length : Int)) = true := by rw [decide_eq_true]; omega
  have hbd : (0:Int) ≤ (i:Int) ∧ (i:Int) < (L.S.length : Int) := by omega
  have hw1 : IntKind.wrap .i64 ((i:Int) + 1) = ((i + 1 : Nat) : Int) := by rw [wrap64' (by omega) (by omega)]; omega
  have hx : (L.S.map seaV)[i]? = some (seaV L.S[i]) := by simp [hlt]
  obtain ⟨b', off, rfl, h1⟩ := (h.S.Old (oB.trans hH.old)).at hx
  have hr : ∀ M, rdN (ap θ M) ⟨b', off + i * 33, none⟩ 33 = some (seaV L.S[i]) := fun M => rdN_old h1
  have ht := List.take_succ_eq_append_getElem hlt
  have hok := (h.ok L.S[i] (by simp)).1
  generalize hSi : L.S[i] = si at hr ht hok
  have sl := seaV_len hok
  have so := seaV_one (s := si)
  have sf : ∀ z : List Value, z.length = 33 → sets z 0 (seaV si) = seaV si := fun z hz => by rw [sets_all (by omega)]; simp [sl, hz]
  have st : (seaV si).take 33 = seaV si := List.take_of_length_le (by omega)
  have sn : (seaV si = []) = False := eq_false (by simp [seaV])
  have s0 : (seaV si)[0]? = some (.int .i64 si.end_) := rfl
  rw [← ap_nil (σ := θ)]
  simp only [↓eD, eZ, ↓reduceIte, Nat.reduceEqDiff, Nat.reduceAdd, Nat.reduceMul, reduceCtorEq, Nat.reduceLeDiff, Int.reduceLT, Int.reduceLE, Int.reduceToNat, Int.reduceEq, Nat.reduceLT, dl, hbd, Int.toNat_natCast, hr, sl, so, sf, st, sn, s0, undef_eq]
  have q0 : (ap θ [.cells 1 (seaV si) (0, 0), .cells 0 [.int .i64 si.end_] (0, 0)])[θ.size]? = some (.cells 1 (seaV si) (0, 0)) := by rw [ap_new0]; rfl
  have q1 : (ap θ [.cells 1 (seaV si) (0, 0), .cells 0 [.int .i64 si.end_] (0, 0)])[θ.size + 1]? = some (.cells 0 [.int .i64 si.end_] (0, 0)) := by rw [ap_new]; rfl
  have hH1 := hH.Old' (Old.ap (l := [.cells 1 (seaV si) (0, 0), .cells 0 [.int .i64 si.end_] (0, 0)]))
  generalize ap θ [.cells 1 (seaV si) (0, 0), .cells 0 [.int .i64 si.end_] (0, 0)] = T at q0 q1 hH1 ⊢
  have bu : ∀ c, θ.size ≤ c → baseOf u ≠ some c := fun c hc hb => by have := (hH.gu.base hb).2; omega
  have bt : ∀ c, θ.size ≤ c → baseOf t ≠ some c := fun c hc hb => by have := (hH.gw.base hb).2; omega
  obtain ⟨u2, T2, ha, hH2, fr2, sz2⟩ := hH1.first (bytes := 8) (m := 1) (xc_of q1 rfl) rfl rfl (by rw [i64C_len]; omega) (by omega)
  refine onV_of ha ?_
  have p0 := get_of fr2 q0 (bu _ (Nat.le_refl _))
  have pall := rdN_all p0 sl
  have ld : (digC si.dig).length = 16 := by rw [digC_length, hok.1]
  have lq : (digC si.seal_).length = 16 := by rw [digC_length, hok.2]
  have k17 : ((seaV si).drop 17).take 16 = digC si.seal_ := by
   unfold seaV
   rw [List.drop_succ_cons, List.drop_left' ld]
   exact List.take_of_length_le (by omega)
  have k1 : ((seaV si).drop 1).take 16 = digC si.dig := by
   unfold seaV
   rw [List.drop_succ_cons, List.drop_zero, List.take_left' ld]
  have x1 : xcells T2 1 (.slice (some ⟨θ.size, 1, none⟩) 16 16) = some (16, digC si.dig) := by
   have := rdN_sub pall (a := 1) (m := 16) (by omega)
   rw [k1] at this
   show (rdN T2 ⟨θ.size, 1, none⟩ (16 * 1)).map (16, ·) = _
   rw [Nat.mul_one, ← Nat.zero_add 1, this]; rfl
  have htl : ((L.S.take i).flatMap seaB).length ≤ 32 * i := by
   have := flat_len_mem (f := seaB) (l := L.S) (i := i) (n := 32) (fun s hs => by have := (h.ok s hs).1; simp [seaB, this.1, this.2])
   omega
  obtain ⟨t2, T3, hb, hH3, fr3, sz3⟩ := hH2.rot.first (bytes := 1) (m := 16) x1 ld digC_one (by rw [digC_length]; omega) (by omega)
  have sa1 : sliceArr 16 1 (.pointer (some ⟨θ.size, 1, none⟩)) none none none = some (.slice (some ⟨θ.size, 1, none⟩) 16 16) := rfl
  have sa17 : sliceArr 16 1 (.pointer (some ⟨θ.size, 17, none⟩)) none none none = some (.slice (some ⟨θ.size, 17, none⟩) 16 16) := rfl
  simp only [↓eD, eZ, ↓reduceIte, Nat.reduceEqDiff, Nat.reduceAdd, Nat.reduceMul, reduceCtorEq, Nat.reduceLeDiff, Int.reduceLT, Int.reduceLE, Int.reduceToNat, Int.reduceEq, Nat.reduceLT, sa1, sa17, undef_eq]
  refine onV_of hb ?_
  have p0' := get_of fr3 p0 (bt _ (Nat.le_refl _))
  have pall' := rdN_all p0' sl
  have x17 : xcells T3 1 (.slice (some ⟨θ.size, 17, none⟩) 16 16) = some (16, digC si.seal_) := by
   have := rdN_sub pall' (a := 17) (m := 16) (by omega)
   rw [k17] at this
   show (rdN T3 ⟨θ.size, 17, none⟩ (16 * 1)).map (16, ·) = _
   rw [Nat.mul_one, ← Nat.zero_add 17, this]; rfl
  obtain ⟨t3, T4, hc, hH4, fr4, sz4⟩ := hH3.first (bytes := 1) (m := 16) x17 lq digC_one (by rw [List.length_append, digC_length, ld]; omega) (by omega)
  simp only [↓eD, eZ, ↓reduceIte, Nat.reduceEqDiff, Nat.reduceAdd, Nat.reduceMul, reduceCtorEq, Nat.reduceLeDiff, Int.reduceLT, Int.reduceLE, Int.reduceToNat, Int.reduceEq, Nat.reduceLT, undef_eq]
  refine onV_of hc ?_
  simp only [↓eD, eZ, ↓reduceIte, Nat.reduceEqDiff, Nat.reduceAdd, Nat.reduceMul, reduceCtorEq, Nat.reduceLeDiff, Int.reduceLT, Int.reduceLE, Int.reduceToNat, Int.reduceEq, Nat.reduceLT, hw1, undef_eq]
  refine ⟨hlt, by omega, u2, v, t3, rfl, ?_⟩
  have hfin := hH4.rot
  simp only [i64C, digC, seaB, ht, List.map_append, List.map_cons, List.map_nil, List.cons_append, List.nil_append, List.append_nil, List.flatMap_append, List.flatMap_cons, List.flatMap_nil, List.append_assoc] at hfin ⊢
  exact hfin
 have : i = L.S.length := by omega
 subst this
 have dl : decide ((L.S.length : Int) < (L.S.length : Int)) = false := by rw [decide_eq_false]; omega
 rw [List.take_length] at hH hnl
 have sa0 : sliceArr 16 1 (.pointer (some ⟨σ.size, 0, none⟩)) none (some (.int .i64 16)) (some (.int .i64 16)) = some (.slice (some ⟨σ.size, 0, none⟩) 16 16) := rfl
 simp only [↓eD, eZ, ↓reduceIte, Nat.reduceEqDiff, Nat.reduceAdd, Nat.reduceMul, reduceCtorEq, Nat.reduceLeDiff, Int.reduceLT, Int.reduceLE, Int.reduceToNat, Int.reduceEq, Nat.reduceLT, dl, sa0, undef_eq]
 have hNF : [L.c, (L.E.length : Int), (L.S.length : Int)] ++ L.E.flatMap numsE ++ L.S.map Sea.end_ = numsF L := rfl
 rw [hNF] at hH hnl
 have hI : ∀ n ∈ numsF L, I64 n := by
  intro n hn
  unfold numsF at hn
  rcases List.mem_append.1 hn with hn | hn
  ·rcases List.mem_append.1 hn with hn | hn
   ·simp only [List.mem_cons, List.not_mem_nil, or_false] at hn
    rcases hn with rfl | rfl | rfl
    ·exact h.fit.c
    ·unfold I64; omega
    ·unfold I64; omega
   ·obtain ⟨x, hx, hn⟩ := List.mem_flatMap.1 hn
    have hf := h.fit.E x hx
    simp only [numsE, List.mem_cons, List.not_mem_nil, or_false] at hn
    rcases hn with rfl | rfl | rfl | rfl
    ·exact hf.1
    ·exact hf.2.1
    ·exact hf.2.2.1
    ·exact hf.2.2.2.1
  ·obtain ⟨x, hx, rfl⟩ := List.mem_map.1 hn
   exact (h.ok x hx).2
 have wN := hH.gu.whl
 rw [i64C_len] at wN
 refine appK_of (wints_app wN (by omega) hI) ?_
 rintro vi θ2 ⟨ho2, hgi⟩
 have hH2 := hH.Old' ho2
 have p0 : θ2[σ.size]? = some (.cells 0 l (0, 0)) := (hH2.old.2 _ (by omega)).trans qB
 have d16 : l.take 16 = digC L.d := by rw [h.l]; exact rec_take16 hd
 have r16 : rdN θ2 ⟨σ.size, 0, none⟩ 16 = some (digC L.d) := by
  have := rdN_sub (rdN_all p0 lR) (a := 0) (m := 16) (by omega)
  rw [List.drop_zero, d16] at this
  exact this
 have hil := intsF_len (l := numsF L)
 have hip := intsF_pos (l := numsF L)
 obtain ⟨v1, ha1, hg1⟩ := append_copy (bytes := 1) r16 (by rw [digC_length, hd]) hgi.whl.x (by rw [digC_length]) hip (by omega) (by omega)
 simp only [↓eD, eZ, ↓reduceIte, Nat.reduceEqDiff, Nat.reduceAdd, Nat.reduceMul, reduceCtorEq, Nat.reduceLeDiff, Int.reduceLT, Int.reduceLE, Int.reduceToNat, Int.reduceEq, Nat.reduceLT, undef_eq]
 refine onV_of ha1 ?_
 obtain ⟨θ3, hθ3⟩ : ∃ θ3, θ3 = θ2.push (.cells 0 (digC L.d ++ digC (intsF (numsF L))) (0, 0)) := ⟨_, rfl⟩
 rw [← hθ3] at hg1 ⊢
 have o3 : Old θ2 θ3 := by rw [hθ3]; exact old_push
 have hH3 := hH2.Old' o3
 have wD := hH3.gv.whl
 rw [List.length_map, List.length_map] at wD
 have hDl : (L.E.map Ent.data).length = L.E.length := by simp
 simp only [↓eD, eZ, ↓reduceIte, Nat.reduceEqDiff, Nat.reduceAdd, Nat.reduceMul, reduceCtorEq, Nat.reduceLeDiff, Int.reduceLT, Int.reduceLE, Int.reduceToNat, Int.reduceEq, Nat.reduceLT, undef_eq]
 refine appK_of (wstrs_app (l := L.E.map Ent.data) (by rw [hDl]; exact wD) (by rw [hDl]; omega) (fun s hs => by obtain ⟨x, hx, rfl⟩ := List.mem_map.1 hs; exact hD x hx)) ?_
 rintro vs θ4 ⟨ho4, hgs⟩
 have hH4 := hH3.Old' ho4
 have hg1' := hg1.old ho4
 have hsl : (stringsF (L.E.map Ent.data)).length ≤ 10 + 4096 * 1000010 := by
  unfold stringsF
  have e1 := flat_len_mem (f := bytesF) (l := L.E.map Ent.data) (i := L.E.length) (n := 1000010) (fun s hs => by
   obtain ⟨x, hx, rfl⟩ := List.mem_map.1 hs
   have := bytesF_len7 (s := x.data)
   have := hD x hx
   omega)
  rw [List.take_of_length_le (by simp)] at e1
  rw [List.length_append]
  have e2 : (intF ((L.E.map Ent.data).length : Int)).length ≤ 10 := intF_len
  have e3 : L.E.length * 1000010 ≤ 4096 * 1000010 := Nat.mul_le_mul_right _ hE
  omega
 have hl1 : (digC L.d ++ digC (intsF (numsF L))).length ≤ 1000000 := by rw [List.length_append, digC_length, digC_length, hd]; omega
 obtain ⟨v2, θ5, ha2, A2⟩ := append_grown (bytes := 1) (m := (stringsF (L.E.map Ent.data)).length) hg1' (by omega) (by have := o3.1; have := ho4.1; omega) hgs.whl.x (by rw [digC_length, Nat.mul_one]) digC_one (by omega) (by omega)
 simp only [↓eD, eZ, ↓reduceIte, Nat.reduceEqDiff, Nat.reduceAdd, Nat.reduceMul, reduceCtorEq, Nat.reduceLeDiff, Int.reduceLT, Int.reduceLE, Int.reduceToNat, Int.reduceEq, Nat.reduceLT, undef_eq]
 refine onV_of ha2 ?_
 have o25 : Old θ2 θ5 := A2.Old' hg1' (Nat.le_refl _) (o3.trans ho4)
 have wt : xcells θ5 1 t = some ((tailL L).length, digC (tailL L)) := by
  have := (hH2.Old' o25).gw.whl.x
  rw [digC_length] at this
  exact this
 have htl : (tailL L).length ≤ 32 * 256 := by
  have := flat_len_mem (f := seaB) (l := L.S) (i := L.S.length) (n := 32) (fun s hs => by have := (h.ok s hs).1; simp [seaB, this.1, this.2])
  rw [List.take_length] at this
  unfold tailL
  omega
 obtain ⟨v3, θ6, ha3, A3⟩ := append_grown (bytes := 1) (m := (tailL L).length) A2.grown (by omega) (by have := o25.1; omega) wt (by rw [digC_length, Nat.mul_one]) digC_one (by omega) (by omega)
 simp only [↓eD, eZ, ↓reduceIte, Nat.reduceEqDiff, Nat.reduceAdd, Nat.reduceMul, reduceCtorEq, Nat.reduceLeDiff, Int.reduceLT, Int.reduceLE, Int.reduceToNat, Int.reduceEq, Nat.reduceLT, undef_eq]
 refine onV_of ha3 ?_
 simp only [↓eD, eZ, ↓reduceIte, Nat.reduceEqDiff, Nat.reduceAdd, Nat.reduceMul, reduceCtorEq, Nat.reduceLeDiff, Int.reduceLT, Int.reduceLE, Int.reduceToNat, Int.reduceEq, Nat.reduceLT, undef_eq]
 have o26 : Old θ2 θ6 := A3.Old' A2.grown (Nat.le_refl _) o25
 have hw := A3.grown.whl
 have e1 : digC L.d ++ digC (intsF (numsF L)) ++ digC (stringsF (L.E.map Ent.data)) ++ digC (tailL L) = digC (encF L) := by
  unfold encF dataF
  simp [digC]
 have e2 : (digC L.d ++ digC (intsF (numsF L))).length + (stringsF (L.E.map Ent.data)).length + (tailL L).length = (encF L).length := by
  rw [← digC_length (l := encF L), ← e1]
  simp only [List.length_append, digC_length]
 rw [e1, e2] at hw
 exact ⟨(oB.trans hH2.old).trans o26, hw⟩
theorem bytesS_app {a b : List Int} : bytesS a ++ bytesS b = bytesS (a ++ b) := by
 apply ByteArray.ext
 simp [bytesS, ByteArray.data_append]
theorem byt_app {a b : List Int} (ha : Byt a) (hb : Byt b) : Byt (a ++ b) := fun x hx => (List.mem_append.1 hx).elim (ha x) (hb x)
theorem byt_flat {α : Type} {f : α → List Int} {l : List α} (h : ∀ x ∈ l, Byt (f x)) : Byt (l.flatMap f) := fun x hx => by
 obtain ⟨y, hy, hx⟩ := List.mem_flatMap.1 hx
 exact h y hy x hx
theorem encF_byt {L : Lg} (hbd : Byt L.d) (hbS : ∀ s ∈ L.S, Byt s.dig ∧ Byt s.seal_) : Byt (encF L) := by
 unfold encF
 refine byt_app (byt_app (byt_app hbd ?_) ?_) ?_
 ·unfold intsF; exact byt_app intF_byt (byt_flat fun x _ => intF_byt)
 ·unfold stringsF; exact byt_app intF_byt (byt_flat fun x _ => byt_app intF_byt strI_byt)
 ·unfold tailL; exact byt_flat fun x hx => byt_app (hbS x hx).1 (hbS x hx).2
theorem str_whl {σ : H} {a : Addr} {n c : Nat} {d : List Int} (h : Whl σ 1 (.slice (some a) n c) n (digC d)) : rdN σ a n = some (digC d) := by
 have := whl_rd h
 rwa [Nat.mul_one] at this
theorem rencode_app {σ : H} {l : List Value} {L : Lg} {a1 a2 : Option Addr} {b1 b2 : Nat} (h : LgV σ l L a1 b1 a2 b2) (hE : L.E.length ≤ 4096) (hS : L.S.length ≤ 256) (hD : ∀ e ∈ L.E, e.data.size < 1000000) (hbd : Byt L.d) (hbS : ∀ s ∈ L.S, Byt s.dig ∧ Byt s.seal_) :
  App Tryd.prog (.func 37) #[] #[.agg l.toArray] σ fun v σ' => Old σ σ' ∧ Whl σ' 1 v (encF L).length (digC (encF L)) := by
 refine App.of_sem mixed Tryd.func37 t37 k37 r37 (Nat.le_of_ble_eq_true rfl) ?_
 have hd := h.fit.d
 have c16 := h.c16
 have c17 := h.c17
 have c18 := h.c18
 have lR := h.len
 rw [← ap_nil (σ := σ)]
 unfold s37
 simp only [↓eD, eZ, ↓reduceIte, Nat.reduceEqDiff, Nat.reduceAdd, Nat.reduceMul, reduceCtorEq, Nat.reduceLeDiff, Int.reduceLT, Int.reduceLE, Int.reduceToNat, Int.reduceEq, Nat.reduceLT, c16, c17, c18]
 have hB : (ap σ [.cells 0 l (0, 0)]).size = σ.size + 1 := by simp [ap_size]
 have qB : (ap σ [.cells 0 l (0, 0)])[σ.size]? = some (.cells 0 l (0, 0)) := by rw [ap_new0]; rfl
 have oB : Old σ (ap σ [.cells 0 l (0, 0)]) := .ap
 have init : H2 (ap σ [.cells 0 l (0, 0)]) (ap σ [.cells 0 l (0, 0), .cells 0 [.int .i64 L.c, .int .i64 (L.E.length : Int), .int .i64 (L.S.length : Int)] (0, 0)]) (.slice (some ⟨σ.size + 1, 0, none⟩) 3 3) (.slice none 0 0) (i64C [L.c, (L.E.length : Int), (L.S.length : Int)]) [] := by
  refine ⟨⟨by simp [ap_size], fun c hc => ?_⟩, Grown.lit rfl (by decide) (by rw [hB]; omega) (by rw [ap_new]; rfl), .nil, fun c _ h => by cases h⟩
  rw [hB] at hc
  rcases Nat.lt_or_ge c σ.size with h1 | h1
  ·rw [ap_old h1, ap_old h1]
  ·have : c = σ.size := by omega
   subst this
   rw [ap_new0, ap_new0]; rfl
 generalize ap σ [.cells 0 l (0, 0)] = B at hB qB oB init
 refine loop_for (J := fun i e τ => i ≤ L.E.length ∧ ∃ v w, e = [(1, .pointer (some ⟨σ.size, 0, none⟩)), (3, v), (4, w), (5, .int .i64 (i : Int))] ∧ H2 B τ v w (i64C ([L.c, (L.E.length : Int), (L.S.length : Int)] ++ (L.E.take i).flatMap numsE)) (((L.E.take i).map Ent.data).map Value.string)) L.E.length
  ⟨by omega, _, _, rfl, by simpa using init⟩ ?_
 clear init
 rintro i e τ hi ⟨_, v, w, rfl, hH⟩
 have hBτ := hH.old.1
 rw [hB] at hBτ
 have g17 : ∀ M, rd1 (ap τ M) ⟨σ.size, 17, none⟩ = some (.slice a1 L.E.length b1) := fun M => rd1_of qB (hH.old.trans .ap) c17
 by_cases hlt : i < L.E.length
 ·have dl : decide ((i : Int) < (L.E.length : Int)) = true := by rw [decide_eq_true]; omega
  have hbd : (0:Int) ≤ (i:Int) ∧ (i:Int) < (L.E.length : Int) := by omega
  have hw1 : IntKind.wrap .i64 ((i:Int) + 1) = ((i + 1 : Nat) : Int) := by rw [wrap64' (by omega) (by omega)]; omega
  have hx : (L.E.map entV)[i]? = some (entV L.E[i]) := by simp [hlt]
  obtain ⟨b', off, rfl, h1⟩ := (h.E.Old (oB.trans hH.old)).at hx
  have hr : ∀ M, rdN (ap τ M) ⟨b', off + i * 5, none⟩ 5 = some (entV L.E[i]) := fun M => rdN_old h1
  have ht := List.take_succ_eq_append_getElem hlt
  generalize hEi : L.E[i] = ei at hr ht
  rw [← ap_nil (σ := τ)]
  have rp4 : List.replicate 4 (Value.int .i64 0) = [.int .i64 0, .int .i64 0, .int .i64 0, .int .i64 0] := rfl
  simp only [↓eD, eZ, ↓reduceIte, Nat.reduceEqDiff, Nat.reduceAdd, Nat.reduceMul, reduceCtorEq, Nat.reduceLeDiff, Int.reduceLT, Int.reduceLE, Int.reduceToNat, Int.reduceEq, Nat.reduceLT, g17, dl, hbd, Int.toNat_natCast, hr, entV, rp4, undef_eq]
  have hnl : (([L.c, (L.E.length : Int), (L.S.length : Int)] ++ (L.E.take i).flatMap numsE)).length = 3 + 4 * i := by rw [List.length_append, numsE_len, List.length_take, Nat.min_eq_left (by omega)]; rfl
  have q0 : (ap τ [.cells 1 [.int .i64 ei.kind, .int .i64 ei.cpu, .int .i64 ei.count, .int .i64 ei.n, .string ei.data] (0, 0), .cells 0 [.int .i64 ei.kind, .int .i64 ei.cpu, .int .i64 ei.count, .int .i64 ei.n] (0, 0)])[τ.size]? = some (.cells 1 [.int .i64 ei.kind, .int .i64 ei.cpu, .int .i64 ei.count, .int .i64 ei.n, .string ei.data] (0, 0)) := by rw [ap_new0]; rfl
  have q1 : (ap τ [.cells 1 [.int .i64 ei.kind, .int .i64 ei.cpu, .int .i64 ei.count, .int .i64 ei.n, .string ei.data] (0, 0), .cells 0 [.int .i64 ei.kind, .int .i64 ei.cpu, .int .i64 ei.count, .int .i64 ei.n] (0, 0)])[τ.size + 1]? = some (.cells 0 [.int .i64 ei.kind, .int .i64 ei.cpu, .int .i64 ei.count, .int .i64 ei.n] (0, 0)) := by rw [ap_new]; rfl
  have hH1 := hH.Old' (Old.ap (l := [.cells 1 [.int .i64 ei.kind, .int .i64 ei.cpu, .int .i64 ei.count, .int .i64 ei.n, .string ei.data] (0, 0), .cells 0 [.int .i64 ei.kind, .int .i64 ei.cpu, .int .i64 ei.count, .int .i64 ei.n] (0, 0)]))
  generalize ap τ [.cells 1 [.int .i64 ei.kind, .int .i64 ei.cpu, .int .i64 ei.count, .int .i64 ei.n, .string ei.data] (0, 0), .cells 0 [.int .i64 ei.kind, .int .i64 ei.cpu, .int .i64 ei.count, .int .i64 ei.n] (0, 0)] = T at q0 q1 hH1 ⊢
  have bv : ∀ c, τ.size ≤ c → baseOf v ≠ some c := fun c hc hb => by have := (hH.gv.base hb).2; omega
  obtain ⟨v2, T2, ha, hH2, fr2, sz2⟩ := hH1.left (bytes := 8) (m := 4) (xc_of q1 rfl) rfl rfl (by rw [i64C_len, hnl]; omega) (by omega)
  refine onV_of ha ?_
  have p0 := get_of fr2 q0 (bv _ (Nat.le_refl _))
  have r4 : rd1 T2 ⟨τ.size, 4, none⟩ = some (.string ei.data) := by rw [rd1_eq, p0]; rfl
  have r4' : ∀ M, rd1 (ap T2 M) ⟨τ.size, 4, none⟩ = some (.string ei.data) := fun M => rd1_old r4
  rw [← ap_nil (σ := T2)]
  simp only [↓eD, eZ, ↓reduceIte, Nat.reduceEqDiff, Nat.reduceAdd, Nat.reduceMul, reduceCtorEq, Nat.reduceLeDiff, Int.reduceLT, Int.reduceLE, Int.reduceToNat, Int.reduceEq, Nat.reduceLT, r4', undef_eq]
  have hH2' := hH2.Old' (Old.ap (l := [.cells 0 [.string ei.data] (0, 0)]))
  obtain ⟨w2, T3, hb, hH3, _, _⟩ := hH2'.symm.left (bytes := 16) (m := 1) (xc_of (b := T2.size) (ver := 0) (cs := [.string ei.data]) (by rw [ap_new0]; rfl) rfl) rfl rfl (by simp only [List.length_map, List.length_take]; omega) (by omega)
  refine onV_of hb ?_
  simp only [↓eD, eZ, ↓reduceIte, Nat.reduceEqDiff, Nat.reduceAdd, Nat.reduceMul, reduceCtorEq, Nat.reduceLeDiff, Int.reduceLT, Int.reduceLE, Int.reduceToNat, Int.reduceEq, Nat.reduceLT, hw1, undef_eq]
  refine ⟨hlt, by omega, v2, w2, rfl, ?_⟩
  have hfin := hH3.symm
  simp only [i64C, numsE, ht, List.map_append, List.map_cons, List.map_nil, List.cons_append, List.nil_append, List.append_nil, List.flatMap_append, List.flatMap_cons, List.flatMap_nil, List.append_assoc] at hfin ⊢
  exact hfin
 have : i = L.E.length := by omega
 subst this
 have dl : decide ((L.E.length : Int) < (L.E.length : Int)) = false := by rw [decide_eq_false]; omega
 rw [List.take_length] at hH
 have g17' := g17 []
 rw [ap_nil] at g17'
 simp only [↓eD, eZ, ↓reduceIte, Nat.reduceEqDiff, Nat.reduceAdd, Nat.reduceMul, reduceCtorEq, Nat.reduceLeDiff, Int.reduceLT, Int.reduceLE, Int.reduceToNat, Int.reduceEq, Nat.reduceLT, g17', dl, undef_eq]
 refine loop_for (J := fun i e θ => i ≤ L.S.length ∧ ∃ u v, e = [(1, .pointer (some ⟨σ.size, 0, none⟩)), (3, u), (4, v), (7, .string (bytesS ((L.S.take i).flatMap seaB))), (8, .int .i64 (i : Int))] ∧ H2 B θ u v (i64C ([L.c, (L.E.length : Int), (L.S.length : Int)] ++ L.E.flatMap numsE ++ (L.S.take i).map Sea.end_)) ((L.E.map Ent.data).map Value.string)) L.S.length
  ⟨by omega, v, w, rfl, by simpa using hH⟩ ?_
 clear hH hi dl g17 g17'
 rintro i e θ hi ⟨_, u, v, rfl, hH⟩
 have hBθ := hH.old.1
 rw [hB] at hBθ
 have hnl : (([L.c, (L.E.length : Int), (L.S.length : Int)] ++ L.E.flatMap numsE ++ (L.S.take i).map Sea.end_)).length ≤ 3 + 4 * L.E.length + L.S.length := by
  rw [List.length_append, List.length_append, numsE_len, List.length_map, List.length_take]; simp; omega
 have g18 : ∀ M, rd1 (ap θ M) ⟨σ.size, 18, none⟩ = some (.slice a2 L.S.length b2) := fun M => rd1_of qB (hH.old.trans .ap) c18
 have htl : ((L.S.take i).flatMap seaB).length ≤ 32 * i := by
  have := flat_len_mem (f := seaB) (l := L.S) (i := i) (n := 32) (fun s hs => by have := (h.ok s hs).1; simp [seaB, this.1, this.2])
  omega
 by_cases hlt : i < L.S.length
 ·have dl : decide ((i : Int) < (L.S.length : Int)) = true := by rw [decide_eq_true]; omega
  have hbd : (0:Int) ≤ (i:Int) ∧ (i:Int) < (L.S.length : Int) := by omega
  have hw1 : IntKind.wrap .i64 ((i:Int) + 1) = ((i + 1 : Nat) : Int) := by rw [wrap64' (by omega) (by omega)]; omega
  have hx : (L.S.map seaV)[i]? = some (seaV L.S[i]) := by simp [hlt]
  obtain ⟨b', off, rfl, h1⟩ := (h.S.Old (oB.trans hH.old)).at hx
  have hr : ∀ M, rdN (ap θ M) ⟨b', off + i * 33, none⟩ 33 = some (seaV L.S[i]) := fun M => rdN_old h1
  have ht := List.take_succ_eq_append_getElem hlt
  have hok := (h.ok L.S[i] (by simp)).1
  generalize hSi : L.S[i] = si at hr ht hok
  have sl := seaV_len hok
  have so := seaV_one (s := si)
  have sf : ∀ z : List Value, z.length = 33 → sets z 0 (seaV si) = seaV si := fun z hz => by rw [sets_all (by omega)]; simp [sl, hz]
  have st : (seaV si).take 33 = seaV si := List.take_of_length_le (by omega)
  have sn : (seaV si = []) = False := eq_false (by simp [seaV])
  have s0 : (seaV si)[0]? = some (.int .i64 si.end_) := rfl
  rw [← ap_nil (σ := θ)]
  simp only [↓eD, eZ, ↓reduceIte, Nat.reduceEqDiff, Nat.reduceAdd, Nat.reduceMul, reduceCtorEq, Nat.reduceLeDiff, Int.reduceLT, Int.reduceLE, Int.reduceToNat, Int.reduceEq, Nat.reduceLT, g18, dl, hbd, Int.toNat_natCast, hr, sl, so, sf, st, sn, s0, undef_eq]
  have q0 : (ap θ [.cells 1 (seaV si) (0, 0), .cells 0 [.int .i64 si.end_] (0, 0)])[θ.size]? = some (.cells 1 (seaV si) (0, 0)) := by rw [ap_new0]; rfl
  have q1 : (ap θ [.cells 1 (seaV si) (0, 0), .cells 0 [.int .i64 si.end_] (0, 0)])[θ.size + 1]? = some (.cells 0 [.int .i64 si.end_] (0, 0)) := by rw [ap_new]; rfl
  have hH1 := hH.Old' (Old.ap (l := [.cells 1 (seaV si) (0, 0), .cells 0 [.int .i64 si.end_] (0, 0)]))
  generalize ap θ [.cells 1 (seaV si) (0, 0), .cells 0 [.int .i64 si.end_] (0, 0)] = T at q0 q1 hH1 ⊢
  have bu : ∀ c, θ.size ≤ c → baseOf u ≠ some c := fun c hc hb => by have := (hH.gv.base hb).2; omega
  obtain ⟨u2, T2, ha, hH2, fr2, sz2⟩ := hH1.left (bytes := 8) (m := 1) (xc_of q1 rfl) rfl rfl (by rw [i64C_len]; omega) (by omega)
  refine onV_of ha ?_
  have p0 := get_of fr2 q0 (bu _ (Nat.le_refl _))
  have hlt0 : θ.size < T2.size := (Array.getElem?_eq_some_iff.1 p0).1
  obtain ⟨Q, hQ⟩ : ∃ Q, Q = si.seal_ := ⟨_, rfl⟩
  have lQ : Q.length = 16 := by rw [hQ]; exact hok.2
  have z16 : (List.replicate 16 (0 : Int)).length = 16 := rfl
  have v16 := digC_sets (z := List.replicate 16 0) (l := List.replicate 16 0) rfl
  have n16 := digC_ne' (l := List.replicate 16 0) z16 (by omega)
  have x16 := digC_take (l := List.replicate 16 0) z16
  rw [← ap_nil (σ := T2)]
  simp only [↓eD, eZ, ↓reduceIte, Nat.reduceEqDiff, Nat.reduceAdd, Nat.reduceMul, reduceCtorEq, Nat.reduceLeDiff, Int.reduceLT, Int.reduceLE, Int.reduceToNat, Int.reduceEq, Nat.reduceLT, digC_rep, digC_length, digC_one, List.length_replicate, z16, v16, n16, x16, undef_eq]
  refine loop_for (J := fun j e η => j ≤ 16 ∧ ∃ ver, e = [(1, .pointer (some ⟨σ.size, 0, none⟩)), (3, u2), (4, v), (7, .string (bytesS ((L.S.take i).flatMap seaB))), (8, .int .i64 (i : Int)), (9, .pointer (some ⟨θ.size, 0, none⟩)), (10, .pointer (some ⟨T2.size, 0, none⟩)), (11, .int .i64 (j : Int))] ∧ η = ap T2 [.cells ver (digC (Q.take j ++ List.replicate (16 - j) 0)) (0, 0)]) 16 ⟨by omega, 1, rfl, rfl⟩ ?_
  rintro j e η hj ⟨_, ver, rfl, rfl⟩
  by_cases h16 : j < 16
  ·have c1 : decide ((j : Int) < 16) = true := by rw [decide_eq_true]; omega
   have hbd : (0:Int) ≤ (j:Int) ∧ (j:Int) < ((16 : Nat) : Int) := by omega
   have hw : IntKind.wrap .i64 ((j:Int) + 1) = ((j + 1 : Nat) : Int) := by rw [wrap64' (by omega) (by omega)]; omega
   have hq : j < Q.length := by omega
   have hr9 : rd1 (ap T2 [.cells ver (digC (Q.take j ++ List.replicate (16 - j) 0)) (0, 0)]) ⟨θ.size, 17 + j, none⟩ = some (.int .u8 Q[j]) := by
    have e1 : (seaV si)[17 + j]? = some (.int .u8 Q[j]) := by
     unfold seaV
     rw [show 17 + j = (16 + j) + 1 by omega, List.getElem?_cons_succ, List.getElem?_append_right (by rw [digC_length, hok.1]; omega), digC_length, hok.1, show 16 + j - 16 = j by omega, ← hQ]
     simp [digC, hq]
    have := rd1_row (rdN_all ((ap_old (l := [.cells ver (digC (Q.take j ++ List.replicate (16 - j) 0)) (0, 0)]) hlt0).trans p0) sl) (j := 17 + j) e1
    rwa [Nat.zero_add] at this
   have hnx : (digC (Q.take j ++ List.replicate (16 - j) 0)).set j (.int .u8 Q[j]) = digC (Q.take (j + 1) ++ List.replicate (16 - (j + 1)) 0) := by
    have h16' : 16 - j = (16 - (j + 1)) + 1 := by omega
    rw [h16', List.replicate_succ, List.take_succ_eq_append_getElem hq]
    have lt : (Q.take j).length = j := by rw [List.length_take]; omega
    unfold digC
    rw [List.map_append, List.set_append, if_neg (by rw [List.length_map, lt]; omega), List.length_map, lt, Nat.sub_self, List.map_cons, List.set_cons_zero, List.map_append, List.map_append, List.append_assoc]
    rfl
   have lcs : (digC (Q.take j ++ List.replicate (16 - j) 0)).length = 16 := by rw [digC_length, List.length_append, List.length_take, List.length_replicate]; omega
   have hwr : wrN (ap T2 [.cells ver (digC (Q.take j ++ List.replicate (16 - j) 0)) (0, 0)]) ⟨T2.size, j, none⟩ [.int .u8 Q[j]] = some (ap T2 [.cells (ver + 1) (digC (Q.take (j + 1) ++ List.replicate (16 - (j + 1)) 0)) (0, 0)]) := by
    rw [wrN_ap0, if_neg (by simp)]
    show (wrc (some (.cells ver _ (0, 0))) j _).map _ = _
    rw [wrc_cells, if_pos ⟨by rw [lcs]; show j + 1 ≤ 16; omega, rfl⟩]
    show some (ap T2 [.cells (ver + 1) ((digC (Q.take j ++ List.replicate (16 - j) 0)).set j (.int .u8 Q[j])) (0, 0)]) = _
    rw [hnx]
   simp only [↓eD, eZ, ↓reduceIte, Nat.reduceEqDiff, Nat.reduceAdd, Nat.reduceMul, reduceCtorEq, Nat.reduceLeDiff, Int.reduceLT, Int.reduceLE, Int.reduceToNat, Int.reduceEq, Nat.reduceLT, c1, hbd, Int.toNat_natCast, Nat.mul_one, Nat.zero_add, hr9, hwr, hw, undef_eq]
   exact ⟨h16, by omega, ver + 1, rfl⟩
  have : j = 16 := by omega
  subst this
  have c1 : decide (((16 : Nat) : Int) < 16) = false := rfl
  have hQ16 : Q.take 16 ++ List.replicate (16 - 16) 0 = Q := by rw [List.take_of_length_le (by omega)]; simp
  rw [hQ16]
  have ld : (digC si.dig).length = 16 := by rw [digC_length, hok.1]
  have k1 : ((seaV si).drop 1).take 16 = digC si.dig := by
   unfold seaV
   rw [List.drop_succ_cons, List.drop_zero, List.take_left' ld]
  have r1 : ∀ M, rdN (ap T2 M) ⟨θ.size, 1, none⟩ 16 = some (digC si.dig) := fun M => by
   have := rdN_sub (rdN_all ((ap_old (l := M) hlt0).trans p0) sl) (a := 1) (m := 16) (by omega)
   rwa [k1] at this
  have tQ := digC_take (l := Q) lQ
  have td := digC_take (l := si.dig) hok.1
  simp only [↓eD, eZ, ↓reduceIte, Nat.reduceEqDiff, Nat.reduceAdd, Nat.reduceMul, reduceCtorEq, Nat.reduceLeDiff, Int.reduceLT, Int.reduceLE, Int.reduceToNat, Int.reduceEq, Nat.reduceLT, c1, r1, digC_length, lQ, hok.1, tQ, td, undef_eq]
  refine appK_at (digs_app hok.1) ?_
  have hz1 : ((bytesS ((L.S.take i).flatMap seaB)).size + (bytesS si.dig).size ≤ 9223372036854775807) = True := eq_true (by rw [bytesS_size', bytesS_size', hok.1]; omega)
  simp only [↓eD, eZ, ↓reduceIte, Nat.reduceEqDiff, Nat.reduceAdd, Nat.reduceMul, reduceCtorEq, Nat.reduceLeDiff, Int.reduceLT, Int.reduceLE, Int.reduceToNat, Int.reduceEq, Nat.reduceLT, digC_length, lQ, tQ, bin_sadd, hz1, bytesS_app, undef_eq]
  refine appK_at (digs_app lQ) ?_
  have hz2 : ((bytesS ((L.S.take i).flatMap seaB ++ si.dig)).size + (bytesS Q).size ≤ 9223372036854775807) = True := eq_true (by rw [bytesS_size', bytesS_size', List.length_append, hok.1, lQ]; omega)
  simp only [↓eD, eZ, ↓reduceIte, Nat.reduceEqDiff, Nat.reduceAdd, Nat.reduceMul, reduceCtorEq, Nat.reduceLeDiff, Int.reduceLT, Int.reduceLE, Int.reduceToNat, Int.reduceEq, Nat.reduceLT, bin_sadd, hz2, bytesS_app, hw1, undef_eq]
  refine ⟨hlt, by omega, u2, v, ?_, ?_⟩
  ·rw [ht]; simp [seaB, hQ, List.flatMap_append]
  ·have hfin := hH2.Old' (Old.ap (l := [.cells ver (digC Q) (0, 0)]))
   simp only [i64C, ht, List.map_append, List.map_cons, List.map_nil, List.cons_append, List.nil_append, List.append_nil, List.append_assoc] at hfin ⊢
   exact hfin
 have : i = L.S.length := by omega
 subst this
 have dl : decide ((L.S.length : Int) < (L.S.length : Int)) = false := by rw [decide_eq_false]; omega
 rw [List.take_length] at hH hnl htl ⊢
 have g18' := g18 []
 rw [ap_nil] at g18'
 have p0 : θ[σ.size]? = some (.cells 0 l (0, 0)) := (hH.old.2 _ (by omega)).trans qB
 have d16 : l.take 16 = digC L.d := by rw [h.l]; exact rec_take16 hd
 have r16 : rdN θ ⟨σ.size, 0, none⟩ 16 = some (digC L.d) := by
  have := rdN_sub (rdN_all p0 lR) (a := 0) (m := 16) (by omega)
  rw [List.drop_zero, d16] at this
  exact this
 have hNF : [L.c, (L.E.length : Int), (L.S.length : Int)] ++ L.E.flatMap numsE ++ L.S.map Sea.end_ = numsF L := rfl
 rw [hNF] at hH hnl
 simp only [↓eD, eZ, ↓reduceIte, Nat.reduceEqDiff, Nat.reduceAdd, Nat.reduceMul, reduceCtorEq, Nat.reduceLeDiff, Int.reduceLT, Int.reduceLE, Int.reduceToNat, Int.reduceEq, Nat.reduceLT, g18', dl, r16, undef_eq]
 refine appK_at (digs_app hd) ?_
 have wN := hH.gv.whl
 rw [i64C_len] at wN
 simp only [↓eD, eZ, ↓reduceIte, Nat.reduceEqDiff, Nat.reduceAdd, Nat.reduceMul, reduceCtorEq, Nat.reduceLeDiff, Int.reduceLT, Int.reduceLE, Int.reduceToNat, Int.reduceEq, Nat.reduceLT, undef_eq]
 refine appK_of (ints_app wN (by omega)) ?_
 rintro vi θ2 ⟨ho2, hgi⟩
 have hH2 := hH.Old' ho2
 have hil := intsF_len (l := numsF L)
 have hip := intsF_pos (l := numsF L)
 obtain ⟨ba, bc, rfl⟩ := hgi.slice
 obtain ⟨bk, bo, rfl, _⟩ := hgi.whl.at hip
 have ri := str_whl hgi.whl
 have hz1 : ((bytesS L.d).size + (bytesS (intsF (numsF L))).size ≤ 9223372036854775807) = True := eq_true (by rw [bytesS_size', bytesS_size', hd]; omega)
 have wD := hH2.gw.whl
 rw [List.length_map, List.length_map] at wD
 have hDl : (L.E.map Ent.data).length = L.E.length := by simp
 simp only [↓eD, eZ, ↓reduceIte, Nat.reduceEqDiff, Nat.reduceAdd, Nat.reduceMul, reduceCtorEq, Nat.reduceLeDiff, Int.reduceLT, Int.reduceLE, Int.reduceToNat, Int.reduceEq, Nat.reduceLT, ri, Option.bind_some, bytesOf_dig, dig_str7, bin_sadd, hz1, bytesS_app, undef_eq]
 refine appK_of (rstrs_app (l := L.E.map Ent.data) (by rw [hDl]; exact wD) (by rw [hDl]; omega) (fun s hs => by obtain ⟨x, hx, rfl⟩ := List.mem_map.1 hs; exact hD x hx)) ?_
 rintro vs θ3 ⟨ho3, hgs⟩
 have hsp : 0 < (stringsF (L.E.map Ent.data)).length := by
  unfold stringsF
  rw [List.length_append]
  have := intF_one (n := ((L.E.map Ent.data).length : Int))
  omega
 have hsl : (stringsF (L.E.map Ent.data)).length ≤ 10 + 4096 * 1000010 := by
  unfold stringsF
  have e1 := flat_len_mem (f := bytesF) (l := L.E.map Ent.data) (i := L.E.length) (n := 1000010) (fun s hs => by
   obtain ⟨x, hx, rfl⟩ := List.mem_map.1 hs
   have := bytesF_len7 (s := x.data)
   have := hD x hx
   omega)
  rw [List.take_of_length_le (by simp)] at e1
  rw [List.length_append]
  have e2 : (intF ((L.E.map Ent.data).length : Int)).length ≤ 10 := intF_len
  have e3 : L.E.length * 1000010 ≤ 4096 * 1000010 := Nat.mul_le_mul_right _ hE
  omega
 obtain ⟨sa, scap, rfl⟩ := hgs.slice
 obtain ⟨sk, so, rfl, _⟩ := hgs.whl.at hsp
 have rs := str_whl hgs.whl
 have ri3 : rdN θ3 ⟨bk, bo, none⟩ (intsF (numsF L)).length = some (digC (intsF (numsF L))) := rdN_Old ho3 ri
 have hz2 : ((bytesS (L.d ++ intsF (numsF L))).size + (bytesS (stringsF (L.E.map Ent.data))).size ≤ 9223372036854775807) = True := eq_true (by rw [bytesS_size', bytesS_size', List.length_append, hd]; omega)
 have hz3 : ((bytesS (L.d ++ intsF (numsF L) ++ stringsF (L.E.map Ent.data))).size + (bytesS (L.S.flatMap seaB)).size ≤ 9223372036854775807) = True := eq_true (by rw [bytesS_size', bytesS_size', List.length_append, List.length_append, hd]; omega)
 have hEF : L.d ++ intsF (numsF L) ++ stringsF (L.E.map Ent.data) ++ L.S.flatMap seaB = encF L := rfl
 have hlen : (encF L).length < 10000000000 := by rw [← hEF, List.length_append, List.length_append, List.length_append, hd]; omega
 have hbig : ((bytesS (encF L)).size < big) = True := eq_true (by rw [bytesS_size']; exact Nat.lt_trans hlen (by decide))
 have hsz : (bytesS (encF L)).size = (encF L).length := bytesS_size'
 rw [hsz] at hbig
 have hbc : byteCells (bytesS (encF L)) = digC (encF L) := by rw [byteCells_eq, strI_bytesS (encF_byt hbd hbS)]
 rw [← ap_nil (σ := θ3)] at rs ri3
 rw [← ap_nil (σ := θ3)]
 simp only [↓eD, eZ, ↓reduceIte, Nat.reduceEqDiff, Nat.reduceAdd, Nat.reduceMul, reduceCtorEq, Nat.reduceLeDiff, Int.reduceLT, Int.reduceLE, Int.reduceToNat, Int.reduceEq, Nat.reduceLT, ri3, rs, Option.bind_some, bytesOf_dig, dig_str7, bin_sadd, hz2, hz3, bytesS_app, hEF, hbig, hbc, hsz, undef_eq]
 refine ⟨((oB.trans hH2.old).trans ho3).trans .ap, ?_⟩
 have hg : Grown θ3 (ap θ3 [.cells 0 (digC (encF L)) (0, 0)]) 1 (.slice (some ⟨θ3.size, 0, none⟩) (encF L).length (inex 1 (encF L).length)) (digC (encF L)) (encF L).length := by
  refine ⟨by rw [digC_length, Nat.mul_one], Nat.lt_trans hlen (by decide), .inr ⟨θ3.size, 0, _, Nat.le_refl _, .inl rfl, rfl, by rw [ap_new0]; rfl⟩⟩
 exact hg.whl
set_option maxHeartbeats 1000000
def entsOf : List Int → List ByteArray → List Ent
 |_, [] => []
 |x, s :: r => ⟨x.getD 0 0, x.getD 1 0, x.getD 2 0, x.getD 3 0, s⟩ :: entsOf (x.drop 4) r
def seasOf : List Int → List Int → List Sea
 |[], _ => []
 |e :: r, b => ⟨e, b.take 16, (b.drop 16).take 16⟩ :: seasOf r (b.drop 32)
theorem entsOf_len : ∀ {D : List ByteArray} {x : List Int}, (entsOf x D).length = D.length
 |[], _ => rfl
 |s :: r, x => by rw [entsOf, List.length_cons, entsOf_len]; rfl
theorem seasOf_len : ∀ {x b : List Int}, (seasOf x b).length = x.length
 |[], _ => rfl
 |s :: r, b => by rw [seasOf, List.length_cons, seasOf_len]; rfl
def formX (x : List Int) : Bool := decide (3 ≤ x.length ∧ 0 ≤ x.getD 1 0 ∧ x.getD 1 0 ≤ 4096 ∧ 0 ≤ x.getD 2 0 ∧ x.getD 2 0 ≤ 256 ∧ (x.length : Int) = 3 + 4 * x.getD 1 0 + x.getD 2 0)
def logOf (d x : List Int) (D : List ByteArray) (t : List Int) : Lg := ⟨d, x.getD 0 0, entsOf (x.drop 3) D, seasOf (x.drop (3 + 4 * D.length)) t⟩
def decF (b : List Int) : Lg × Int :=
 if b.length < 16 then (.zero, 11)
 else if (listF getF 1 (b.drop 16)).2.2 ≠ 0 ∨ formX (listF getF 1 (b.drop 16)).1 = false then (.zero, 11)
 else if (listF bytF 1 ((b.drop 16).drop (listF getF 1 (b.drop 16)).2.1)).2.2 ≠ 0 ∨ ((listF bytF 1 ((b.drop 16).drop (listF getF 1 (b.drop 16)).2.1)).1.length : Int) ≠ (listF getF 1 (b.drop 16)).1.getD 1 0 then (.zero, 11)
 else if ((b.drop 16).length : Int) ≠ (listF getF 1 (b.drop 16)).2.1 + (listF bytF 1 ((b.drop 16).drop (listF getF 1 (b.drop 16)).2.1)).2.1 + 32 * (listF getF 1 (b.drop 16)).1.getD 2 0 then (.zero, 11)
 else if checkF (logOf (b.take 16) (listF getF 1 (b.drop 16)).1 (listF bytF 1 ((b.drop 16).drop (listF getF 1 (b.drop 16)).2.1)).1 ((b.drop 16).drop ((listF getF 1 (b.drop 16)).2.1 + (listF bytF 1 ((b.drop 16).drop (listF getF 1 (b.drop 16)).2.1)).2.1))) ≠ 0 then (.zero, 11)
 else (logOf (b.take 16) (listF getF 1 (b.drop 16)).1 (listF bytF 1 ((b.drop 16).drop (listF getF 1 (b.drop 16)).2.1)).1 ((b.drop 16).drop ((listF getF 1 (b.drop 16)).2.1 + (listF bytF 1 ((b.drop 16).drop (listF getF 1 (b.drop 16)).2.1)).2.1)), 0)
theorem ents_nums : ∀ {E : List Ent} {r : List Int}, entsOf (E.flatMap numsE ++ r) (E.map Ent.data) = E
 |[], _ => rfl
 |e :: E, r => by
  rw [List.map_cons, entsOf, List.flatMap_cons]
  have : (numsE e ++ E.flatMap numsE ++ r) = e.kind :: e.cpu :: e.count :: e.n :: (E.flatMap numsE ++ r) := by simp [numsE]
  rw [this]
  simp only [List.getD_cons_zero, List.getD_cons_succ, List.drop_succ_cons, List.drop_zero]
  rw [ents_nums]
theorem seas_tail : ∀ {S : List Sea}, (∀ s ∈ S, s.ok) → seasOf (S.map Sea.end_) (S.flatMap seaB) = S
 |[], _ => rfl
 |s :: S, h => by
  obtain ⟨h1, h2⟩ := h s List.mem_cons_self
  rw [List.map_cons, seasOf, List.flatMap_cons]
  have e1 : (seaB s ++ S.flatMap seaB).take 16 = s.dig := by unfold seaB; rw [List.append_assoc, List.take_left' h1]
  have e2 : ((seaB s ++ S.flatMap seaB).drop 16).take 16 = s.seal_ := by unfold seaB; rw [List.append_assoc, List.drop_left' h1, List.take_left' h2]
  have e3 : (seaB s ++ S.flatMap seaB).drop 32 = S.flatMap seaB := List.drop_left' (by unfold seaB; rw [List.length_append, h1, h2])
  rw [e1, e2, e3, seas_tail fun s hs => h s (List.mem_cons_of_mem _ hs)]
theorem intsF_enc {l : List Int} : intsF l = encL intF l := rfl
theorem stringsF_enc {l : List ByteArray} : stringsF l = encL bytesF l := rfl
theorem dec_enc {L : Lg} (hg : checkF L = 0) (hd : L.d.length = 16) (hok : ∀ s ∈ L.S, s.ok) (hI : ∀ n ∈ numsF L, okI n) : decF (encF L) = (L, 0) := by
 have G := good_iff.1 hg
 have nE := G.nE
 have nS := G.nS
 have hnl : (numsF L).length = 3 + 4 * L.E.length + L.S.length := by
  unfold numsF; rw [List.length_append, List.length_append, numsE_len, List.length_map]; rfl
 have b16 : (encF L).take 16 = L.d := by unfold encF; rw [List.append_assoc, List.append_assoc, List.take_left' hd]
 have bd : (encF L).drop 16 = intsF (numsF L) ++ (stringsF (dataF L) ++ tailL L) := by unfold encF; rw [List.append_assoc, List.append_assoc, List.drop_left' hd]
 have h1 : listF getF 1 (intsF (numsF L) ++ (stringsF (dataF L) ++ tailL L)) = (numsF L, (intsF (numsF L)).length, 0) := by
  rw [intsF_enc]
  exact listF_write one_int (fun x => intF_one) (by omega) hI
 have h2 : listF bytF 1 (stringsF (dataF L) ++ tailL L) = (dataF L, (stringsF (dataF L)).length, 0) := by
  rw [stringsF_enc]
  refine listF_write (ok := fun s => s.size < 1000000000000000) one_str (fun x => bytesF_one) (by unfold dataF; rw [List.length_map]; omega) ?_
  intro s hs
  obtain ⟨e, he, rfl⟩ := List.mem_map.1 hs
  obtain ⟨i, hi, rfl⟩ := List.mem_iff_getElem.1 he
  have := rightF_size (G.r i hi).1
  omega
 have x0 : (numsF L).getD 0 0 = L.c := rfl
 have x1 : (numsF L).getD 1 0 = (L.E.length : Int) := rfl
 have x2 : (numsF L).getD 2 0 = (L.S.length : Int) := rfl
 have tl : (tailL L).length = 32 * L.S.length := by
  unfold tailL
  generalize L.S = S at hok
  induction S with
  |nil => rfl
  |cons s S ih =>
   obtain ⟨g1, g2⟩ := hok s List.mem_cons_self
   rw [List.flatMap_cons, List.length_append, ih fun s hs => hok s (List.mem_cons_of_mem _ hs)]
   unfold seaB
   rw [List.length_append, g1, g2, List.length_cons]
   omega
 have hfx : formX (numsF L) = true := by
  unfold formX
  rw [decide_eq_true_eq, x1, x2, hnl]
  omega
 have dd : (intsF (numsF L) ++ (stringsF (dataF L) ++ tailL L)).drop (intsF (numsF L)).length = stringsF (dataF L) ++ tailL L := List.drop_left
 have d3 : (numsF L).drop 3 = L.E.flatMap numsE ++ L.S.map Sea.end_ := rfl
 have hDl : (dataF L).length = L.E.length := by unfold dataF; rw [List.length_map]
 have d4 : (numsF L).drop (3 + 4 * (dataF L).length) = L.S.map Sea.end_ := by
  rw [← List.drop_drop, d3, hDl, List.drop_left' numsE_len]
 have dt : (intsF (numsF L) ++ (stringsF (dataF L) ++ tailL L)).drop ((intsF (numsF L)).length + (stringsF (dataF L)).length) = tailL L := by
  rw [← List.drop_drop, dd, List.drop_left]
 have hL : logOf L.d (numsF L) (dataF L) (tailL L) = L := by
  unfold logOf
  rw [x0, d3, d4]
  have e1 : entsOf (L.E.flatMap numsE ++ L.S.map Sea.end_) (dataF L) = L.E := ents_nums
  have e2 : seasOf (L.S.map Sea.end_) (tailL L) = L.S := seas_tail hok
  rw [e1, e2]
 unfold decF
 rw [if_neg (by unfold encF; rw [List.length_append, List.length_append, List.length_append, hd]; omega)]
 rw [bd, h1]
 dsimp only
 rw [if_neg (by rw [hfx]; simp), dd, h2]
 dsimp only
 rw [if_neg (by rw [x1, hDl]; simp), if_neg (by rw [x2, List.length_append, List.length_append, tl]; omega), dt, b16, hL, if_neg (fun h => h hg)]
theorem nums_ents : ∀ {D : List ByteArray} {x : List Int}, 4 * D.length ≤ x.length → (entsOf x D).flatMap numsE = x.take (4 * D.length) ∧ (entsOf x D).map Ent.data = D
 |[], _, _ => ⟨rfl, rfl⟩
 |s :: D, x, h => by
  rw [List.length_cons] at h
  match x, h with
  |a :: b :: c :: d :: r, h =>
   obtain ⟨h1, h2⟩ := nums_ents (D := D) (x := r) (by simp at h; omega)
   rw [entsOf]
   simp only [List.getD_cons_zero, List.getD_cons_succ, List.drop_succ_cons, List.drop_zero]
   refine ⟨?_, by rw [List.map_cons, h2]⟩
   rw [List.flatMap_cons, h1, List.length_cons, show 4 * (D.length + 1) = 4 * D.length + 1 + 1 + 1 + 1 by omega]
   simp [numsE]
  |[a, b, c], h => simp at h; omega
  |[a, b], h => simp at h; omega
  |[a], h => simp at h; omega
  |[], h => simp at h
theorem tail_seas : ∀ {x b : List Int}, b.length = 32 * x.length → (seasOf x b).flatMap seaB = b ∧ (seasOf x b).map Sea.end_ = x ∧ ∀ s ∈ seasOf x b, s.ok
 |[], b, h => by
  have : b = [] := by simpa using h
  subst this
  exact ⟨rfl, rfl, fun s hs => by simp [seasOf] at hs⟩
 |e :: x, b, h => by
  rw [List.length_cons] at h
  obtain ⟨h1, h2, h3⟩ := tail_seas (x := x) (b := b.drop 32) (by rw [List.length_drop]; omega)
  rw [seasOf]
  refine ⟨?_, by rw [List.map_cons, h2], fun s hs => ?_⟩
  ·rw [List.flatMap_cons, h1]
   unfold seaB
   have e1 : b.take 16 ++ (b.drop 16).take 16 = b.take 32 := by rw [← List.take_add]
   simp only [e1]
   exact List.take_append_drop 32 b
  ·rcases List.mem_cons.1 hs with rfl | hs
   ·exact ⟨by rw [List.length_take]; omega, by rw [List.length_take, List.length_drop]; omega⟩
   ·exact h3 s hs
theorem enc_dec {b : List Int} {L : Lg} (hb : Byt b) (h : decF b = (L, 0)) : encF L = b ∧ checkF L = 0 ∧ L.d.length = 16 ∧ (∀ s ∈ L.S, s.ok) ∧ (∀ n ∈ numsF L, okI n) ∧ (∀ e ∈ L.E, e.data.size ≤ b.length) ∧ Byt L.d ∧ (∀ s ∈ L.S, Byt s.dig ∧ Byt s.seal_) := by
 unfold decF at h
 split at h
 ·cases h
 rename_i h16
 split at h
 ·cases h
 rename_i hx
 split at h
 ·cases h
 rename_i hD
 split at h
 ·cases h
 rename_i hl
 split at h
 ·cases h
 rename_i hc
 have hb1 : Byt (b.drop 16) := byt_drop hb
 generalize hX : listF getF 1 (b.drop 16) = X at *
 obtain ⟨x, n, e⟩ := X
 dsimp only at *
 have hb2 : Byt ((b.drop 16).drop n) := byt_drop hb1
 generalize hY : listF bytF 1 ((b.drop 16).drop n) = Y at *
 obtain ⟨D, m, f⟩ := Y
 dsimp only at *
 have he : e = 0 := Decidable.byContradiction fun h => hx (.inl h)
 have hf : f = 0 := Decidable.byContradiction fun h => hD (.inl h)
 subst he hf
 have hfx : formX x = true := by
  cases hq : formX x
  ·exact absurd (.inr hq) hx
  ·rfl
 obtain ⟨f1, f2, f3, f4, f5, f6⟩ := of_decide_eq_true hfx
 have hDl : (D.length : Int) = x.getD 1 0 := Decidable.byContradiction fun h => hD (.inr h)
 have hl' : ((b.drop 16).length : Int) = n + m + 32 * x.getD 2 0 := Decidable.byContradiction hl
 have hc' : checkF (logOf (b.take 16) x D ((b.drop 16).drop (n + m))) = 0 := Decidable.byContradiction hc
 obtain ⟨i1, i2, i3⟩ := listF_read int_one hb1 hX
 obtain ⟨s1, _, s3⟩ := listF_read str_one hb2 hY
 injection h with h _
 have hxl : x.length = 3 + 4 * D.length + (x.getD 2 0).toNat := by omega
 obtain ⟨e1, e2⟩ := nums_ents (D := D) (x := x.drop 3) (by rw [List.length_drop]; omega)
 have hsl : ((b.drop 16).drop (n + m)).length = 32 * (x.drop (3 + 4 * D.length)).length := by
  simp only [List.length_drop] at hl' i3 s3 ⊢
  omega
 obtain ⟨t1, t2, t3⟩ := tail_seas hsl
 have hEl : (entsOf (x.drop 3) D).length = D.length := entsOf_len
 have hSl : (seasOf (x.drop (3 + 4 * D.length)) ((b.drop 16).drop (n + m))).length = (x.getD 2 0).toNat := by rw [seasOf_len, List.length_drop]; omega
 have hnum : numsF L = x := by
  rw [← h]
  unfold numsF logOf
  simp only [hEl, hSl, e1, t2]
  have q0 : [x.getD 0 0, (D.length : Int), (((x.getD 2 0).toNat : Nat) : Int)] = x.take 3 := by
   rw [hDl, show (((x.getD 2 0).toNat : Nat) : Int) = x.getD 2 0 by omega]
   match x, f1 with
   |a :: b :: c :: r, _ => rfl
  rw [q0]
  have q1 : x.take 3 ++ (x.drop 3).take (4 * D.length) = x.take (3 + 4 * D.length) := by rw [← List.take_add]
  rw [q1, List.take_append_drop]
 have hdat : dataF L = D := by rw [← h]; exact e2
 have htl : tailL L = (b.drop 16).drop (n + m) := by rw [← h]; exact t1
 have hdL : L.d = b.take 16 := by rw [← h]; rfl
 refine ⟨?_, h ▸ hc', by rw [hdL, List.length_take]; omega, by rw [← h]; exact t3, by rw [hnum]; exact i2, ?_, by rw [hdL]; exact fun y hy => hb y (List.mem_of_mem_take hy), ?_⟩
 ·unfold encF
  rw [hdL, hnum, hdat, htl, intsF_enc, stringsF_enc, ← i1, ← s1, List.append_assoc, List.append_assoc]
  have q2 : ((b.drop 16).drop n).take m ++ (b.drop 16).drop (n + m) = (b.drop 16).drop n := by rw [← List.drop_drop]; exact List.take_append_drop m _
  rw [q2, List.take_append_drop, List.take_append_drop]
 ·intro e he
  have hin : e.data ∈ D := by rw [← hdat]; exact List.mem_map_of_mem he
  have hle : e.data.size ≤ (bytesF e.data).length := by unfold bytesF; rw [List.length_append, strI_len]; omega
  have hle2 : (bytesF e.data).length ≤ (D.flatMap bytesF).length := by
   obtain ⟨i, hi, hi2⟩ := List.mem_iff_getElem.1 hin
   have : D = D.take i ++ D[i] :: D.drop (i + 1) := by rw [← List.drop_eq_getElem_cons hi, List.take_append_drop]
   rw [this, List.flatMap_append, List.flatMap_cons, List.length_append, List.length_append, hi2]
   omega
  have hle3 : (D.flatMap bytesF).length ≤ m := by
   have := congrArg List.length s1
   unfold encL at this
   rw [List.length_append, List.length_take] at this
   omega
  rw [List.length_drop, List.length_drop] at s3
  omega
 ·intro s hs
  have hbt : Byt (tailL L) := by rw [htl]; exact byt_drop hb1
  have hin : ∀ y, y ∈ seaB s → y ∈ tailL L := fun y hy => List.mem_flatMap.2 ⟨s, hs, hy⟩
  exact ⟨fun y hy => hbt y (hin y (List.mem_append_left _ hy)), fun y hy => hbt y (hin y (List.mem_append_right _ hy))⟩
set_option maxHeartbeats 8000000
theorem rdigest_app {σ : H} {sl : Value} {b : List Int} (hw : Whl σ 1 sl b.length (digC b)) (h16 : 16 ≤ b.length) :
  App Tryd.prog (.func 62) #[] #[sl] σ fun v σ' => σ' = σ ∧ v = .agg (digC (b.take 16)).toArray := by
 refine App.forget (App.of_sem mixed Tryd.func62 t62 k62 r62 (Nat.le_of_ble_eq_true rfl) ?_)
 obtain ⟨a, c, rfl⟩ := hw.slice
 obtain ⟨Q, hQ⟩ : ∃ Q, Q = b.take 16 := ⟨_, rfl⟩
 have lQ : Q.length = 16 := by rw [hQ, List.length_take]; omega
 have z16 : (List.replicate 16 (0 : Int)).length = 16 := rfl
 have v16 := digC_sets (z := List.replicate 16 0) (l := List.replicate 16 0) rfl
 have n16 := digC_ne' (l := List.replicate 16 0) z16 (by omega)
 have x16 := digC_take (l := List.replicate 16 0) z16
 obtain ⟨k, o, rfl, _⟩ := whl_byte hw (i := 0) (by omega)
 rw [← ap_nil (σ := σ), ← hQ]
 unfold s62
 simp only [↓eD, eZ, ↓reduceIte, Nat.reduceEqDiff, Nat.reduceAdd, Nat.reduceMul, reduceCtorEq, Nat.reduceLeDiff, Int.reduceLT, Int.reduceLE, Int.reduceToNat, Int.reduceEq, Nat.reduceLT, digC_rep, digC_length, digC_one, List.length_replicate, z16, v16, n16, x16, undef_eq]
 refine loop_for (J := fun j e η => j ≤ 16 ∧ ∃ ver, e = [(0, .slice (some ⟨k, o, none⟩) b.length c), (2, .pointer (some ⟨σ.size, 0, none⟩)), (3, .pointer (some ⟨σ.size + 1, 0, none⟩)), (4, .int .i64 (j : Int))] ∧ η = ap σ [.cells 0 (digC (List.replicate 16 0)) (0, 0), .cells ver (digC (Q.take j ++ List.replicate (16 - j) 0)) (0, 0)]) 16 ⟨by omega, 1, rfl, rfl⟩ ?_
 rintro j e η hj ⟨_, ver, rfl, rfl⟩
 by_cases h16 : j < 16
 ·have c1 : decide ((j : Int) < 16) = true := by rw [decide_eq_true]; omega
  have hbd : (0:Int) ≤ (j:Int) ∧ (j:Int) < ((16 : Nat) : Int) := by omega
  have hbb : (0:Int) ≤ (j:Int) ∧ (j:Int) < (b.length : Int) := by omega
  have hw' : IntKind.wrap .i64 ((j:Int) + 1) = ((j + 1 : Nat) : Int) := by rw [wrap64' (by omega) (by omega)]; omega
  have hq : j < Q.length := by omega
  obtain ⟨k', o', hko, hr⟩ := whl_byte hw (i := j) (by omega)
  injection hko with hko
  injection hko with hk1 hk2
  subst hk1 hk2
  have hbQ : b[j] = Q[j] := by simp only [hQ, List.getElem_take]
  rw [hbQ] at hr
  have hr' : ∀ M, rd1 (ap σ M) ⟨k, o + j, none⟩ = some (.int .u8 Q[j]) := fun M => rd1_old hr
  have hnx : (digC (Q.take j ++ List.replicate (16 - j) 0)).set j (.int .u8 Q[j]) = digC (Q.take (j + 1) ++ List.replicate (16 - (j + 1)) 0) := by
   have h16' : 16 - j = (16 - (j + 1)) + 1 := by omega
   rw [h16', List.replicate_succ, List.take_succ_eq_append_getElem hq]
   have lt : (Q.take j).length = j := by rw [List.length_take]; omega
   unfold digC
   rw [List.map_append, List.set_append, if_neg (by rw [List.length_map, lt]; omega), List.length_map, lt, Nat.sub_self, List.map_cons, List.set_cons_zero, List.map_append, List.map_append, List.append_assoc]
   rfl
  have lcs : (digC (Q.take j ++ List.replicate (16 - j) 0)).length = 16 := by rw [digC_length, List.length_append, List.length_take, List.length_replicate]; omega
  have hwr : wrN (ap σ [.cells 0 (digC (List.replicate 16 0)) (0, 0), .cells ver (digC (Q.take j ++ List.replicate (16 - j) 0)) (0, 0)]) ⟨σ.size + 1, j, none⟩ [.int .u8 Q[j]] = some (ap σ [.cells 0 (digC (List.replicate 16 0)) (0, 0), .cells (ver + 1) (digC (Q.take (j + 1) ++ List.replicate (16 - (j + 1)) 0)) (0, 0)]) := by
   rw [wrN_ap, if_neg (by simp)]
   show (wrc (some (.cells ver _ (0, 0))) j _).map _ = _
   rw [wrc_cells, if_pos ⟨by rw [lcs]; show j + 1 ≤ 16; omega, rfl⟩]
   show some (ap σ [_, .cells (ver + 1) ((digC (Q.take j ++ List.replicate (16 - j) 0)).set j (.int .u8 Q[j])) (0, 0)]) = _
   rw [hnx]
  simp only [↓eD, eZ, ↓reduceIte, Nat.reduceEqDiff, Nat.reduceAdd, Nat.reduceMul, reduceCtorEq, Nat.reduceLeDiff, Int.reduceLT, Int.reduceLE, Int.reduceToNat, Int.reduceEq, Nat.reduceLT, c1, hbd, hbb, Int.toNat_natCast, Nat.mul_one, Nat.zero_add, hr', hwr, hw', undef_eq]
  exact ⟨h16, by omega, ver + 1, rfl⟩
 have : j = 16 := by omega
 subst this
 have c1 : decide (((16 : Nat) : Int) < 16) = false := rfl
 have hQ16 : Q.take 16 ++ List.replicate (16 - 16) 0 = Q := by rw [List.take_of_length_le (by omega)]; simp
 rw [hQ16]
 have tQ := digC_take (l := Q) lQ
 have uQ := digC_sets (z := List.replicate 16 0) (l := Q) (by simp [lQ])
 have mQ := digC_ne' (l := Q) lQ (by omega)
 simp only [↓eD, eZ, ↓reduceIte, Nat.reduceEqDiff, Nat.reduceAdd, Nat.reduceMul, reduceCtorEq, Nat.reduceLeDiff, Int.reduceLT, Int.reduceLE, Int.reduceToNat, Int.reduceEq, Nat.reduceLT, c1, digC_length, lQ, tQ, uQ, mQ, digC_one, List.length_replicate, undef_eq]
 exact ⟨.ap, flat_dig⟩
end Go.Proofs.YtopnlllipkockaaDoor
