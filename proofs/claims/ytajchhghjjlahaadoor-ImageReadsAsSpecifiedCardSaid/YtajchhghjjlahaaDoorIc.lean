/- Walks of the functions that the claim reaches. Conditions: none. -/
import Derived.Test.YtajchhghjjlahaaDoorIb
set_option linter.all false
set_option maxRecDepth 10000
set_option maxHeartbeats 8000000
namespace Go.Proofs.YtajchhghjjlahaaDoor
open Go Go.Cn Go.RowKit
attribute [local irreducible] evL sem onG onI onV
def trimL (d : List Int) : List Int := d.dropWhile fun x => decide (x = 0)
def trimR (d : List Int) : List Int := (d.reverse.dropWhile fun x => decide (x = 0)).reverse
theorem trimR_zero {d : List Int} {k : Nat} (h : k < d.length) (hz : d[k] = 0) : trimR (d.take (k + 1)) = trimR (d.take k) := by
 unfold trimR
 rw [List.take_succ_eq_append_getElem h, List.reverse_append]
 simp [hz]
theorem trimR_stop {d : List Int} {k : Nat} (h : k < d.length) (hz : d[k] ≠ 0) : trimR (d.take (k + 1)) = d.take (k + 1) := by
 unfold trimR
 rw [List.take_succ_eq_append_getElem h, List.reverse_append]
 simp [hz]
theorem str_at {s : ByteArray} {i : Nat} (h : i < s.size) : (s[i]?).map (fun b => Value.int .u8 (b.toNat : Int)) = some (.int .u8 ((strI s).getD i 0)) := by
 have h1 : s[i]? = some s[i] := getElem?_pos s i h
 rw [h1]
 have h2 : (strI s).getD i 0 = ((s[i]).toNat : Int) := by
  have hl : i < (strI s).length := by rw [strI_len]; exact h
  rw [← List.getElem_eq_getD (l := strI s) (i := i) 0 (h := hl)]
  simp [strI]
  rfl
 rw [h2]
 rfl
theorem str_take {s : ByteArray} {k : Nat} (h : k ≤ s.size) : strI (s.extract 0 k) = (strI s).take k := by
 rw [strI_extract h]; simp
theorem str_drop {s : ByteArray} {k : Nat} : strI (s.extract k s.size) = (strI s).drop k := by
 rw [strI_extract (Nat.le_refl _), List.take_of_length_le (by simp [strI_len])]
theorem trimRb_app {σ : H} {s : ByteArray} (hs : s.size < 1000000000000) : App Tryd.prog (.func 84) #[] #[.string s, .int .u8 0] σ fun v σ' => σ' = σ ∧ v = .string (bytesS (trimR (strI s))) := by
 refine App.of_sem mixed Tryd.func84 t84 k84 r84 (Nat.le_of_ble_eq_true rfl) ?_
 unfold s84
 simp only [↓eD, eZ, ↓reduceIte, Nat.reduceEqDiff, Nat.reduceAdd, Nat.reduceMul, reduceCtorEq, Nat.reduceLeDiff, Int.reduceLT, Int.reduceLE, Int.reduceToNat, Int.reduceEq, Nat.reduceLT, undef_eq]
 refine loop_for (J := fun i e τ => ∃ t : ByteArray, i + t.size = s.size ∧ strI t = (strI s).take t.size ∧ trimR (strI t) = trimR (strI s) ∧ e = [(0, .string t), (1, .int .u8 0)] ∧ τ = σ) s.size ⟨s, by omega, by rw [← strI_len, List.take_length], rfl, rfl, rfl⟩ ?_
 rintro i e τ hi ⟨t, ht, htk, htr, rfl, rfl⟩
 have hsl := strI_len (s := s)
 have htl := strI_len (s := t)
 by_cases h0 : t.size = 0
 ·have d0 : decide ((0 : Int) < (t.size : Int)) = false := by rw [decide_eq_false]; omega
  have e0 : strI t = [] := List.length_eq_zero_iff.1 (by omega)
  have e1 : bytesS (trimR (strI s)) = t := by rw [← htr, e0, ← bytesS_strI (s := t), e0]; rfl
  simp only [↓eD, eZ, ↓reduceIte, Nat.reduceEqDiff, Nat.reduceAdd, Nat.reduceMul, reduceCtorEq, Nat.reduceLeDiff, Int.reduceLT, Int.reduceLE, Int.reduceToNat, Int.reduceEq, Nat.reduceLT, d0, e1, undef_eq]
  first | rfl | exact ⟨rfl, rfl⟩ | skip
 have d0 : decide ((0 : Int) < (t.size : Int)) = true := by rw [decide_eq_true]; omega
 obtain ⟨k, hk⟩ : ∃ k, t.size = k + 1 := ⟨t.size - 1, by omega⟩
 have ws : IntKind.wrap .i64 (((k + 1 : Nat) : Int) - 1) = (k : Int) := by rw [wrap64' (by omega) (by omega)]; omega
 have hk0 : (0 ≤ (k : Int)) = True := eq_true (by omega)
 have hg := str_at (s := t) (i := k) (by omega)
 have hkl : k < (strI s).length := by omega
 have hval : (strI t).getD k 0 = (strI s)[k] := by
  rw [← List.getElem_eq_getD (l := strI t) (i := k) 0 (h := by omega)]
  simp only [htk, List.getElem_take]
 rw [hval] at hg
 rw [hk] at d0
 by_cases hz : (strI s)[k] = 0
 ·have dz : decide ((strI s)[k] = 0) = true := decide_eq_true hz
  have ss : Cn.sliceStr (.string t) none (some (.int .i64 (k : Int))) = some (.string (t.extract 0 k)) := by
   have h1 : bnd (some (.int .i64 (k : Int))) t.size t.size = some k := by simp only [bnd, asI]; rw [if_pos (by omega)]; simp
   have h2 : bnd none 0 k = some 0 := rfl
   simp only [Cn.sliceStr, h1, h2]
  simp only [↓eD, eZ, ↓reduceIte, Nat.reduceEqDiff, Nat.reduceAdd, Nat.reduceMul, reduceCtorEq, Nat.reduceLeDiff, Int.reduceLT, Int.reduceLE, Int.reduceToNat, Int.reduceEq, Nat.reduceLT, hk, d0, ws, hk0, Int.toNat_natCast, hg, dz, ss, undef_eq]
  have hes : (t.extract 0 k).size = k := by rw [ByteArray.size_extract]; omega
  refine ⟨by omega, t.extract 0 k, by rw [hes]; omega, ?_, ?_, rfl⟩
  ·rw [hes, str_take (by omega), htk, List.take_take, Nat.min_eq_left (by omega)]
  ·rw [str_take (by omega), htk, hk, List.take_take, Nat.min_eq_left (by omega), ← trimR_zero hkl hz, ← hk, ← htk, htr]
 ·have dz : decide ((strI s)[k] = 0) = false := decide_eq_false hz
  have e1 : bytesS (trimR (strI s)) = t := by rw [← htr, htk, hk, trimR_stop hkl hz, ← hk, ← htk, bytesS_strI]
  simp only [↓eD, eZ, ↓reduceIte, Nat.reduceEqDiff, Nat.reduceAdd, Nat.reduceMul, reduceCtorEq, Nat.reduceLeDiff, Int.reduceLT, Int.reduceLE, Int.reduceToNat, Int.reduceEq, Nat.reduceLT, hk, d0, ws, hk0, Int.toNat_natCast, hg, dz, e1, undef_eq]
  first | rfl | exact ⟨rfl, rfl⟩ | skip
theorem trimLb_app {σ : H} {s : ByteArray} (hs : s.size < 1000000000000) : App Tryd.prog (.func 88) #[] #[.string s, .int .u8 0] σ fun v σ' => σ' = σ ∧ v = .string (bytesS (trimL (strI s))) := by
 refine App.of_sem mixed Tryd.func88 t88 k88 r88 (Nat.le_of_ble_eq_true rfl) ?_
 unfold s88
 simp only [↓eD, eZ, ↓reduceIte, Nat.reduceEqDiff, Nat.reduceAdd, Nat.reduceMul, reduceCtorEq, Nat.reduceLeDiff, Int.reduceLT, Int.reduceLE, Int.reduceToNat, Int.reduceEq, Nat.reduceLT, undef_eq]
 refine loop_for (J := fun i e τ => ∃ t : ByteArray, i + t.size = s.size ∧ trimL (strI t) = trimL (strI s) ∧ e = [(0, .string t), (1, .int .u8 0)] ∧ τ = σ) s.size ⟨s, by omega, rfl, rfl, rfl⟩ ?_
 rintro i e τ hi ⟨t, ht, htr, rfl, rfl⟩
 have htl := strI_len (s := t)
 by_cases h0 : t.size = 0
 ·have d0 : decide ((0 : Int) < (t.size : Int)) = false := by rw [decide_eq_false]; omega
  have e0 : strI t = [] := List.length_eq_zero_iff.1 (by omega)
  have e1 : bytesS (trimL (strI s)) = t := by rw [← htr, e0, ← bytesS_strI (s := t), e0]; rfl
  simp only [↓eD, eZ, ↓reduceIte, Nat.reduceEqDiff, Nat.reduceAdd, Nat.reduceMul, reduceCtorEq, Nat.reduceLeDiff, Int.reduceLT, Int.reduceLE, Int.reduceToNat, Int.reduceEq, Nat.reduceLT, d0, e1, undef_eq]
  first | rfl | exact ⟨rfl, rfl⟩ | skip
 have d0 : decide ((0 : Int) < (t.size : Int)) = true := by rw [decide_eq_true]; omega
 have hg := str_at (s := t) (i := 0) (by omega)
 have tn0 : Int.toNat 0 = 0 := rfl
 obtain ⟨x, r, hxr⟩ : ∃ x r, strI t = x :: r := by
  match hq : strI t with
  |[] => rw [hq] at htl; simp at htl; omega
  |x :: r => exact ⟨x, r, rfl⟩
 rw [hxr, List.getD_cons_zero] at hg
 by_cases hz : x = 0
 ·have dz : decide (x = 0) = true := decide_eq_true hz
  have ss : Cn.sliceStr (.string t) (some (.int .i64 1)) none = some (.string (t.extract 1 t.size)) := by
   have h1 : bnd none t.size t.size = some t.size := rfl
   have h2 : bnd (some (.int .i64 1)) 0 t.size = some 1 := by simp only [bnd, asI]; rw [if_pos (by omega)]; rfl
   simp only [Cn.sliceStr, h1, h2]
  simp only [↓eD, eZ, ↓reduceIte, Nat.reduceEqDiff, Nat.reduceAdd, Nat.reduceMul, reduceCtorEq, Nat.reduceLeDiff, Int.reduceLT, Int.reduceLE, Int.reduceToNat, Int.reduceEq, Nat.reduceLT, d0, tn0, hg, dz, ss, undef_eq]
  have hes : (t.extract 1 t.size).size = t.size - 1 := by rw [ByteArray.size_extract]; omega
  refine ⟨by omega, t.extract 1 t.size, by rw [hes]; omega, ?_, rfl⟩
  rw [str_drop, ← htr, hxr]
  unfold trimL
  simp [hz]
 ·have dz : decide (x = 0) = false := decide_eq_false hz
  have e1 : bytesS (trimL (strI s)) = t := by
   rw [← htr]
   have : trimL (strI t) = strI t := by rw [hxr]; unfold trimL; simp [hz]
   rw [this, bytesS_strI]
  simp only [↓eD, eZ, ↓reduceIte, Nat.reduceEqDiff, Nat.reduceAdd, Nat.reduceMul, reduceCtorEq, Nat.reduceLeDiff, Int.reduceLT, Int.reduceLE, Int.reduceToNat, Int.reduceEq, Nat.reduceLT, d0, tn0, hg, dz, e1, undef_eq]
  first | rfl | exact ⟨rfl, rfl⟩ | skip
theorem trimR_app {σ : H} {s : ByteArray} (hs : s.size < 1000000000000) : App Tryd.prog (.func 72) #[] #[.string s, .string ⟨#[0]⟩] σ fun v σ' => σ' = σ ∧ v = .string (bytesS (trimR (strI s))) := by
 refine App.of_sem mixed Tryd.func72 t72 k72 r72 (Nat.le_of_ble_eq_true rfl) ?_
 unfold s72
 have he := str_empty (s := s)
 by_cases h0 : s.size = 0
 ·have d0 : decide (s.size = 0) = true := decide_eq_true h0
  have e0 : strI s = [] := List.length_eq_zero_iff.1 (by rw [strI_len]; exact h0)
  have e1 : bytesS (trimR (strI s)) = s := by rw [e0, ← bytesS_strI (s := s), e0]; rfl
  simp only [↓eD, eZ, ↓reduceIte, Nat.reduceEqDiff, Nat.reduceAdd, Nat.reduceMul, reduceCtorEq, Nat.reduceLeDiff, Int.reduceLT, Int.reduceLE, Int.reduceToNat, Int.reduceEq, Nat.reduceLT, he, d0, e1, undef_eq]
  first | rfl | exact ⟨rfl, rfl⟩ | skip
 have d0 : decide (s.size = 0) = false := decide_eq_false h0
 have c0 : decide ((⟨#[0]⟩ : ByteArray).size = 0) = false := rfl
 have c1 : ((⟨#[0]⟩ : ByteArray).size : Int) = 1 := rfl
 have c1' : (⟨#[0]⟩ : ByteArray).size = 1 := rfl
 have c1'' : ((1 : Nat) : Int) = 1 := rfl
 have d1 : decide ((1 : Int) = 1) = true := rfl
 have z0 : (0 ≤ (0 : Int)) = True := by simp
 have tn0 : Int.toNat 0 = 0 := rfl
 have c2 : ((⟨#[0]⟩ : ByteArray)[0]?).map (fun b => Value.int .u8 (b.toNat : Int)) = some (.int .u8 0) := rfl
 have c3 : decide ((0 : Int) < 128) = true := rfl
 simp only [↓eD, eZ, ↓reduceIte, Nat.reduceEqDiff, Nat.reduceAdd, Nat.reduceMul, reduceCtorEq, Nat.reduceLeDiff, Int.reduceLT, Int.reduceLE, Int.reduceToNat, Int.reduceEq, Nat.reduceLT, he, str_empty, d0, c0, c1', c1'', d1, z0, tn0, c2, c3, undef_eq]
 refine appK_at (trimRb_app hs) ?_
 simp only [↓eD, eZ, ↓reduceIte, Nat.reduceEqDiff, Nat.reduceAdd, Nat.reduceMul, reduceCtorEq, Nat.reduceLeDiff, Int.reduceLT, Int.reduceLE, Int.reduceToNat, Int.reduceEq, Nat.reduceLT, undef_eq]
 first | rfl | exact ⟨rfl, rfl⟩ | skip
theorem trimL_app {σ : H} {s : ByteArray} (hs : s.size < 1000000000000) : App Tryd.prog (.func 73) #[] #[.string s, .string ⟨#[0]⟩] σ fun v σ' => σ' = σ ∧ v = .string (bytesS (trimL (strI s))) := by
 refine App.of_sem mixed Tryd.func73 t73 k73 r73 (Nat.le_of_ble_eq_true rfl) ?_
 unfold s73
 have he := str_empty (s := s)
 by_cases h0 : s.size = 0
 ·have d0 : decide (s.size = 0) = true := decide_eq_true h0
  have e0 : strI s = [] := List.length_eq_zero_iff.1 (by rw [strI_len]; exact h0)
  have e1 : bytesS (trimL (strI s)) = s := by rw [e0, ← bytesS_strI (s := s), e0]; rfl
  simp only [↓eD, eZ, ↓reduceIte, Nat.reduceEqDiff, Nat.reduceAdd, Nat.reduceMul, reduceCtorEq, Nat.reduceLeDiff, Int.reduceLT, Int.reduceLE, Int.reduceToNat, Int.reduceEq, Nat.reduceLT, he, d0, e1, undef_eq]
  first | rfl | exact ⟨rfl, rfl⟩ | skip
 have d0 : decide (s.size = 0) = false := decide_eq_false h0
 have c0 : decide ((⟨#[0]⟩ : ByteArray).size = 0) = false := rfl
 have c1 : ((⟨#[0]⟩ : ByteArray).size : Int) = 1 := rfl
 have c1' : (⟨#[0]⟩ : ByteArray).size = 1 := rfl
 have c1'' : ((1 : Nat) : Int) = 1 := rfl
 have d1 : decide ((1 : Int) = 1) = true := rfl
 have z0 : (0 ≤ (0 : Int)) = True := by simp
 have tn0 : Int.toNat 0 = 0 := rfl
 have c2 : ((⟨#[0]⟩ : ByteArray)[0]?).map (fun b => Value.int .u8 (b.toNat : Int)) = some (.int .u8 0) := rfl
 have c3 : decide ((0 : Int) < 128) = true := rfl
 simp only [↓eD, eZ, ↓reduceIte, Nat.reduceEqDiff, Nat.reduceAdd, Nat.reduceMul, reduceCtorEq, Nat.reduceLeDiff, Int.reduceLT, Int.reduceLE, Int.reduceToNat, Int.reduceEq, Nat.reduceLT, he, str_empty, d0, c0, c1', c1'', d1, z0, tn0, c2, c3, undef_eq]
 refine appK_at (trimLb_app hs) ?_
 simp only [↓eD, eZ, ↓reduceIte, Nat.reduceEqDiff, Nat.reduceAdd, Nat.reduceMul, reduceCtorEq, Nat.reduceLeDiff, Int.reduceLT, Int.reduceLE, Int.reduceToNat, Int.reduceEq, Nat.reduceLT, undef_eq]
 first | rfl | exact ⟨rfl, rfl⟩ | skip
def pageB (B : List Int) (k : Nat) : List Int := (B.drop (128 * k)).take 128
def segK (B : List Int) (k : Nat) : List Seg := if trimL (trimR (pageB B k)) = [] then [] else [⟨((128 * k + (trimR (pageB B k)).length : Nat) : Int) - ((trimL (trimR (pageB B k))).length : Int), bytesS (trimL (trimR (pageB B k)))⟩]
def memSegs (B : List Int) (n : Nat) : List Seg := (List.range n).flatMap (segK B)
theorem memSegs_succ {B : List Int} {n : Nat} : memSegs B (n + 1) = memSegs B n ++ segK B n := by unfold memSegs; rw [List.range_succ, List.flatMap_append]; simp
theorem pageB_len {B : List Int} {n k : Nat} (h : B.length = 128 * n) (hk : k < n) : (pageB B k).length = 128 := by unfold pageB; rw [List.length_take, List.length_drop]; omega
theorem pageB_byt {B : List Int} {k : Nat} (h : Byt B) : Byt (pageB B k) := fun x hx => h x (List.mem_of_mem_drop (List.mem_of_mem_take hx))
theorem trimL_len {d : List Int} : (trimL d).length ≤ d.length := (List.dropWhile_sublist _).length_le
theorem trimR_len {d : List Int} : (trimR d).length ≤ d.length := by unfold trimR; rw [List.length_reverse]; have := (List.dropWhile_sublist (l := d.reverse) fun x => decide (x = 0)).length_le; rwa [List.length_reverse] at this
theorem trimR_byt {d : List Int} (h : Byt d) : Byt (trimR d) := fun x hx => h x (by
 unfold trimR at hx
 rw [List.mem_reverse] at hx
 exact List.mem_reverse.1 ((List.dropWhile_sublist _).subset hx))
theorem MemV.page {σ : H} {bk bo n c : Nat} {B : List Int} (h : MemV σ (.slice (some ⟨bk, bo, none⟩) n c) n B) {k : Nat} (hk : k < n) : rdN σ ⟨bk, bo + k * 128, none⟩ 128 = some (digC (pageB B k)) := by
 obtain ⟨_, _, hh, hr⟩ := h.w.at (by omega)
 injection hh with hh
 injection hh with q1 q2
 subst q1 q2
 have := rdN_sub hr (a := k * 128) (m := 128) (by omega)
 rw [this]
 unfold digC pageB
 rw [Nat.mul_comm k, List.map_take, List.map_drop]
theorem parts1_app {σ : H} {y : Fn} {q n : Nat} {v : Value} {B : List Int} (hn : n ≤ 64) (I : Nat → H → Prop) (h0 : I 0 σ)
  (hst : ∀ i τ τ', I i τ → Old τ τ' → I i τ')
  (hqb : rd1 σ ⟨q, 0, none⟩ = some v)
  (hq : ∀ i τ, I i τ → σ.size ≤ τ.size → MemV τ v n B)
  (hs : ∀ i τ, i < n → segK B i = [] → I i τ → I (i + 1) τ)
  (hy : ∀ i s, i < n → segK B i = [s] → ∀ τ, σ.size ≤ τ.size → I i τ → App Tryd.prog y #[] #[.agg (segV s).toArray] τ fun w τ' => w = .bool true ∧ σ.size ≤ τ'.size ∧ I (i + 1) τ') :
  App Tryd.prog (.func 71) #[.pointer (some ⟨q, 0, none⟩)] #[.func y #[] #[]] σ fun _ τ => I n τ := by
 refine App.of_sem mixed Tryd.func71 t71 k71 r71 (Nat.le_of_ble_eq_true rfl) ?_
 unfold s71
 have hM0 := hq 0 σ h0 (Nat.le_refl _)
 obtain ⟨a, c, rfl⟩ := hM0.w.slice
 simp only [↓eD, eZ, ↓reduceIte, Nat.reduceEqDiff, Nat.reduceAdd, Nat.reduceMul, reduceCtorEq, Nat.reduceLeDiff, Int.reduceLT, Int.reduceLE, Int.reduceToNat, Int.reduceEq, Nat.reduceLT, hqb, undef_eq]
 refine loop_for (J := fun i e τ => i ≤ n ∧ e = [(0, .func y #[] #[]), (8, .slice a n c), (9, .int .i64 (n : Int)), (10, .int .i64 (i : Int))] ∧ σ.size ≤ τ.size ∧ I i τ) n ⟨by omega, rfl, Nat.le_refl _, h0⟩ ?_
 rintro i e τ hi ⟨_, rfl, hsz, hI⟩
 by_cases hlt : i < n
 case neg =>
  have : i = n := by omega
  subst this
  have dl : decide ((i : Int) < (i : Int)) = false := by rw [decide_eq_false]; omega
  simp only [↓eD, eZ, ↓reduceIte, Nat.reduceEqDiff, Nat.reduceAdd, Nat.reduceMul, reduceCtorEq, Nat.reduceLeDiff, Int.reduceLT, Int.reduceLE, Int.reduceToNat, Int.reduceEq, Nat.reduceLT, dl, undef_eq]
  exact hI
 have dl : decide ((i : Int) < (n : Int)) = true := by rw [decide_eq_true]; omega
 have hbd : (0:Int) ≤ (i:Int) ∧ (i:Int) < (n : Int) := by omega
 have hw1 : IntKind.wrap .i64 ((i:Int) + 1) = ((i + 1 : Nat) : Int) := by rw [wrap64' (by omega) (by omega)]; omega
 have hM := hq i τ hI hsz
 obtain ⟨bk, bo, rfl, _⟩ := hM.w.at (by omega)
 have hpl := pageB_len hM.l hlt
 have hpb := pageB_byt (k := i) hM.b
 have hpg := hM.page hlt
 have hseg : segK B i = if trimL (trimR (pageB B i)) = [] then [] else [⟨((128 * i + (trimR (pageB B i)).length : Nat) : Int) - ((trimL (trimR (pageB B i))).length : Int), bytesS (trimL (trimR (pageB B i)))⟩] := rfl
 generalize pageB B i = d at hpl hpb hpg hseg
 have hr : ∀ M, rdN (ap τ M) ⟨bk, bo + i * 128, none⟩ 128 = some (digC d) := fun M => rdN_old hpg
 have ld : (digC d).length = 128 := by rw [digC_length, hpl]
 have sz : ∀ z : List Value, z.length = 128 → sets z 0 (digC d) = digC d := fun z hz => by rw [sets_all (by omega), ld]; simp [hz]
 have l128 : (List.replicate 128 (Value.int .u8 0)).length = 128 := List.length_replicate
 have td : (digC d).take 128 = digC d := List.take_of_length_le (by omega)
 have nd : (digC d = []) = False := eq_false fun h9 => by rw [h9] at ld; cases ld
 have sa : sliceArr 128 1 (.pointer (some ⟨τ.size, 0, none⟩)) none none none = some (.slice (some ⟨τ.size, 0, none⟩) 128 128) := rfl
 rw [← ap_nil (σ := τ)]
 simp only [↓eD, eZ, ↓reduceIte, Nat.reduceEqDiff, Nat.reduceAdd, Nat.reduceMul, reduceCtorEq, Nat.reduceLeDiff, Int.reduceLT, Int.reduceLE, Int.reduceToNat, Int.reduceEq, Nat.reduceLT, dl, hbd, Int.toNat_natCast, hr, ld, sz, l128, td, nd, digC_one, sa, Option.bind_some, bytesOf_dig, dig_str7, undef_eq]
 have hsd : (bytesS d).size = 128 := by rw [bytesS_size', hpl]
 refine appK_at (trimR_app (by omega)) ?_
 rw [strI_bytesS hpb]
 obtain ⟨e, he⟩ : ∃ e, e = trimR d := ⟨_, rfl⟩
 rw [← he] at hseg ⊢
 have hel : e.length ≤ 128 := by rw [he, ← hpl]; exact trimR_len
 have heb : Byt e := by rw [he]; exact trimR_byt hpb
 have hse : (bytesS e).size = e.length := bytesS_size'
 simp only [↓eD, eZ, ↓reduceIte, Nat.reduceEqDiff, Nat.reduceAdd, Nat.reduceMul, reduceCtorEq, Nat.reduceLeDiff, Int.reduceLT, Int.reduceLE, Int.reduceToNat, Int.reduceEq, Nat.reduceLT, undef_eq]
 refine appK_at (trimL_app (by omega)) ?_
 rw [strI_bytesS heb]
 obtain ⟨s, hs'⟩ : ∃ s, s = trimL e := ⟨_, rfl⟩
 rw [← hs'] at hseg ⊢
 have hsl : s.length ≤ e.length := by rw [hs']; exact trimL_len
 have hss : (bytesS s).size = s.length := bytesS_size'
 have hse2 := str_empty (s := bytesS s)
 obtain ⟨T, hT⟩ : ∃ T, T = ap τ [.cells 1 (digC d) (0, 0)] := ⟨_, rfl⟩
 rw [← hT]
 have hIT : I i T := hst i τ T hI (by rw [hT]; exact .ap)
 have hTs : σ.size ≤ T.size := by rw [hT, ap_size]; omega
 clear hT
 by_cases hz : s = []
 ·have d0 : decide ((bytesS s).size = 0) = true := decide_eq_true (by rw [hss, hz]; rfl)
  rw [if_pos hz] at hseg
  simp only [↓eD, eZ, ↓reduceIte, Nat.reduceEqDiff, Nat.reduceAdd, Nat.reduceMul, reduceCtorEq, Nat.reduceLeDiff, Int.reduceLT, Int.reduceLE, Int.reduceToNat, Int.reduceEq, Nat.reduceLT, hse2, d0, hw1, Bool.not_true, undef_eq]
  exact ⟨hlt, by omega, hTs, hs i T hlt hseg hIT⟩
 ·have hs0 : 0 < s.length := by cases s with | nil => exact absurd rfl hz | cons _ _ => simp
  have d0 : decide (s.length = 0) = false := decide_eq_false (by omega)
  rw [if_neg hz] at hseg
  have w1 : IntKind.wrap .i64 ((i : Int) * 128) = ((128 * i : Nat) : Int) := by rw [wrap64' (by omega) (by omega)]; omega
  have w2 : IntKind.wrap .i64 (((128 * i : Nat) : Int) + (e.length : Int)) = ((128 * i + e.length : Nat) : Int) := by rw [wrap64' (by omega) (by omega)]; omega
  have w3 : IntKind.wrap .i64 (((128 * i + e.length : Nat) : Int) - (s.length : Int)) = ((128 * i + e.length : Nat) : Int) - (s.length : Int) := wrap64' (by omega) (by omega)
  simp only [↓eD, eZ, ↓reduceIte, Nat.reduceEqDiff, Nat.reduceAdd, Nat.reduceMul, reduceCtorEq, Nat.reduceLeDiff, Int.reduceLT, Int.reduceLE, Int.reduceToNat, Int.reduceEq, Nat.reduceLT, hse2, d0, hse, hss, w1, w2, w3, Bool.not_false, undef_eq]
  refine appK_of (hy i _ hlt hseg T hTs hIT) ?_
  rintro _ τ2 ⟨rfl, hz2, hI2⟩
  simp only [↓eD, eZ, ↓reduceIte, Nat.reduceEqDiff, Nat.reduceAdd, Nat.reduceMul, reduceCtorEq, Nat.reduceLeDiff, Int.reduceLT, Int.reduceLE, Int.reduceToNat, Int.reduceEq, Nat.reduceLT, hw1, Bool.not_true, undef_eq]
  exact ⟨hlt, by omega, hz2, hI2⟩
theorem parts_app {σ : H} {a : Option Addr} {n c : Nat} : App Tryd.prog (.func 46) #[] #[.agg #[.slice a n c]] σ fun x σ' => σ' = ap σ [.cells 0 [.slice a n c] (0, 0)] ∧ x = .func (.func 71) #[] #[.pointer (some ⟨σ.size, 0, none⟩)] := by
 refine App.of_sem mixed Tryd.func46 t46 k46 r46 (Nat.le_of_ble_eq_true rfl) ?_
 rw [← ap_nil (σ := σ)]
 unfold s46
 simp only [↓eD, eZ, ↓reduceIte, Nat.reduceEqDiff, Nat.reduceAdd, Nat.reduceMul, reduceCtorEq, Nat.reduceLeDiff, Int.reduceLT, Int.reduceLE, Int.reduceToNat, Int.reduceEq, Nat.reduceLT]
 rw [ap_nil]
theorem clonew_app {σ : H} {v : Value} {n : Nat} {cs : List Value} (h : Whl σ 128 v n cs) (hn : n ≤ 100000000000) (ho : cs.all Value.oneCell' = true) :
  App Tryd.prog (.func 45) #[] #[v] σ fun w σ' => Old σ σ' ∧ Grown σ σ' 128 w cs n := by
 refine App.of_sem mixed Tryd.func45 t45 k45 r45 (Nat.le_of_ble_eq_true rfl) ?_
 obtain ⟨a, c, rfl⟩ := h.slice
 have hcl := h.1
 rw [← ap_nil (σ := σ)]
 unfold s45
 simp only [↓eD, eZ, ↓reduceIte, Nat.reduceEqDiff, Nat.reduceAdd, Nat.reduceMul, reduceCtorEq, Nat.reduceLeDiff, Int.reduceLT, Int.reduceLE, Int.reduceToNat, Int.reduceEq, Nat.reduceLT, undef_eq]
 have hg0 : Grown σ (ap σ [.cells 0 [] (0, 0)]) 128 (.slice (some ⟨σ.size, 0, none⟩) 0 0) [] 0 := Grown.lit (ver := 0) rfl (by decide) (Nat.le_refl _) (by rw [ap_new0]; rfl)
 cases a with
 |some q =>
  refine onV_of (v := .bool false) rfl ?_
  simp only [↓eD, eZ, ↓reduceIte, Nat.reduceEqDiff, Nat.reduceAdd, Nat.reduceMul, reduceCtorEq, Nat.reduceLeDiff, Int.reduceLT, Int.reduceLE, Int.reduceToNat, Int.reduceEq, Nat.reduceLT, undef_eq]
  obtain ⟨w, σ', ha, A⟩ := append_grown (bytes := 128) hg0 (by omega) (by simp [ap_size]) (h.Old .ap).x hcl ho (by omega) (by omega)
  refine onV_of ha ?_
  have hoo := A.Old hg0 .ap
  have hg := A.grown
  rw [List.nil_append, Nat.zero_add] at hg
  simp only [↓eD, eZ, ↓reduceIte, Nat.reduceEqDiff, Nat.reduceAdd, Nat.reduceMul, reduceCtorEq, Nat.reduceLeDiff, Int.reduceLT, Int.reduceLE, Int.reduceToNat, Int.reduceEq, Nat.reduceLT, undef_eq]
  exact ⟨hoo, hg⟩
 |none =>
  obtain ⟨_, ⟨rfl, a', c', hv, hc'⟩ | ⟨b, o, cap, hv, _⟩⟩ := id h
  ·have hcs : cs = [] := by simpa using hcl
   subst hcs
   refine onV_of (v := .bool true) rfl ?_
   simp only [↓eD, eZ, ↓reduceIte, Nat.reduceEqDiff, Nat.reduceAdd, Nat.reduceMul, reduceCtorEq, Nat.reduceLeDiff, Int.reduceLT, Int.reduceLE, Int.reduceToNat, Int.reduceEq, Nat.reduceLT, undef_eq]
   first | exact ⟨.refl, .nil⟩ | exact ⟨.ap, .nil⟩
  ·cases hv
def ofE (n : Nat) (e : Int) (d : Nat) : Int := if n < 1 ∨ 64 < n then 1 else if entF e n = false then 7 else if 64 < d then 2 else 0
def ofI (n : Nat) (B : List Int) (e : Int) (D : List (List Int)) : Img := if ofE n e D.length = 0 then ⟨e, n, memSegs B n, D⟩ else ⟨0, 0, [], []⟩
theorem yield_step {l n ver ver1 : Nat} {R : Rnd} {W : List Value → H → (Env → H → Prop) → Prop} {B : Env → H → (Exit → Env → H → Prop) → Prop} {pend pend1 : Option Code} {τ : H} {vs : List Value} {Ky : Value → H → Prop} (hY : Cn.Yields Tryd.prog l n R W B) (hτ : τ[l]? = some (.loop ver .ready pend R)) (hn : vs.length = n)
  (E : Env) (τ1 : H) (h1 : ∀ A : Env → H → Prop, A E τ1 → W vs τ A) (hl : τ1[l]? = some (.loop ver1 .ready pend1 R)) (h2 : B E (τ1.setIfInBounds l (.loop (ver1 + 1) .busy pend1 R)) (Cn.roundK l R Ky)) : App Tryd.prog (.yield l) #[] vs.toArray τ Ky :=
 hY ver pend τ vs Ky hτ hn (h1 _ ⟨ver1, pend1, hl, h2⟩)
theorem segV_rows {S : List Seg} : ∀ r ∈ S.map segV, r.length = 2 := fun r hr => by
 obtain ⟨s, _, rfl⟩ := List.mem_map.1 hr
 rfl
theorem segK_len {B : List Int} {k : Nat} : (segK B k).length ≤ 1 := by unfold segK; split <;> simp
theorem memSegs_len {B : List Int} : ∀ {n : Nat}, (memSegs B n).length ≤ n
 |0 => by simp [memSegs]
 |n + 1 => by rw [memSegs_succ, List.length_append]; have := memSegs_len (B := B) (n := n); have := segK_len (B := B) (k := n); omega
theorem memSegs_ok {B : List Int} : ∀ {n : Nat}, B.length = 128 * n → n ≤ 64 → Byt B → ∀ s ∈ memSegs B n, I64 s.at_ ∧ s.data.size ≤ 128 := by
 intro n hl hn hB s hs
 obtain ⟨k, hk, hs⟩ := List.mem_flatMap.1 hs
 rw [List.mem_range] at hk
 unfold segK at hs
 split at hs
 ·cases hs
 ·rw [List.mem_singleton] at hs
  subst hs
  have h1 := trimL_len (d := trimR (pageB B k))
  have h2 := trimR_len (d := pageB B k)
  rw [pageB_len hl hk] at h2
  refine ⟨by unfold I64; simp only; omega, ?_⟩
  simp only [bytesS_size']
  omega
theorem img0_R {σ : H} : ImgR σ (imgC 0 0 (.slice none 0 0) (.slice none 0 0)) ⟨0, 0, [], []⟩ none 0 none 0 :=
 ⟨rfl, ⟨none, 0, rfl, (fun i x h => by simp at h)⟩, ⟨none, 0, rfl, (fun i x h => by simp at h)⟩, (fun d h => by cases h), ⟨none, 0, 0, rfl, (by decide), .inl rfl⟩, ⟨none, 0, 0, rfl, (by decide), .inl rfl⟩, (by unfold I64; simp only; omega), (by unfold I64; simp only; omega), (fun s h => by cases h), (by simp), (by simp)⟩
structure PagesR (σ : H) (v : Value) (D : List (List Int)) : Prop where
 w : Whl σ 128 v D.length (D.map digC).flatten
 d : ∀ d ∈ D, d.length = 128 ∧ Byt d
theorem pages_rows {D : List (List Int)} (h : ∀ d ∈ D, d.length = 128 ∧ Byt d) : ∀ r ∈ D.map digC, r.length = 128 := fun r hr => by
 obtain ⟨d, hd, rfl⟩ := List.mem_map.1 hr
 rw [digC_length, (h d hd).1]
theorem pages_ones {D : List (List Int)} : (D.map digC).flatten.all Value.oneCell' = true := by
 rw [List.all_eq_true]
 intro v hv
 obtain ⟨r, hr, hv⟩ := List.mem_flatten.1 hv
 obtain ⟨d, _, rfl⟩ := List.mem_map.1 hr
 exact List.all_eq_true.1 digC_one v hv
theorem lof_app {σ : H} {v u : Value} {n : Nat} {B : List Int} {e : Int} {D : List (List Int)} (h : MemV σ v n B) (hd : PagesR σ u D) (he : I64 e) (hn : n < 100000000000) (hD : D.length < 100000000000) :
  App Tryd.prog (.func 23) #[] #[.agg #[v], .int .i64 e, u] σ fun w σ' => Old σ σ' ∧ ∃ l' a1 b1 a2 b2, w = .tuple #[.agg l'.toArray, .int .i64 (ofE n e D.length)] ∧ ImgR σ' l' (ofI n B e D) a1 b1 a2 b2 := by
 refine App.of_sem mixed Tryd.func23 t23 k23 r23 (Nat.le_of_ble_eq_true rfl) ?_
 obtain ⟨a, c, rfl⟩ := h.w.slice
 obtain ⟨da, dc, rfl⟩ := hd.w.slice
 rw [← ap_nil (σ := σ)]
 unfold s23
 simp only [↓eD, eZ, ↓reduceIte, Nat.reduceEqDiff, Nat.reduceAdd, Nat.reduceMul, reduceCtorEq, Nat.reduceLeDiff, Int.reduceLT, Int.reduceLE, Int.reduceToNat, Int.reduceEq, Nat.reduceLT, undef_eq]
 refine appK_at (valid_app rfl) ?_
 by_cases g1 : 1 ≤ n ∧ n ≤ 64
 case neg =>
  have d1 : decide (1 ≤ n ∧ n ≤ 64) = false := decide_eq_false g1
  have fE : ofE n e D.length = 1 := if_pos (by omega)
  have fI : ofI n B e D = ⟨0, 0, [], []⟩ := if_neg (by rw [fE]; decide)
  simp only [↓eD, eZ, ↓reduceIte, Nat.reduceEqDiff, Nat.reduceAdd, Nat.reduceMul, reduceCtorEq, Nat.reduceLeDiff, Int.reduceLT, Int.reduceLE, Int.reduceToNat, Int.reduceEq, Nat.reduceLT, d1, Bool.not_false, undef_eq]
  rw [fE, fI]
  exact ⟨.ap, _, none, 0, none, 0, rfl, img0_R⟩
 have d1 : decide (1 ≤ n ∧ n ≤ 64) = true := decide_eq_true g1
 simp only [↓eD, eZ, ↓reduceIte, Nat.reduceEqDiff, Nat.reduceAdd, Nat.reduceMul, reduceCtorEq, Nat.reduceLeDiff, Int.reduceLT, Int.reduceLE, Int.reduceToNat, Int.reduceEq, Nat.reduceLT, d1, Bool.not_true, undef_eq]
 refine appK_at (lent_app (by omega) (by omega)) ?_
 cases g2 : entF e (n : Int) with
 |false =>
  have fE : ofE n e D.length = 7 := by unfold ofE; rw [if_neg (by omega), if_pos g2]
  have fI : ofI n B e D = ⟨0, 0, [], []⟩ := if_neg (by rw [fE]; decide)
  simp only [↓eD, eZ, ↓reduceIte, Nat.reduceEqDiff, Nat.reduceAdd, Nat.reduceMul, reduceCtorEq, Nat.reduceLeDiff, Int.reduceLT, Int.reduceLE, Int.reduceToNat, Int.reduceEq, Nat.reduceLT, Bool.not_false, undef_eq]
  rw [fE, fI]
  exact ⟨.ap, _, none, 0, none, 0, rfl, img0_R⟩
 |true =>
 by_cases g3 : 64 < D.length
 ·have d3 : decide ((64 : Int) < (D.length : Int)) = true := by rw [decide_eq_true]; omega
  have fE : ofE n e D.length = 2 := by unfold ofE; rw [if_neg (by omega), if_neg (by rw [g2]; simp), if_pos g3]
  have fI : ofI n B e D = ⟨0, 0, [], []⟩ := if_neg (by rw [fE]; decide)
  simp only [↓eD, eZ, ↓reduceIte, Nat.reduceEqDiff, Nat.reduceAdd, Nat.reduceMul, reduceCtorEq, Nat.reduceLeDiff, Int.reduceLT, Int.reduceLE, Int.reduceToNat, Int.reduceEq, Nat.reduceLT, d3, Bool.not_true, undef_eq]
  rw [fE, fI]
  exact ⟨.ap, _, none, 0, none, 0, rfl, img0_R⟩
 have d3 : decide ((64 : Int) < (D.length : Int)) = false := by rw [decide_eq_false]; omega
 have fE : ofE n e D.length = 0 := by unfold ofE; rw [if_neg (by omega), if_neg (by rw [g2]; simp), if_neg g3]
 have fI : ofI n B e D = ⟨e, n, memSegs B n, D⟩ := if_pos fE
 rw [fE, fI]
 simp only [↓eD, eZ, ↓reduceIte, Nat.reduceEqDiff, Nat.reduceAdd, Nat.reduceMul, reduceCtorEq, Nat.reduceLeDiff, Int.reduceLT, Int.reduceLE, Int.reduceToNat, Int.reduceEq, Nat.reduceLT, d3, Bool.not_true, undef_eq]
 refine appK_of (clonew_app (hd.w.Old .ap) (by omega) pages_ones) ?_
 rintro wD η ⟨oη, hgD⟩
 have s3 : (ap σ [.cells 0 [.slice a n c] (0, 0), .cells 0 [.int .i64 0, .int .i64 0, .slice none 0 0, .slice none 0 0] (0, 0), .cells 0 [.int .i64 0, .int .i64 0, .slice none 0 0, .slice none 0 0] (0, 0)]).size = σ.size + 3 := by simp [ap_size]
 have z0 : η[σ.size]? = some (.cells 0 [.slice a n c] (0, 0)) := (oη.2 _ (by omega)).trans (by rw [ap_new0]; rfl)
 have z1 : η[σ.size + 1]? = some (.cells 0 [.int .i64 0, .int .i64 0, .slice none 0 0, .slice none 0 0] (0, 0)) := (oη.2 _ (by omega)).trans (by rw [ap_new]; rfl)
 have z2 : η[σ.size + 2]? = some (.cells 0 [.int .i64 0, .int .i64 0, .slice none 0 0, .slice none 0 0] (0, 0)) := (oη.2 _ (by omega)).trans (by rw [ap_new]; rfl)
 have oS : Old σ η := Old.ap.trans oη
 have hη3 : σ.size + 3 ≤ η.size := by have := oη.1; omega
 obtain ⟨wa, wc, rfl⟩ := hgD.slice
 have r0 : rd1 η ⟨σ.size, 0, none⟩ = some (.slice a n c) := rd1_of z0 .refl rfl
 have k8 : wrN η ⟨σ.size + 2, 0, none⟩ [.int .i64 e, .int .i64 (n : Int), .slice none 0 0, .slice wa D.length wc] = some (η.setIfInBounds (σ.size + 2) (.cells 1 [.int .i64 e, .int .i64 (n : Int), .slice none 0 0, .slice wa D.length wc] (0, 0))) := by
  rw [wrN_eq, if_neg (by simp), z2, wrc_cells, if_pos ⟨by simp, rfl⟩]
  rfl
 have r0' : rdN (η.setIfInBounds (σ.size + 2) (.cells 1 [.int .i64 e, .int .i64 (n : Int), .slice none 0 0, .slice wa D.length wc] (0, 0))) ⟨σ.size, 0, none⟩ 1 = some [.slice a n c] := rdN_all ((get_set_ne (by omega)).trans z0) rfl
 simp only [↓eD, eZ, ↓reduceIte, Nat.reduceEqDiff, Nat.reduceAdd, Nat.reduceMul, reduceCtorEq, Nat.reduceLeDiff, Int.reduceLT, Int.reduceLE, Int.reduceToNat, Int.reduceEq, Nat.reduceLT, r0, k8, r0', undef_eq]
 refine appK_of parts_app ?_
 rintro _ _ ⟨rfl, rfl⟩
 simp only [↓eD, eZ, ↓reduceIte, Nat.reduceEqDiff, Nat.reduceAdd, Nat.reduceMul, reduceCtorEq, Nat.reduceLeDiff, Int.reduceLT, Int.reduceLE, Int.reduceToNat, Int.reduceEq, Nat.reduceLT, undef_eq]
 obtain ⟨T, hT⟩ : ∃ T, T = ap (η.setIfInBounds (σ.size + 2) (.cells 1 [.int .i64 e, .int .i64 (n : Int), .slice none 0 0, .slice wa D.length wc] (0, 0))) [.cells 0 [.slice a n c] (0, 0)] := ⟨_, rfl⟩
 have ss : (η.setIfInBounds (σ.size + 2) (.cells 1 [.int .i64 e, .int .i64 (n : Int), .slice none 0 0, .slice wa D.length wc] (0, 0))).size = η.size := by simp
 rw [← hT, ss]
 have sT : T.size = η.size + 1 := by rw [hT, ap_size, ss]; rfl
 have qT : T[η.size]? = some (.cells 0 [.slice a n c] (0, 0)) := by rw [hT, ← ss]; exact ap_new0
 have OBT : OldB (σ.size + 2) η T := by
  rw [hT]
  exact ⟨by rw [ap_size, ss]; omega, fun q h1 h2 => (ap_old (by rw [ss]; exact h1)).trans (get_set_ne (Ne.symm h2))⟩
 have b8 : T[σ.size + 2]? = some (.cells 1 [.int .i64 e, .int .i64 (n : Int), .slice none 0 0, .slice wa D.length wc] (0, 0)) := by rw [hT]; exact (ap_old (by rw [ss]; omega)).trans (get_set z2)
 clear hT
 have oT : Old σ T := OBT.old oS (by omega)
 refine rng_of (by kernel_rfl) fun R hY => ?_
 have hpz : (T.push (.loop 0 .ready none R)).size = T.size + 1 := by simp
 have hpo : Old T (T.push (.loop 0 .ready none R)) := old_push
 have hl : (sized (T.size + 1)).size = T.size + 1 := sized_size
 refine (parts1_app (q := η.size) (n := n) (v := .slice a n c) (B := B) g1.2
  (fun i θ => OldB (σ.size + 2) T θ ∧ T.size + 1 ≤ θ.size ∧ (∃ ver, θ[T.size]? = some (.loop ver .ready none R)) ∧ ∃ u ver, θ[σ.size + 2]? = some (.cells ver [.int .i64 e, .int .i64 (n : Int), u, .slice wa D.length wc] (0, 0)) ∧ Grown (sized (T.size + 1)) θ 2 u ((memSegs B i).map segV).flatten (memSegs B i).length)
  ⟨⟨by simp, fun c h1 _ => hpo.2 c h1⟩, by simp, ⟨0, by simp⟩, _, 1, (hpo.2 _ (by omega)).trans b8, .nil⟩ ?_ ?_ ?_ ?_ ?_).mono ?_
 ·rintro i τ τ' ⟨x1, x2, ⟨vl, x3⟩, u, ver, x4, x5⟩ ho
  exact ⟨x1.Old' ho, Nat.le_trans x2 ho.1, ⟨vl, (ho.2 _ (by omega)).trans x3⟩, u, ver, (ho.2 _ (Array.getElem?_eq_some_iff.1 x4).1).trans x4, x5.old ho⟩
 ·exact rd1_of ((hpo.2 _ (by omega)).trans qT) .refl rfl
 ·rintro i τ ⟨x1, _⟩ _
  have oτ : Old σ τ := ⟨by have h9 := x1.1; omega, fun q hq => (x1.2 q (by omega) (by omega)).trans (oT.2 q hq)⟩
  exact h.Old oτ
 ·rintro i τ hi hz ⟨x1, x2, x3, u, ver, x4, x5⟩
  refine ⟨x1, x2, x3, u, ver, x4, ?_⟩
  rw [memSegs_succ, hz, List.append_nil]
  exact x5
 ·rintro i s hi hsg τ hsz ⟨x1, x2, ⟨vl, x3⟩, u, ver, x4, x5⟩
  have htk : memSegs B (i + 1) = memSegs B i ++ [s] := by rw [memSegs_succ, hsg]
  have hml := memSegs_len (B := B) (n := i)
  refine yield_step hY x3 rfl [(8, .pointer (some ⟨σ.size + 2, 0, none⟩)), (9, .pointer (some ⟨τ.size, 0, none⟩))] (ap τ [.cells 1 (segV s) (0, 0)]) (fun A hA => ?_) ((ap_old (by omega)).trans x3) ?_
  ·rw [← ap_nil (σ := τ)]
   simp only [↓eD, eZ, ↓reduceIte, Nat.reduceEqDiff, Nat.reduceAdd, Nat.reduceMul, reduceCtorEq, Nat.reduceLeDiff, Int.reduceLT, Int.reduceLE, Int.reduceToNat, Int.reduceEq, Nat.reduceLT, segV]
   exact hA
  ·obtain ⟨η1, hη1⟩ : ∃ η1, η1 = (ap τ [.cells 1 (segV s) (0, 0)]).setIfInBounds T.size (.loop (vl + 1) .busy none R) := ⟨_, rfl⟩
   rw [← hη1]
   have OB1 : OldB (σ.size + 2) T η1 := by
    rw [hη1]
    exact ⟨by rw [Array.size_setIfInBounds, ap_size]; have := x1.1; omega, fun q h1 h2 => (get_set_ne (by omega)).trans ((ap_old (by omega)).trans (x1.2 q h1 h2))⟩
   have sz1 : η1.size = τ.size + 1 := by rw [hη1]; simp [ap_size]
   have l1 : η1[T.size]? = some (.loop (vl + 1) .busy none R) := by rw [hη1]; exact get_set ((ap_old (l := [.cells 1 (segV s) (0, 0)]) (by omega)).trans x3)
   have b1 : η1[σ.size + 2]? = some (.cells ver [.int .i64 e, .int .i64 (n : Int), u, .slice wa D.length wc] (0, 0)) := by rw [hη1]; exact (get_set_ne (by omega)).trans ((ap_old (by omega)).trans x4)
   have s1 : η1[τ.size]? = some (.cells 1 (segV s) (0, 0)) := by rw [hη1]; exact (get_set_ne (by omega)).trans ap_new0
   have g1' : Grown (sized (T.size + 1)) η1 2 u ((memSegs B i).map segV).flatten (memSegs B i).length := by rw [hη1]; exact (x5.old .ap).set (by omega)
   clear hη1
   obtain ⟨ua, uc, rfl⟩ := g1'.slice
   have f17 : ∀ M, rd1 (ap η1 M) ⟨σ.size + 2, 2, none⟩ = some (.slice ua (memSegs B i).length uc) := fun M => rd1_of b1 .ap rfl
   have f9 : ∀ M, rdN (ap η1 M) ⟨τ.size, 0, none⟩ 2 = some (segV s) := fun M => rdb_of s1 .ap rfl
   rw [← ap_nil (σ := η1)]
   simp only [↓eD, eZ, ↓reduceIte, Nat.reduceEqDiff, Nat.reduceAdd, Nat.reduceMul, reduceCtorEq, Nat.reduceLeDiff, Int.reduceLT, Int.reduceLE, Int.reduceToNat, Int.reduceEq, Nat.reduceLT, f17, f9, segV, undef_eq]
   have hg1 := g1'.old (Old.ap (l := [.cells 0 [.int .i64 s.at_, .string s.data] (0, 0)]))
   have xc : xcells (ap η1 [.cells 0 [.int .i64 s.at_, .string s.data] (0, 0)]) 2 (.slice (some ⟨η1.size, 0, none⟩) 1 1) = some (1, [.int .i64 s.at_, .string s.data]) := by
    show (rdN (ap η1 _) ⟨η1.size, 0, none⟩ (1 * 2)).map (1, ·) = _
    rw [rdN_all (n := 1 * 2) (by rw [ap_new0]; rfl) rfl]
    rfl
   obtain ⟨v6, η2, ha, A⟩ := append_grown (bytes := 24) hg1 (by omega) (by rw [hl, ap_size]; omega) xc rfl rfl (by omega) (by omega)
   refine onV_of ha ?_
   have b2 : η2[σ.size + 2]? = some (.cells ver [.int .i64 e, .int .i64 (n : Int), .slice ua (memSegs B i).length uc, .slice wa D.length wc] (0, 0)) := A.low hg1 (by rw [hl]; omega) ((ap_old (Array.getElem?_eq_some_iff.1 b1).1).trans b1)
   have l2 : η2[T.size]? = some (.loop (vl + 1) .busy none R) := A.low hg1 (by rw [hl]; omega) ((ap_old (Array.getElem?_eq_some_iff.1 l1).1).trans l1)
   have OB2 : OldB (σ.size + 2) T η2 := ⟨by have hA := A.size; have h0 := OB1.1; rw [ap_size] at hA; omega, fun q h1 h2 => by
    have h4 : η1[q]? = some (T[q]'h1) := (OB1.2 q h1 h2).trans (Array.getElem?_eq_getElem h1)
    rw [A.low hg1 (by rw [hl]; omega) ((ap_old (Array.getElem?_eq_some_iff.1 h4).1).trans h4), Array.getElem?_eq_getElem h1]⟩
   obtain ⟨ua2, uc2, rfl⟩ := A.grown.slice
   have k17 : wrN η2 ⟨σ.size + 2, 2, none⟩ [.slice ua2 ((memSegs B i).length + 1) uc2] = some (η2.setIfInBounds (σ.size + 2) (.cells (ver + 1) [.int .i64 e, .int .i64 (n : Int), .slice ua2 ((memSegs B i).length + 1) uc2, .slice wa D.length wc] (0, 0))) := by
    rw [wrN_eq, if_neg (by simp), b2, wrc_cells, if_pos ⟨by simp, rfl⟩]
    rfl
   simp only [↓eD, eZ, ↓reduceIte, Nat.reduceEqDiff, Nat.reduceAdd, Nat.reduceMul, reduceCtorEq, Nat.reduceLeDiff, Int.reduceLT, Int.reduceLE, Int.reduceToNat, Int.reduceEq, Nat.reduceLT, k17, undef_eq]
   have OB3 : OldB (σ.size + 2) T (η2.setIfInBounds (σ.size + 2) (.cells (ver + 1) [.int .i64 e, .int .i64 (n : Int), .slice ua2 ((memSegs B i).length + 1) uc2, .slice wa D.length wc] (0, 0))) := OB2.set
   have l3 : (η2.setIfInBounds (σ.size + 2) (.cells (ver + 1) [.int .i64 e, .int .i64 (n : Int), .slice ua2 ((memSegs B i).length + 1) uc2, .slice wa D.length wc] (0, 0)))[T.size]? = some (.loop (vl + 1) .busy none R) := (get_set_ne (by omega)).trans l2
   have hgA := A.grown.set (b := σ.size + 2) (k := .cells (ver + 1) [.int .i64 e, .int .i64 (n : Int), .slice ua2 ((memSegs B i).length + 1) uc2, .slice wa D.length wc] (0, 0)) (by rw [hl]; omega)
   have b3 : (η2.setIfInBounds (σ.size + 2) (.cells (ver + 1) [.int .i64 e, .int .i64 (n : Int), .slice ua2 ((memSegs B i).length + 1) uc2, .slice wa D.length wc] (0, 0)))[σ.size + 2]? = some (.cells (ver + 1) [.int .i64 e, .int .i64 (n : Int), .slice ua2 ((memSegs B i).length + 1) uc2, .slice wa D.length wc] (0, 0)) := get_set b2
   have z3 : T.size + 1 ≤ (η2.setIfInBounds (σ.size + 2) (.cells (ver + 1) [.int .i64 e, .int .i64 (n : Int), .slice ua2 ((memSegs B i).length + 1) uc2, .slice wa D.length wc] (0, 0))).size := by
    have hA := A.size
    rw [ap_size] at hA
    simp
    omega
   generalize η2.setIfInBounds (σ.size + 2) (.cells (ver + 1) [.int .i64 e, .int .i64 (n : Int), .slice ua2 ((memSegs B i).length + 1) uc2, .slice wa D.length wc] (0, 0)) = η3 at OB3 l3 hgA b3 z3
   refine ⟨vl + 1, .busy, none, l3, by rw [hpz]; simpa using z3, ⟨by rw [Array.size_setIfInBounds]; exact OB3.1, fun q h1 h2 => (get_set_ne (by omega)).trans (OB3.2 q h1 h2)⟩, by simpa using z3, ⟨_, get_set l3⟩, _, ver + 1, (get_set_ne (by omega)).trans b3, ?_⟩
   have hgB := hgA.set (b := T.size) (k := .loop (vl + 1 + 1) .ready none R) (by rw [hl]; omega)
   rw [htk, List.map_append, List.flatten_append, List.length_append]
   simpa [segV] using hgB
 ·rintro v τ ⟨x1, x2, ⟨vl, x3⟩, u, ver, x4, x5⟩
  refine ⟨vl, .ready, none, x3, by simp, ?_⟩
  obtain ⟨ua, uc, rfl⟩ := x5.slice
  have hml := memSegs_len (B := B) (n := n)
  have hTs : T.size < τ.size := by omega
  obtain ⟨ζ, hζ⟩ : ∃ ζ, ζ = τ.setIfInBounds T.size (.loop (vl + 1) .exhausted none R) := ⟨_, rfl⟩
  rw [← hζ]
  have OBζ : OldB (σ.size + 2) T ζ := by
   rw [hζ]
   exact ⟨by rw [Array.size_setIfInBounds]; exact x1.1, fun q h1 h2 => (get_set_ne (by omega)).trans (x1.2 q h1 h2)⟩
  have b8' : ζ[σ.size + 2]? = some (.cells ver [.int .i64 e, .int .i64 (n : Int), .slice ua (memSegs B n).length uc, .slice wa D.length wc] (0, 0)) := by rw [hζ]; exact (get_set_ne (by omega)).trans x4
  have hgS : Grown (sized (T.size + 1)) ζ 2 (.slice ua (memSegs B n).length uc) ((memSegs B n).map segV).flatten (memSegs B n).length := by rw [hζ]; exact x5.set (by rw [hl]; omega)
  clear hζ
  have z1' : ζ[σ.size + 1]? = some (.cells 0 [.int .i64 0, .int .i64 0, .slice none 0 0, .slice none 0 0] (0, 0)) := ((OBζ.2 _ (by omega) (by omega)).trans (OBT.2 _ (by omega) (by omega))).trans z1
  have r8 := rdN_all (n := 4) b8' rfl
  have k6 : wrN ζ ⟨σ.size + 1, 0, none⟩ [.int .i64 e, .int .i64 (n : Int), .slice ua (memSegs B n).length uc, .slice wa D.length wc] = some (ζ.setIfInBounds (σ.size + 1) (.cells 1 [.int .i64 e, .int .i64 (n : Int), .slice ua (memSegs B n).length uc, .slice wa D.length wc] (0, 0))) := by
   rw [wrN_eq, if_neg (by simp), z1', wrc_cells, if_pos ⟨by simp, rfl⟩]
   rfl
  have r6 := rdN_all (n := 4) (get_set (k := .cells 1 [.int .i64 e, .int .i64 (n : Int), .slice ua (memSegs B n).length uc, .slice wa D.length wc] (0, 0)) z1') rfl
  simp only [↓eD, eZ, ↓reduceIte, Nat.reduceEqDiff, Nat.reduceAdd, Nat.reduceMul, reduceCtorEq, Nat.reduceLeDiff, Int.reduceLT, Int.reduceLE, Int.reduceToNat, Int.reduceEq, Nat.reduceLT, r8, k6, r6, undef_eq]
  have oζ : Old σ ζ := ⟨by have h9 := OBζ.1; omega, fun q hq => (OBζ.2 q (by omega) (by omega)).trans (oT.2 q hq)⟩
  have hgS2 := hgS.set (b := σ.size + 1) (k := .cells 1 [.int .i64 e, .int .i64 (n : Int), .slice ua (memSegs B n).length uc, .slice wa D.length wc] (0, 0)) (by rw [hl]; omega)
  have hgD2 : Grown (ap σ [.cells 0 [.slice a n c] (0, 0), .cells 0 [.int .i64 0, .int .i64 0, .slice none 0 0, .slice none 0 0] (0, 0), .cells 0 [.int .i64 0, .int .i64 0, .slice none 0 0, .slice none 0 0] (0, 0)]) (ζ.setIfInBounds (σ.size + 1) (.cells 1 [.int .i64 e, .int .i64 (n : Int), .slice ua (memSegs B n).length uc, .slice wa D.length wc] (0, 0))) 128 (.slice wa D.length wc) (D.map digC).flatten D.length := hgD.keep fun q k h1 h2 => by
   have h3 := hgD.base h1
   rw [s3] at h3
   rw [get_set_ne (by omega), OBζ.2 q (by omega) (by omega), OBT.2 q h3.2 (by omega)]
   exact h2
  refine ⟨oζ.set (by omega), _, ua, uc, wa, wc, rfl, rfl, ?_, ?_, hd.d, hgS2.cap, hgD2.cap, he, (by unfold I64; simp only; omega), fun s hs => ?_, (by simp only; omega), (by simp only; omega)⟩
  ·have h9 : Grown (sized (T.size + 1)) (ζ.setIfInBounds (σ.size + 1) (.cells 1 [.int .i64 e, .int .i64 (n : Int), .slice ua (memSegs B n).length uc, .slice wa D.length wc] (0, 0))) 2 (.slice ua (memSegs B n).length uc) ((memSegs B n).map segV).flatten ((memSegs B n).map segV).length := by rw [List.length_map]; exact hgS2
   exact h9.Row segV_rows
  ·have h9 : Grown (ap σ [.cells 0 [.slice a n c] (0, 0), .cells 0 [.int .i64 0, .int .i64 0, .slice none 0 0, .slice none 0 0] (0, 0), .cells 0 [.int .i64 0, .int .i64 0, .slice none 0 0, .slice none 0 0] (0, 0)]) (ζ.setIfInBounds (σ.size + 1) (.cells 1 [.int .i64 e, .int .i64 (n : Int), .slice ua (memSegs B n).length uc, .slice wa D.length wc] (0, 0))) 128 (.slice wa D.length wc) (D.map digC).flatten (D.map digC).length := by rw [List.length_map]; exact hgD2
   exact h9.Row (pages_rows hd.d)
  ·obtain ⟨h8, h9⟩ := memSegs_ok h.l g1.2 h.b s hs
   exact ⟨h8, by omega⟩
end Go.Proofs.YtajchhghjjlahaaDoor
