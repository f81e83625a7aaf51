/- Walks and plain laws. Conditions: none. -/
import Derived.Test.YtajchhghjjlahaaDoorIf
set_option linter.all false
set_option maxRecDepth 10000
set_option maxHeartbeats 8000000
namespace Go.Proofs.YtajchhghjjlahaaDoor
open Go Go.Cn Go.RowKit
attribute [local irreducible] evL sem onG onI onV
theorem rvalid_app {σ : H} {n c : Nat} {a : Option Addr} : App Tryd.prog (.func 51) #[] #[.agg #[.slice a n c]] σ fun w σ' => σ' = σ ∧ w = .bool (decide (1 ≤ n ∧ n ≤ 64)) := by
 refine App.forget (App.of_sem mixed Tryd.func51 t51 k51 r51 (Nat.le_of_ble_eq_true rfl) ?_)
 rw [← ap_nil (σ := σ)]
 unfold s51
 have d1 : decide ((1:Int) ≤ (n:Int)) = decide (1 ≤ n) := decide_eq_decide.2 (by omega)
 have d2 : decide ((n:Int) ≤ 64) = decide (n ≤ 64) := decide_eq_decide.2 (by omega)
 by_cases h1 : 1 ≤ n
 ·have e1 : decide (1 ≤ n) = true := decide_eq_true h1
  have f : decide (1 ≤ n ∧ n ≤ 64) = decide (n ≤ 64) := decide_eq_decide.2 ⟨fun h => h.2, fun h => ⟨h1, h⟩⟩
  simp only [↓eD, eZ, ↓reduceIte, Nat.reduceEqDiff, Nat.reduceAdd, Nat.reduceMul, reduceCtorEq, Nat.reduceLeDiff, Int.reduceLT, Int.reduceLE, Int.reduceToNat, Int.reduceEq, Nat.reduceLT, d1, d2, e1, f, undef_eq]
  first | exact ⟨.ap, rfl⟩ | exact .ap
 ·have e1 : decide (1 ≤ n) = false := decide_eq_false h1
  have f : decide (1 ≤ n ∧ n ≤ 64) = false := decide_eq_false fun h => h1 h.1
  simp only [↓eD, eZ, ↓reduceIte, Nat.reduceEqDiff, Nat.reduceAdd, Nat.reduceMul, reduceCtorEq, Nat.reduceLeDiff, Int.reduceLT, Int.reduceLE, Int.reduceToNat, Int.reduceEq, Nat.reduceLT, d1, d2, e1, f, undef_eq]
  first | exact ⟨.ap, rfl⟩ | exact .ap
theorem page_at {n k : Nat} (hk : k < 128 * n) (hn : n ≤ 1000000) : ∃ P O : Nat, 128 * P + O = k ∧ O < 128 ∧ P < n ∧ ((k : Int)).tdiv 128 = (P : Int) ∧ ((k : Int)).tmod 128 = (O : Int) ∧ IntKind.wrap .i64 (P : Int) = (P : Int) := by
 have h1 := Nat.div_add_mod k 128
 have h2 := Nat.mod_lt k (y := 128) (by omega)
 exact ⟨k / 128, k % 128, h1, h2, by omega, (Int.ofNat_tdiv _ _).symm, (Int.ofNat_tmod _ _).symm, wrap64' (by omega) (by omega)⟩
theorem rbyte_app {σ : H} {v : Value} {n k : Nat} {B : List Int} (h : MemV σ v n B) (hn : n ≤ 1000000) (hk : k < 128 * n) :
  App Tryd.prog (.func 78) #[] #[.agg #[v], .int .i64 (k : Int)] σ fun w σ' => σ' = σ ∧ w = .int .u8 (B.getD k 0) := by
 refine App.forget (App.of_sem mixed Tryd.func78 t78 k78 r78 (Nat.le_of_ble_eq_true rfl) ?_)
 obtain ⟨a, c, rfl⟩ := h.w.slice
 obtain ⟨bk, bo, rfl, _⟩ := h.w.at (by omega)
 rw [← ap_nil (σ := σ)]
 unfold s78
 obtain ⟨P, O, hPO, hO, hP, tq, tr, wq⟩ := page_at hk hn
 have hz : ((128 : Int) = 0) = False := by simp
 have hbd : (0:Int) ≤ (P:Int) ∧ (P:Int) < (n : Int) := by omega
 have hbo : (0:Int) ≤ (O:Int) ∧ (O:Int) < ((128 : Nat) : Int) := by omega
 have hr : ∀ M, rd1 (ap σ M) ⟨bk, bo + P * 128 + O, none⟩ = some (.int .u8 (B.getD k 0)) := fun M => by
  have := rd1_old (l := M) (h.byte hk)
  rw [show bo + P * 128 + O = bo + k by omega]
  exact this
 simp only [↓eD, eZ, ↓reduceIte, Nat.reduceEqDiff, Nat.reduceAdd, Nat.reduceMul, reduceCtorEq, Nat.reduceLeDiff, Int.reduceLT, Int.reduceLE, Int.reduceToNat, Int.reduceEq, Nat.reduceLT, tq, tr, wq, hz, hbd, hbo, Int.toNat_natCast, hr, undef_eq]
 first | exact ⟨.ap, rfl⟩ | exact .ap
theorem rread_app {σ : H} {v : Value} {n at_ k : Nat} {B : List Int} (h : MemV σ v n B) (hn : n ≤ 64) (hat : at_ + k ≤ 128 * n) (hk : 0 < k) :
  App Tryd.prog (.func 52) #[] #[.agg #[v], .int .i64 (at_ : Int), .int .i64 (k : Int)] σ fun w σ' => σ' = σ ∧ w = .agg #[.string (bytesS ((B.drop at_).take k)), .bool true] := by
 refine App.forget (App.of_sem mixed Tryd.func52 t52 k52 r52 (Nat.le_of_ble_eq_true rfl) ?_)
 have hB := h.l
 obtain ⟨a, c, rfl⟩ := h.w.slice
 rw [← ap_nil (σ := σ)]
 unfold s52
 have d1 : decide ((at_ : Int) < 0) = false := by rw [decide_eq_false]; omega
 have d2 : decide ((k : Int) < 0) = false := by rw [decide_eq_false]; omega
 simp only [↓eD, eZ, ↓reduceIte, Nat.reduceEqDiff, Nat.reduceAdd, Nat.reduceMul, reduceCtorEq, Nat.reduceLeDiff, Int.reduceLT, Int.reduceLE, Int.reduceToNat, Int.reduceEq, Nat.reduceLT, d1, d2, undef_eq]
 refine appK_at (rsize_app (by omega)) ?_
 have d3 : decide (((n * 128 : Nat) : Int) < (at_ : Int)) = false := by rw [decide_eq_false]; omega
 simp only [↓eD, eZ, ↓reduceIte, Nat.reduceEqDiff, Nat.reduceAdd, Nat.reduceMul, reduceCtorEq, Nat.reduceLeDiff, Int.reduceLT, Int.reduceLE, Int.reduceToNat, Int.reduceEq, Nat.reduceLT, d3, undef_eq]
 refine appK_at (rsize_app (by omega)) ?_
 have ws : IntKind.wrap .i64 (((n * 128 : Nat) : Int) - (at_ : Int)) = ((n * 128 : Nat) : Int) - (at_ : Int) := wrap64' (by omega) (by omega)
 have d4 : decide (((n * 128 : Nat) : Int) - (at_ : Int) < (k : Int)) = false := by rw [decide_eq_false]; omega
 simp only [↓eD, eZ, ↓reduceIte, Nat.reduceEqDiff, Nat.reduceAdd, Nat.reduceMul, reduceCtorEq, Nat.reduceLeDiff, Int.reduceLT, Int.reduceLE, Int.reduceToNat, Int.reduceEq, Nat.reduceLT, ws, d4, undef_eq]
 obtain ⟨T, hT⟩ : ∃ T, T = ap σ [.cells 0 [.slice a n c] (0, 0), .cells 0 [.string ⟨#[]⟩, .bool false] (0, 0)] := ⟨_, rfl⟩
 rw [← hT]
 have oT : Old σ T := by rw [hT]; exact .ap
 have sT : T.size = σ.size + 2 := by rw [hT]; simp [ap_size]
 have z0 : T[σ.size]? = some (.cells 0 [.slice a n c] (0, 0)) := by rw [hT, ap_new0]; rfl
 have z1 : T[σ.size + 1]? = some (.cells 0 [.string ⟨#[]⟩, .bool false] (0, 0)) := by rw [hT, ap_new]; rfl
 clear hT
 refine loop_for (J := fun i e τ => i ≤ k ∧ ∃ u, e = [(1, .int .i64 (at_ : Int)), (2, .int .i64 (k : Int)), (3, .pointer (some ⟨σ.size, 0, none⟩)), (6, .pointer (some ⟨σ.size + 1, 0, none⟩)), (7, u), (8, .int .i64 (i : Int))] ∧ Old T τ ∧ Grown T τ 1 u (digC ((B.drop at_).take i)) ((B.drop at_).take i).length) k
  ⟨by omega, _, rfl, ⟨Nat.le_refl _, fun c _ => rfl⟩, by simpa [digC] using Grown.nil⟩ ?_
 rintro i e τ hi ⟨_, u, rfl, oτ, hg⟩
 have hil : ((B.drop at_).take i).length = i := by rw [List.length_take, List.length_drop]; omega
 by_cases hlt : i < k
 ·have dl : decide ((i : Int) < (k : Int)) = true := by rw [decide_eq_true]; omega
  have hw1 : IntKind.wrap .i64 ((i:Int) + 1) = ((i + 1 : Nat) : Int) := by rw [wrap64' (by omega) (by omega)]; omega
  have wa : IntKind.wrap .i64 ((at_ : Int) + (i : Int)) = ((at_ + i : Nat) : Int) := by rw [wrap64' (by omega) (by omega)]; omega
  have r3 : rdN τ ⟨σ.size, 0, none⟩ 1 = some [.slice a n c] := rdb_of z0 oτ rfl
  simp only [↓eD, eZ, ↓reduceIte, Nat.reduceEqDiff, Nat.reduceAdd, Nat.reduceMul, reduceCtorEq, Nat.reduceLeDiff, Int.reduceLT, Int.reduceLE, Int.reduceToNat, Int.reduceEq, Nat.reduceLT, dl, r3, wa, undef_eq]
  refine appK_at (rbyte_app (k := at_ + i) (h.Old (oT.trans oτ)) (by omega) (by omega)) ?_
  rw [← ap_nil (σ := τ)]
  simp only [↓eD, eZ, ↓reduceIte, Nat.reduceEqDiff, Nat.reduceAdd, Nat.reduceMul, reduceCtorEq, Nat.reduceLeDiff, Int.reduceLT, Int.reduceLE, Int.reduceToNat, Int.reduceEq, Nat.reduceLT, undef_eq]
  have hd : i < (B.drop at_).length := by rw [List.length_drop]; omega
  have ht := List.take_succ_eq_append_getElem hd
  have hv : B.getD (at_ + i) 0 = (B.drop at_)[i] := by
   rw [List.getElem_drop, ← List.getElem_eq_getD (l := B) (i := at_ + i) 0 (h := by omega)]
  obtain ⟨u', τ', ha, A⟩ := append_bytes (new := [B.getD (at_ + i) 0]) (hg.old (Old.ap (l := [.cells 0 [.int .u8 (B.getD (at_ + i) 0)] (0, 0)]))) (by rw [ap_size]; have := oτ.1; omega) (xc_of (by rw [ap_new0]; rfl) rfl) (by rw [hil]; simp; omega)
  refine onV_of ha ?_
  simp only [↓eD, eZ, ↓reduceIte, Nat.reduceEqDiff, Nat.reduceAdd, Nat.reduceMul, reduceCtorEq, Nat.reduceLeDiff, Int.reduceLT, Int.reduceLE, Int.reduceToNat, Int.reduceEq, Nat.reduceLT, hw1, undef_eq]
  refine ⟨hlt, by omega, u', rfl, ?_, ?_⟩
  ·exact A.Old' (hg.old Old.ap) (by omega) (oτ.trans .ap)
  ·rw [ht, ← hv]
   exact A.grown
 have : i = k := by omega
 subst this
 have dl : decide ((i : Int) < (i : Int)) = false := by rw [decide_eq_false]; omega
 rw [hil] at hg
 obtain ⟨ua, uc, rfl⟩ := hg.slice
 obtain ⟨bk, bo, rfl, hr⟩ := grown_str hg hk
 have k1 : wrN τ ⟨σ.size + 1, 0, none⟩ [.string (bytesS ((B.drop at_).take i)), .bool true] = some (τ.setIfInBounds (σ.size + 1) (.cells 1 [.string (bytesS ((B.drop at_).take i)), .bool true] (0, 0))) := by
  rw [wrN_eq, if_neg (by simp), (oτ.2 _ (by omega)).trans z1, wrc_cells, if_pos ⟨by simp, rfl⟩]
  rfl
 have rf := rdN_all (n := 2) (get_set (k := .cells 1 [.string (bytesS ((B.drop at_).take i)), .bool true] (0, 0)) ((oτ.2 _ (by omega)).trans z1)) rfl
 simp only [↓eD, eZ, ↓reduceIte, Nat.reduceEqDiff, Nat.reduceAdd, Nat.reduceMul, reduceCtorEq, Nat.reduceLeDiff, Int.reduceLT, Int.reduceLE, Int.reduceToNat, Int.reduceEq, Nat.reduceLT, dl, hr, Option.bind_some, bytesOf_dig, dig_str7, k1, rf, undef_eq]
 exact ⟨(oT.trans oτ).set (by omega), by simp [flat, flat.flat1]⟩
structure Scan (P : List Int) (i : Nat) (f : Nat) (l : Int) : Prop where
 f0 : f = 128 ∨ (f < i ∧ P.getD f 0 ≠ 0)
 f1 : ∀ j, j < i → j < f → P.getD j 0 = 0
 l0 : (l = -1 ∧ f = 128) ∨ (0 ≤ l ∧ l < i ∧ P.getD l.toNat 0 ≠ 0 ∧ f ≠ 128)
 l1 : ∀ j : Nat, j < i → l < (j : Int) → P.getD j 0 = 0
theorem Scan.zero {P : List Int} : Scan P 0 128 (-1) := ⟨.inl rfl, fun j h => by omega, .inl ⟨rfl, rfl⟩, fun j h => by omega⟩
theorem Scan.skip {P : List Int} {i f : Nat} {l : Int} (h : Scan P i f l) (hz : P.getD i 0 = 0) : Scan P (i + 1) f l := by
 refine ⟨h.f0.imp id fun ⟨a, b⟩ => ⟨by omega, b⟩, fun j h1 h2 => ?_, h.l0.imp id fun ⟨a, b, c⟩ => ⟨a, by omega, c⟩, fun j h1 h2 => ?_⟩
 ·rcases (by omega : j < i ∨ j = i) with h3 | rfl
  ·exact h.f1 j h3 h2
  ·exact hz
 ·rcases (by omega : j < i ∨ j = i) with h3 | rfl
  ·exact h.l1 j h3 h2
  ·exact hz
theorem Scan.hit {P : List Int} {i f : Nat} {l : Int} (h : Scan P i f l) (hi : i < 128) (hz : P.getD i 0 ≠ 0) : Scan P (i + 1) (if i < f then i else f) (i : Int) := by
 refine ⟨?_, fun j h1 h2 => ?_, .inr ⟨by omega, by omega, by simpa using hz, ?_⟩, fun j h1 h2 => by omega⟩
 ·split
  ·exact .inr ⟨by omega, hz⟩
  ·rename_i h9
   exact h.f0.imp id fun ⟨a, b⟩ => ⟨by omega, b⟩
 ·split at h2
  ·exact h.f1 j (by omega) (by omega)
  ·exact h.f1 j (by omega) h2
 ·split
  ·omega
  ·rcases h.f0 with h1 | h1 <;> omega
theorem scan_seg {B : List Int} {n k f : Nat} {l : Int} (hB : B.length = 128 * n) (hk : k < n) (h : Scan (pageB B k) 128 f l) :
  (l = -1 ∧ segK B k = []) ∨ (0 ≤ l ∧ l < 128 ∧ f ≤ l.toNat ∧ segK B k = [⟨((128 * k + f : Nat) : Int), bytesS ((B.drop (128 * k + f)).take (l.toNat - f + 1))⟩]) := by
 have hp := pageB_len hB hk
 rcases segK_cases hB hk with ⟨e, hz⟩ | ⟨z, d, r, e, hd, hl, h0, h1, h2⟩
 ·left
  rcases h.l0 with ⟨h3, _⟩ | ⟨h3, h4, h5, _⟩
  ·exact ⟨h3, e⟩
  ·exfalso
   apply h5
   rw [hz, List.getD_eq_getElem?_getD, List.getElem?_replicate]
   split <;> rfl
 ·right
  have gz : ∀ j, j < z → (pageB B k).getD j 0 = 0 := fun j hj => by
   rw [hd, List.append_assoc, List.getD_eq_getElem?_getD, List.getElem?_append_left (by rw [List.length_replicate]; exact hj), List.getElem?_replicate, if_pos hj]
   rfl
  have gd : ∀ j, ∀ hj : j < d.length, (pageB B k).getD (z + j) 0 = d[j] := fun j hj => by
   rw [hd, List.append_assoc, List.getD_eq_getElem?_getD, List.getElem?_append_right (by rw [List.length_replicate]; omega), List.length_replicate, List.getElem?_append_left (by omega), show z + j - z = j by omega, List.getElem?_eq_getElem hj]
   rfl
  have gr : ∀ j, z + d.length ≤ j → (pageB B k).getD j 0 = 0 := fun j hj => by
   rw [hd, List.getD_eq_getElem?_getD, List.getElem?_append_right (by rw [List.length_append, List.length_replicate]; exact hj), List.getElem?_replicate]
   split <;> rfl
  have hzf : (pageB B k).getD z 0 ≠ 0 := by have := gd 0 h0; rw [Nat.add_zero] at this; rw [this]; exact h1
  have hzl : (pageB B k).getD (z + d.length - 1) 0 ≠ 0 := by have := gd (d.length - 1) (by omega); rw [show z + (d.length - 1) = z + d.length - 1 by omega] at this; rw [this]; exact h2
  have hf : f = z := by
   have a1 : ¬z < f := fun h9 => hzf (h.f1 z (by omega) h9)
   rcases h.f0 with h9 | ⟨h9, h10⟩
   ·omega
   ·have a2 : ¬f < z := fun h11 => h10 (gz f h11)
    omega
  have hll : l = ((z + d.length - 1 : Nat) : Int) := by
   have a1 : ¬l < ((z + d.length - 1 : Nat) : Int) := fun h9 => hzl (h.l1 _ (by omega) h9)
   rcases h.l0 with ⟨h9, _⟩ | ⟨h9, h10, h11, _⟩
   ·omega
   ·have a2 : ¬(z + d.length ≤ l.toNat) := fun h12 => h11 (gr _ h12)
    omega
  subst hf hll
  refine ⟨by omega, by omega, by omega, ?_⟩
  rw [e]
  have hd' : (B.drop (128 * k + f)).take (((f + d.length - 1 : Nat) : Int).toNat - f + 1) = d := by
   have e1 : ((f + d.length - 1 : Nat) : Int).toNat - f + 1 = d.length := by omega
   rw [e1]
   have e2 : ((pageB B k).drop f).take d.length = d := by
    rw [hd, List.append_assoc, List.drop_left' List.length_replicate, List.take_left' rfl]
   have e3 : ((pageB B k).drop f).take d.length = (B.drop (128 * k + f)).take d.length := by
    unfold pageB
    rw [List.drop_take, List.drop_drop, List.take_take, show min d.length (128 - f) = d.length by omega]
   rw [← e3, e2]
  rw [hd']
theorem page_get {B : List Int} {k q : Nat} (hq : q < 128) : (pageB B k).getD q 0 = B.getD (128 * k + q) 0 := by
 unfold pageB
 rw [List.getD_eq_getElem?_getD, List.getElem?_take, if_pos hq, List.getElem?_drop, ← List.getD_eq_getElem?_getD]
theorem rof_app {σ : H} {v u : Value} {n : Nat} {B : List Int} {e : Int} {D : List (List Int)} (h : MemV σ v n B) (hd : PagesR σ u D) (he : I64 e) (hn : n ≤ 80) (hD : D.length ≤ 80) :
  App Tryd.prog (.func 25) #[] #[.agg #[v], .int .i64 e, u] σ fun w σ' => Old σ σ' ∧ ∃ a1 b1 a2 b2, w = .agg #[.int .i64 (ofI n B e D).e, .int .i64 (ofI n B e D).p, .slice a1 (ofI n B e D).S.length b1, .slice a2 (ofI n B e D).D.length b2, .int .i64 (ofE n e D.length)] ∧ ImgR σ' [.int .i64 (ofI n B e D).e, .int .i64 (ofI n B e D).p, .slice a1 (ofI n B e D).S.length b1, .slice a2 (ofI n B e D).D.length b2] (ofI n B e D) a1 b1 a2 b2 := by
 refine App.of_sem mixed Tryd.func25 t25 k25 r25 (Nat.le_of_ble_eq_true rfl) ?_
 obtain ⟨a, c, rfl⟩ := h.w.slice
 obtain ⟨da, dc, rfl⟩ := hd.w.slice
 rw [← ap_nil (σ := σ)]
 unfold s25
 simp only [↓eD, eZ, ↓reduceIte, Nat.reduceEqDiff, Nat.reduceAdd, Nat.reduceMul, reduceCtorEq, Nat.reduceLeDiff, Int.reduceLT, Int.reduceLE, Int.reduceToNat, Int.reduceEq, Nat.reduceLT, undef_eq]
 refine appK_at rvalid_app ?_
 have bad : ∀ (z : Int) (θ : H), ofE n e D.length = z → z ≠ 0 → Old σ θ → Old σ θ ∧ ∃ a1 b1 a2 b2, Value.agg #[.int .i64 0, .int .i64 0, .slice none 0 0, .slice none 0 0, .int .i64 z] = .agg #[.int .i64 (ofI n B e D).e, .int .i64 (ofI n B e D).p, .slice a1 (ofI n B e D).S.length b1, .slice a2 (ofI n B e D).D.length b2, .int .i64 (ofE n e D.length)] ∧ ImgR θ [.int .i64 (ofI n B e D).e, .int .i64 (ofI n B e D).p, .slice a1 (ofI n B e D).S.length b1, .slice a2 (ofI n B e D).D.length b2] (ofI n B e D) a1 b1 a2 b2 := by
  intro z θ hz h0 ho
  have hI : ofI n B e D = ⟨0, 0, [], []⟩ := if_neg (by rw [hz]; exact h0)
  rw [hI, hz]
  exact ⟨ho, none, 0, none, 0, rfl, img0_R⟩
 by_cases g1 : 1 ≤ n ∧ n ≤ 64
 case neg =>
  have d1 : decide (1 ≤ n ∧ n ≤ 64) = false := decide_eq_false g1
  have f : ofE n e D.length = 1 := if_pos (by omega)
  simp only [↓eD, eZ, ↓reduceIte, Nat.reduceEqDiff, Nat.reduceAdd, Nat.reduceMul, reduceCtorEq, Nat.reduceLeDiff, Int.reduceLT, Int.reduceLE, Int.reduceToNat, Int.reduceEq, Nat.reduceLT, d1, Bool.not_false, undef_eq]
  rw [ap_nil]
  exact bad 1 _ f (by omega) .ap
 have d1 : decide (1 ≤ n ∧ n ≤ 64) = true := decide_eq_true g1
 simp only [↓eD, eZ, ↓reduceIte, Nat.reduceEqDiff, Nat.reduceAdd, Nat.reduceMul, reduceCtorEq, Nat.reduceLeDiff, Int.reduceLT, Int.reduceLE, Int.reduceToNat, Int.reduceEq, Nat.reduceLT, d1, Bool.not_true, undef_eq]
 refine appK_at (rent_app (by omega) (by omega)) ?_
 cases g2 : entF e n with
 |false =>
  have f : ofE n e D.length = 7 := by unfold ofE; rw [if_neg (by omega), if_pos g2]
  simp only [↓eD, eZ, ↓reduceIte, Nat.reduceEqDiff, Nat.reduceAdd, Nat.reduceMul, reduceCtorEq, Nat.reduceLeDiff, Int.reduceLT, Int.reduceLE, Int.reduceToNat, Int.reduceEq, Nat.reduceLT, Bool.not_false, undef_eq]
  rw [ap_nil]
  exact bad 7 _ f (by omega) .ap
 |true =>
 simp only [↓eD, eZ, ↓reduceIte, Nat.reduceEqDiff, Nat.reduceAdd, Nat.reduceMul, reduceCtorEq, Nat.reduceLeDiff, Int.reduceLT, Int.reduceLE, Int.reduceToNat, Int.reduceEq, Nat.reduceLT, Bool.not_true, undef_eq]
 obtain ⟨T, hT⟩ : ∃ T, T = ap σ [.cells 0 [.slice a n c] (0, 0), .cells 0 [.int .i64 0, .int .i64 0, .slice none 0 0, .slice none 0 0, .int .i64 0] (0, 0), .cells 0 [] (0, 0), .cells 0 [.int .i64 0, .int .i64 0, .slice none 0 0, .slice none 0 0] (0, 0)] := ⟨_, rfl⟩
 rw [← hT]
 have oT : Old σ T := by rw [hT]; exact .ap
 have sT : T.size = σ.size + 4 := by rw [hT]; simp [ap_size]
 have z0 : T[σ.size]? = some (.cells 0 [.slice a n c] (0, 0)) := by rw [hT, ap_new0]; rfl
 have z1 : T[σ.size + 1]? = some (.cells 0 [.int .i64 0, .int .i64 0, .slice none 0 0, .slice none 0 0, .int .i64 0] (0, 0)) := by rw [hT, ap_new]; rfl
 have z2 : T[σ.size + 2]? = some (.cells 0 [] (0, 0)) := by rw [hT, ap_new]; rfl
 have z3 : T[σ.size + 3]? = some (.cells 0 [.int .i64 0, .int .i64 0, .slice none 0 0, .slice none 0 0] (0, 0)) := by rw [hT, ap_new]; rfl
 clear hT
 have g0 : Grown (sized (σ.size + 2)) T 128 (.slice (some ⟨σ.size + 2, 0, none⟩) 0 0) [] 0 := Grown.lit (ver := 0) rfl (by decide) (by rw [sized_size]; omega) z2
 have hDl : (D.map digC).flatten.length = D.length * 128 := by rw [flatten_length (pages_rows hd.d), List.length_map]
 obtain ⟨w, S1, ha, A⟩ := append_grown (bytes := 128) g0 (by omega) (by rw [sized_size]; omega) (hd.w.Old oT).x hDl pages_ones (by omega) (by omega)
 refine onV_of ha ?_
 have hgw := A.grown
 rw [List.nil_append, Nat.zero_add] at hgw
 have fr : ∀ q k, T[q]? = some k → q ≠ σ.size + 2 → S1[q]? = some k := fun q k h1 h2 => A.frame q k h1 fun h3 => h2 (by have h9 : some (σ.size + 2) = some q := h3; injection h9 with h9; omega)
 have oS1 : Old σ S1 := by
  refine ⟨by have := A.size; omega, fun q hq => ?_⟩
  have hlt : q < T.size := by omega
  rw [← oT.2 q hq, Array.getElem?_eq_getElem hlt]
  exact fr q _ (Array.getElem?_eq_getElem hlt) (by omega)
 obtain ⟨wa, wc, rfl⟩ := hgw.slice
 have hwb : ∀ q, baseOf (.slice wa D.length wc) = some q → q = σ.size + 2 ∨ σ.size + 4 ≤ q := fun q hq => by
  rcases A.base with h1 | h1
  ·rw [h1] at hq
   have h9 : some (σ.size + 2) = some q := hq
   injection h9 with h9
   omega
  ·rw [h1] at hq
   injection hq with hq
   omega
 have z1' := fr _ _ z1 (by omega)
 have z3' := fr _ _ z3 (by omega)
 have z0' := fr _ _ z0 (by omega)
 have sS1 : σ.size + 4 ≤ S1.size := by have := A.size; omega
 clear A ha g0
 have k3 : wrN S1 ⟨σ.size + 3, 0, none⟩ [.int .i64 e, .int .i64 (n : Int), .slice none 0 0, .slice wa D.length wc] = some (S1.setIfInBounds (σ.size + 3) (.cells 1 [.int .i64 e, .int .i64 (n : Int), .slice none 0 0, .slice wa D.length wc] (0, 0))) := by
  rw [wrN_eq, if_neg (by simp), z3', wrc_cells, if_pos ⟨by simp, rfl⟩]
  rfl
 have y0 : rd1 S1 ⟨σ.size, 0, none⟩ = some (.slice a n c) := rd1_of z0' Old.refl (k := 0) rfl
 simp only [↓eD, eZ, ↓reduceIte, Nat.reduceEqDiff, Nat.reduceAdd, Nat.reduceMul, reduceCtorEq, Nat.reduceLeDiff, Int.reduceLT, Int.reduceLE, Int.reduceToNat, Int.reduceEq, Nat.reduceLT, y0, k3, undef_eq]
 obtain ⟨S, hS⟩ : ∃ S, S = S1.setIfInBounds (σ.size + 3) (.cells 1 [.int .i64 e, .int .i64 (n : Int), .slice none 0 0, .slice wa D.length wc] (0, 0)) := ⟨_, rfl⟩
 rw [← hS]
 have sS : S.size = S1.size := by rw [hS]; simp
 have fS : ∀ q, q ≠ σ.size + 3 → S[q]? = S1[q]? := fun q h1 => by rw [hS]; exact get_set_ne (Ne.symm h1)
 have x3 : S[σ.size + 3]? = some (.cells 1 [.int .i64 e, .int .i64 (n : Int), .slice none 0 0, .slice wa D.length wc] (0, 0)) := by rw [hS]; exact get_set z3'
 have x0 : S[σ.size]? = some (.cells 0 [.slice a n c] (0, 0)) := (fS _ (by omega)).trans z0'
 have x1 : S[σ.size + 1]? = some (.cells 0 [.int .i64 0, .int .i64 0, .slice none 0 0, .slice none 0 0, .int .i64 0] (0, 0)) := (fS _ (by omega)).trans z1'
 have oS : Old σ S := ⟨by omega, fun q hq => (fS q (by omega)).trans (oS1.2 q hq)⟩
 have wS : Whl S 128 (.slice wa D.length wc) D.length (D.map digC).flatten := Whl.oldB hgw.whl (fun q hq => by have := hwb q hq; omega) ⟨by omega, fun q h1 h2 => fS q h2⟩ (by omega)
 have cS : CapOk 128 (.slice wa D.length wc) := hgw.cap
 clear hS k3
 have hBl := h.l
 refine loop_for (J := fun i e' τ => i ≤ n ∧ ∃ s ver, e' = [(2, .slice da D.length dc), (3, .pointer (some ⟨σ.size, 0, none⟩)), (6, .pointer (some ⟨σ.size + 1, 0, none⟩)), (7, .pointer (some ⟨σ.size + 3, 0, none⟩)), (8, .int .i64 (i : Int))] ∧ OldB (σ.size + 3) S τ ∧ τ[σ.size + 3]? = some (.cells ver [.int .i64 e, .int .i64 (n : Int), s, .slice wa D.length wc] (0, 0)) ∧ Grown S τ 2 s ((memSegs B i).map segV).flatten ((memSegs B i).map segV).length) n
  ⟨by omega, _, 1, rfl, ⟨Nat.le_refl _, fun q _ _ => rfl⟩, x3, by simpa [memSegs] using Grown.nil⟩ ?_
 rintro i e' τ hi ⟨_, s, ver, rfl, oτ, bτ, hg⟩
 have y0 : τ[σ.size]? = some (.cells 0 [.slice a n c] (0, 0)) := (oτ.2 _ (by omega) (by omega)).trans x0
 have sτ := oτ.1
 have oστ : Old σ τ := oτ.old oS (by omega)
 have gm : ∀ M, rd1 (ap τ M) ⟨σ.size, 0, none⟩ = some (.slice a n c) := fun M => rd1_of y0 .ap rfl
 have nMS := memSegs_len (B := B) (n := i)
 rw [← ap_nil (σ := τ)]
 by_cases hlt : i < n
 ·have dl : decide ((i : Int) < (n : Int)) = true := by rw [decide_eq_true]; omega
  have hbd : (0:Int) ≤ (i:Int) ∧ (i:Int) < (n : Int) := by omega
  have hw1 : IntKind.wrap .i64 ((i:Int) + 1) = ((i + 1 : Nat) : Int) := by rw [wrap64' (by omega) (by omega)]; omega
  simp only [↓eD, eZ, ↓reduceIte, Nat.reduceEqDiff, Nat.reduceAdd, Nat.reduceMul, reduceCtorEq, Nat.reduceLeDiff, Int.reduceLT, Int.reduceLE, Int.reduceToNat, Int.reduceEq, Nat.reduceLT, dl, gm, undef_eq]
  refine loop_for (J := fun q e2 θ => q ≤ 128 ∧ ∃ (f : Nat) (l : Int), e2 = [(2, .slice da D.length dc), (3, .pointer (some ⟨σ.size, 0, none⟩)), (6, .pointer (some ⟨σ.size + 1, 0, none⟩)), (7, .pointer (some ⟨σ.size + 3, 0, none⟩)), (8, .int .i64 (i : Int)), (9, .int .i64 (f : Int)), (10, .int .i64 l), (11, .int .i64 (q : Int))] ∧ θ = τ ∧ Scan (pageB B i) q f l) 128
   ⟨by omega, 128, -1, rfl, ap_nil, .zero⟩ ?_
  rintro q e2 θ hq ⟨_, f, l, rfl, rfl, hsc⟩
  have gθ : rd1 θ ⟨σ.size, 0, none⟩ = some (.slice a n c) := rd1_of y0 Old.refl (k := 0) rfl
  have hMθ := h.Old oστ
  obtain ⟨bk, bo, rfl, _⟩ := hMθ.w.at (by omega)
  by_cases hq1 : q < 128
  ·have dq : decide ((q : Int) < 128) = true := by rw [decide_eq_true]; omega
   have hqb : (0:Int) ≤ (q:Int) ∧ (q:Int) < ((128 : Nat) : Int) := by omega
   have hwq : IntKind.wrap .i64 ((q:Int) + 1) = ((q + 1 : Nat) : Int) := by rw [wrap64' (by omega) (by omega)]; omega
   have hr : rd1 θ ⟨bk, bo + i * 128 + q, none⟩ = some (.int .u8 ((pageB B i).getD q 0)) := by
    have := hMθ.byte (k := 128 * i + q) (by omega)
    rw [show bo + i * 128 + q = bo + (128 * i + q) by omega, page_get hq1]
    exact this
   by_cases hz : (pageB B i).getD q 0 = 0
   ·have dz : decide ((pageB B i).getD q 0 = 0) = true := decide_eq_true hz
    simp only [↓eD, eZ, ↓reduceIte, Nat.reduceEqDiff, Nat.reduceAdd, Nat.reduceMul, reduceCtorEq, Nat.reduceLeDiff, Int.reduceLT, Int.reduceLE, Int.reduceToNat, Int.reduceEq, Nat.reduceLT, dq, gθ, hbd, hqb, Int.toNat_natCast, hr, dz, hwq, undef_eq]
    exact ⟨hq1, by omega, f, l, rfl, hsc.skip hz⟩
   ·have dz : decide ((pageB B i).getD q 0 = 0) = false := decide_eq_false hz
    have mm : (if (q : Int) < (f : Int) then (q : Int) else (f : Int)) = ((if q < f then q else f : Nat) : Int) := by
     by_cases h9 : q < f
     ·rw [if_pos h9, if_pos (by omega)]
     ·rw [if_neg h9, if_neg (by omega)]
    simp only [↓eD, eZ, ↓reduceIte, Nat.reduceEqDiff, Nat.reduceAdd, Nat.reduceMul, reduceCtorEq, Nat.reduceLeDiff, Int.reduceLT, Int.reduceLE, Int.reduceToNat, Int.reduceEq, Nat.reduceLT, dq, gθ, hbd, hqb, Int.toNat_natCast, hr, dz, mm, hwq, undef_eq]
    exact ⟨hq1, by omega, _, _, rfl, hsc.hit hq1 hz⟩
  have : q = 128 := by omega
  subst this
  have dq : decide (((128 : Nat) : Int) < 128) = false := rfl
  rcases scan_seg hBl hlt hsc with ⟨rfl, hk⟩ | ⟨hl0, hl1, hfl, hk⟩
  ·have dn : decide ((0 : Int) ≤ -1) = false := rfl
   simp only [↓eD, eZ, ↓reduceIte, Nat.reduceEqDiff, Nat.reduceAdd, Nat.reduceMul, reduceCtorEq, Nat.reduceLeDiff, Int.reduceLT, Int.reduceLE, Int.reduceToNat, Int.reduceEq, Nat.reduceLT, dq, dn, hw1, undef_eq]
   refine ⟨hlt, by omega, s, ver, oτ, bτ, ?_⟩
   rw [memSegs_succ, hk, List.append_nil]
   exact hg
  ·have dn : decide ((0 : Int) ≤ l) = true := decide_eq_true hl0
   obtain ⟨L, rfl⟩ : ∃ L : Nat, l = (L : Int) := ⟨l.toNat, by omega⟩
   rw [Int.toNat_natCast] at hfl hk
   have w1 : IntKind.wrap .i64 ((i : Int) * 128) = ((128 * i : Nat) : Int) := by rw [wrap64' (by omega) (by omega)]; omega
   have w2 : IntKind.wrap .i64 (((128 * i : Nat) : Int) + (f : Int)) = ((128 * i + f : Nat) : Int) := by rw [wrap64' (by omega) (by omega)]; omega
   have w3 : IntKind.wrap .i64 ((L : Int) - (f : Int)) = ((L - f : Nat) : Int) := by rw [wrap64' (by omega) (by omega)]; omega
   have w4 : IntKind.wrap .i64 (((L - f : Nat) : Int) + 1) = ((L - f + 1 : Nat) : Int) := by rw [wrap64' (by omega) (by omega)]; omega
   have rb : rdN θ ⟨σ.size, 0, none⟩ 1 = some [.slice (some ⟨bk, bo, none⟩) n c] := rdb_of y0 Old.refl rfl
   simp only [↓eD, eZ, ↓reduceIte, Nat.reduceEqDiff, Nat.reduceAdd, Nat.reduceMul, reduceCtorEq, Nat.reduceLeDiff, Int.reduceLT, Int.reduceLE, Int.reduceToNat, Int.reduceEq, Nat.reduceLT, dq, dn, rb, w1, w2, w3, w4, undef_eq]
   refine appK_at (rread_app (k := L - f + 1) hMθ g1.2 (by omega) (by omega)) ?_
   obtain ⟨d, hdd⟩ : ∃ d, d = bytesS ((B.drop (128 * i + f)).take (L - f + 1)) := ⟨_, rfl⟩
   rw [← hdd] at hk ⊢
   rw [← ap_nil (σ := θ)]
   have r2 : ∀ M, rd1 (ap θ M) ⟨σ.size + 3, 2, none⟩ = some s := fun M => rd1_of bτ .ap rfl
   simp only [↓eD, eZ, ↓reduceIte, Nat.reduceEqDiff, Nat.reduceAdd, Nat.reduceMul, reduceCtorEq, Nat.reduceLeDiff, Int.reduceLT, Int.reduceLE, Int.reduceToNat, Int.reduceEq, Nat.reduceLT, w1, w2, r2, undef_eq]
   obtain ⟨T2, hT2⟩ : ∃ T2, T2 = ap θ [.cells 1 [.string d, .bool true] (0, 0), .cells 0 [.int .i64 ((128 * i + f : Nat) : Int), .string d] (0, 0)] := ⟨_, rfl⟩
   rw [← hT2]
   have oT2 : Old θ T2 := by rw [hT2]; exact .ap
   have t1 : T2[θ.size + 1]? = some (.cells 0 [.int .i64 ((128 * i + f : Nat) : Int), .string d] (0, 0)) := by rw [hT2, ap_new]; rfl
   have sT2 : T2.size = θ.size + 2 := by rw [hT2]; simp [ap_size]
   clear hT2
   have hxc : xcells T2 2 (.slice (some ⟨θ.size + 1, 0, none⟩) 1 1) = some (1, [.int .i64 ((128 * i + f : Nat) : Int), .string d]) :=
    (Grown.lit (σ0 := θ) (s := 2) (n := 1) (ver := 0) rfl (by decide) (by omega) t1).whl.x
   have hml : ((memSegs B i).map segV).length ≤ 64 := by rw [List.length_map]; omega
   obtain ⟨s2, T3, ha, A⟩ := append_grown (bytes := 24) (hg.old oT2) (by omega) (by omega) hxc rfl rfl (by omega) (by omega)
   refine onV_of ha ?_
   obtain ⟨u1, u2, rfl⟩ := A.grown.slice
   have b3 := A.low (hg.old oT2) (c := σ.size + 3) (by omega) ((oT2.2 _ (by omega)).trans bτ)
   have k9 : wrN T3 ⟨σ.size + 3, 2, none⟩ [.slice u1 (((memSegs B i).map segV).length + 1) u2] = some (T3.setIfInBounds (σ.size + 3) (.cells (ver + 1) [.int .i64 e, .int .i64 (n : Int), .slice u1 (((memSegs B i).map segV).length + 1) u2, .slice wa D.length wc] (0, 0))) := by
    rw [wrN_eq, if_neg (by simp), b3, wrc_cells, if_pos ⟨by simp, rfl⟩]
    rfl
   simp only [↓eD, eZ, ↓reduceIte, Nat.reduceEqDiff, Nat.reduceAdd, Nat.reduceMul, reduceCtorEq, Nat.reduceLeDiff, Int.reduceLT, Int.reduceLE, Int.reduceToNat, Int.reduceEq, Nat.reduceLT, k9, hw1, undef_eq]
   have hrow : ((memSegs B (i + 1)).map segV).flatten = ((memSegs B i).map segV).flatten ++ [.int .i64 ((128 * i + f : Nat) : Int), .string d] := by
    rw [memSegs_succ, hk, List.map_append, List.flatten_append]
    rfl
   have hlen : ((memSegs B (i + 1)).map segV).length = ((memSegs B i).map segV).length + 1 := by
    rw [memSegs_succ, hk, List.map_append, List.length_append]
    rfl
   have sA := A.size
   refine ⟨hlt, by omega, _, ver + 1, ⟨?_, fun q h1 h2 => ?_⟩, get_set b3, ?_⟩
   ·rw [Array.size_setIfInBounds]; omega
   ·have h4 : S[q]? = some S[q] := Array.getElem?_eq_getElem h1
    rw [get_set_ne (Ne.symm h2), h4]
    exact A.low (hg.old oT2) h1 ((oT2.2 _ (by omega)).trans ((oτ.2 q h1 h2).trans h4))
   ·rw [hrow, hlen]
    exact A.grown.set (by omega)
 have : i = n := by omega
 subst this
 have dl : decide ((i : Int) < (i : Int)) = false := by rw [decide_eq_false]; omega
 rw [ap_nil]
 have gm' := gm []
 rw [ap_nil] at gm'
 simp only [↓eD, eZ, ↓reduceIte, Nat.reduceEqDiff, Nat.reduceAdd, Nat.reduceMul, reduceCtorEq, Nat.reduceLeDiff, Int.reduceLT, Int.reduceLE, Int.reduceToNat, Int.reduceEq, Nat.reduceLT, dl, gm', undef_eq]
 have oF : ∀ M k, Old σ ((ap τ M).setIfInBounds (σ.size + 1) k) := fun M k => (oστ.trans .ap).set (by omega)
 have y1 : ∀ M, (ap τ M)[σ.size + 1]? = some (.cells 0 [.int .i64 0, .int .i64 0, .slice none 0 0, .slice none 0 0, .int .i64 0] (0, 0)) := fun M => (ap_old (by omega)).trans ((oτ.2 _ (by omega) (by omega)).trans x1)
 have y1' := y1 []
 rw [ap_nil] at y1'
 by_cases g3 : 64 < D.length
 ·have d3 : decide ((64 : Int) < (D.length : Int)) = true := by rw [decide_eq_true]; omega
  have f : ofE i e D.length = 2 := by unfold ofE; rw [if_neg (by omega), g2, if_neg (by simp), if_pos g3]
  have k1 : wrN τ ⟨σ.size + 1, 0, none⟩ [.int .i64 0, .int .i64 0, .slice none 0 0, .slice none 0 0, .int .i64 2] = some (τ.setIfInBounds (σ.size + 1) (.cells 1 [.int .i64 0, .int .i64 0, .slice none 0 0, .slice none 0 0, .int .i64 2] (0, 0))) := by
   rw [wrN_eq, if_neg (by simp), y1', wrc_cells, if_pos ⟨by simp, rfl⟩]
   rfl
  have rf := rdN_all (n := 5) (get_set (k := .cells 1 [.int .i64 0, .int .i64 0, .slice none 0 0, .slice none 0 0, .int .i64 2] (0, 0)) y1') rfl
  simp only [↓eD, eZ, ↓reduceIte, Nat.reduceEqDiff, Nat.reduceAdd, Nat.reduceMul, reduceCtorEq, Nat.reduceLeDiff, Int.reduceLT, Int.reduceLE, Int.reduceToNat, Int.reduceEq, Nat.reduceLT, d3, k1, rf, undef_eq]
  exact bad 2 _ f (by omega) (oστ.set (by omega))
 have d3 : decide ((64 : Int) < (D.length : Int)) = false := by rw [decide_eq_false]; omega
 have f : ofE i e D.length = 0 := by unfold ofE; rw [if_neg (by omega), g2, if_neg (by simp), if_neg g3]
 have hI : ofI i B e D = ⟨e, i, memSegs B i, D⟩ := if_pos f
 obtain ⟨sa, sc, rfl⟩ := hg.slice
 rw [List.length_map] at bτ hg
 have r7 := rdN_all (n := 4) bτ rfl
 have k1 : wrN τ ⟨σ.size + 1, 0, none⟩ [.int .i64 e, .int .i64 (i : Int), .slice sa (memSegs B i).length sc, .slice wa D.length wc, .int .i64 0] = some (τ.setIfInBounds (σ.size + 1) (.cells 1 [.int .i64 e, .int .i64 (i : Int), .slice sa (memSegs B i).length sc, .slice wa D.length wc, .int .i64 0] (0, 0))) := by
  rw [wrN_eq, if_neg (by simp), y1', wrc_cells, if_pos ⟨by simp, rfl⟩]
  rfl
 have rf := rdN_all (n := 5) (get_set (k := .cells 1 [.int .i64 e, .int .i64 (i : Int), .slice sa (memSegs B i).length sc, .slice wa D.length wc, .int .i64 0] (0, 0)) y1') rfl
 simp only [↓eD, eZ, ↓reduceIte, Nat.reduceEqDiff, Nat.reduceAdd, Nat.reduceMul, reduceCtorEq, Nat.reduceLeDiff, Int.reduceLT, Int.reduceLE, Int.reduceToNat, Int.reduceEq, Nat.reduceLT, d3, r7, k1, rf, undef_eq]
 rw [hI, f, ap_nil]
 have hgD : Grown (sized (σ.size + 2)) (τ.setIfInBounds (σ.size + 1) (.cells 1 [.int .i64 e, .int .i64 (i : Int), .slice sa (memSegs B i).length sc, .slice wa D.length wc, .int .i64 0] (0, 0))) 128 (.slice wa D.length wc) (D.map digC).flatten (D.map digC).length := by
  rw [List.length_map]
  refine hgw.keep fun q k h1 h2 => ?_
  have h3 := hwb q h1
  have h4 := (Array.getElem?_eq_some_iff.1 h2).1
  rw [get_set_ne (by omega), oτ.2 q (by omega) (by omega), fS q (by omega)]
  exact h2
 have hgS := hg.set (b := σ.size + 1) (k := .cells 1 [.int .i64 e, .int .i64 (i : Int), .slice sa (memSegs B i).length sc, .slice wa D.length wc, .int .i64 0] (0, 0)) (by omega)
 have hgS' : Grown S (τ.setIfInBounds (σ.size + 1) (.cells 1 [.int .i64 e, .int .i64 (i : Int), .slice sa (memSegs B i).length sc, .slice wa D.length wc, .int .i64 0] (0, 0))) 2 (.slice sa (memSegs B i).length sc) ((memSegs B i).map segV).flatten ((memSegs B i).map segV).length := by rw [List.length_map]; exact hgS
 have hok := memSegs_ok (n := i) hBl g1.2 h.b
 exact ⟨oστ.set (by omega), sa, sc, wa, wc, rfl, rfl, hgS'.Row segV_rows, hgD.Row (pages_rows hd.d), hd.d, hgS.cap, cS, he, (by unfold I64; dsimp only; omega), (fun s hs => ⟨(hok s hs).1, by have := (hok s hs).2; omega⟩), (by dsimp only; omega), (by dsimp only; omega)⟩
def z5 : List Value := [.int .i64 0, .int .i64 0, .slice none 0 0, .slice none 0 0, .int .i64 0]
theorem ret5 {θ : H} {b : Nat} {e p z : Int} {a1 a2 : Option Addr} {n1 n2 c1 c2 : Nat} (h : θ[b]? = some (.cells 0 z5 (0, 0))) : wrN θ ⟨b, 0, none⟩ [.int .i64 e, .int .i64 p, .slice a1 n1 c1, .slice a2 n2 c2, .int .i64 z] = some (θ.setIfInBounds b (.cells 1 [.int .i64 e, .int .i64 p, .slice a1 n1 c1, .slice a2 n2 c2, .int .i64 z] (0, 0))) := by
 rw [wrN_eq, if_neg (by simp), h, wrc_cells, if_pos ⟨by simp [z5], rfl⟩]
 rfl
theorem bad5 {σ θ : H} {b : List Int} {e : Int} (ho : Old σ θ) (hf : decI b = (zeroI, e)) : Old σ θ ∧ ∃ a1 b1 a2 b2, Value.agg #[.int .i64 0, .int .i64 0, .slice none 0 0, .slice none 0 0, .int .i64 e] = .agg #[.int .i64 (decI b).1.e, .int .i64 (decI b).1.p, .slice a1 (decI b).1.S.length b1, .slice a2 (decI b).1.D.length b2, .int .i64 (decI b).2] ∧ ImgR θ [.int .i64 (decI b).1.e, .int .i64 (decI b).1.p, .slice a1 (decI b).1.S.length b1, .slice a2 (decI b).1.D.length b2] (decI b).1 a1 b1 a2 b2 := by
 rw [hf]
 exact ⟨ho, none, 0, none, 0, rfl, zeroI_R⟩
theorem rdecI_app {σ : H} {sl : Value} {b : List Int} (hw : Whl σ 1 sl b.length (digC b)) (hb : Byt b) (hl : b.length < 1000000) :
  App Tryd.prog (.func 26) #[] #[sl] σ fun v σ' => Old σ σ' ∧ ∃ a1 b1 a2 b2, v = .agg #[.int .i64 (decI b).1.e, .int .i64 (decI b).1.p, .slice a1 (decI b).1.S.length b1, .slice a2 (decI b).1.D.length b2, .int .i64 (decI b).2] ∧ ImgR σ' [.int .i64 (decI b).1.e, .int .i64 (decI b).1.p, .slice a1 (decI b).1.S.length b1, .slice a2 (decI b).1.D.length b2] (decI b).1 a1 b1 a2 b2 := by
 refine App.of_sem mixed Tryd.func26 t26 k26 r26 (Nat.le_of_ble_eq_true rfl) ?_
 obtain ⟨a, c, rfl⟩ := hw.slice
 rw [← ap_nil (σ := σ)]
 unfold s26
 simp only [↓eD, eZ, ↓reduceIte, Nat.reduceEqDiff, Nat.reduceAdd, Nat.reduceMul, reduceCtorEq, Nat.reduceLeDiff, Int.reduceLT, Int.reduceLE, Int.reduceToNat, Int.reduceEq, Nat.reduceLT, undef_eq]
 obtain ⟨T1, hT1⟩ : ∃ T1, T1 = ap σ [.cells 0 [.int .i64 0, .int .i64 0, .slice none 0 0, .slice none 0 0, .int .i64 0] (0, 0)] := ⟨_, rfl⟩
 rw [← hT1]
 have oT1 : Old σ T1 := by rw [hT1]; exact .ap
 have sT1 : T1.size = σ.size + 1 := by rw [hT1]; simp [ap_size]
 have z0 : T1[σ.size]? = some (.cells 0 z5 (0, 0)) := by rw [hT1, ap_new0]; rfl
 clear hT1
 refine appK_of (rget_ints_app (hw.Old oT1) hb (by omega)) ?_
 rintro v θ1 ⟨ho1, xv, rfl, gX⟩
 generalize hX : listF getF 1 b = X at gX ⊢
 obtain ⟨x, n, e⟩ := X
 dsimp only at gX ⊢
 have oθ1 : Old σ θ1 := oT1.trans ho1
 have y0 : θ1[σ.size]? = some (.cells 0 z5 (0, 0)) := (ho1.2 _ (by omega)).trans z0
 by_cases he : e = 0
 case neg =>
  have de : decide (e = 0) = false := decide_eq_false he
  have hf : decI b = (zeroI, e) := by unfold decI; rw [hX]; exact if_pos he
  have kb := ret5 (e := 0) (p := 0) (z := e) (a1 := none) (a2 := none) (n1 := 0) (n2 := 0) (c1 := 0) (c2 := 0) y0
  have rb := rdN_all (n := 5) (get_set (k := .cells 1 [.int .i64 0, .int .i64 0, .slice none 0 0, .slice none 0 0, .int .i64 e] (0, 0)) y0) rfl
  simp only [↓eD, eZ, ↓reduceIte, Nat.reduceEqDiff, Nat.reduceAdd, Nat.reduceMul, reduceCtorEq, Nat.reduceLeDiff, Int.reduceLT, Int.reduceLE, Int.reduceToNat, Int.reduceEq, Nat.reduceLT, de, kb, rb, Bool.not_false, undef_eq]
  rw [ap_nil]
  exact bad5 (oθ1.set (Nat.le_refl _)) hf
 subst he
 have de : decide ((0 : Int) = 0) = true := rfl
 obtain ⟨i1, i2, i3⟩ := listF_read int_one hb hX
 have wx := gX.whl
 obtain ⟨xa, xc, rfl⟩ := gX.slice
 have hb2 : Byt (b.drop n) := byt_drop hb
 have hbl2 : (b.drop n).length = b.length - n := List.length_drop
 obtain ⟨v2, hs2, hw2, hbase2⟩ := whl_suf (lo := n) (hw.Old oθ1) i3
 rw [Nat.mul_one] at hw2
 have hdg : (digC b).drop n = digC (b.drop n) := by unfold digC; rw [List.map_drop]
 rw [hdg, ← hbl2] at hw2
 simp only [↓eD, eZ, ↓reduceIte, Nat.reduceEqDiff, Nat.reduceAdd, Nat.reduceMul, reduceCtorEq, Nat.reduceLeDiff, Int.reduceLT, Int.reduceLE, Int.reduceToNat, Int.reduceEq, Nat.reduceLT, de, hs2, undef_eq]
 refine appK_of (rget_strs_app hw2 hb2 (by omega)) ?_
 rintro v θ2 ⟨ho2, tv, rfl, gT⟩
 generalize hY : listF bytF 1 (b.drop n) = Y at gT ⊢
 obtain ⟨D, m, f⟩ := Y
 dsimp only at gT ⊢
 have oθ2 : Old σ θ2 := oθ1.trans ho2
 have w0 : θ2[σ.size]? = some (.cells 0 z5 (0, 0)) := (ho2.2 _ (Array.getElem?_eq_some_iff.1 y0).1).trans y0
 by_cases hf0 : f = 0
 case neg =>
  have df : decide (f = 0) = false := decide_eq_false hf0
  have hf : decI b = (zeroI, f) := by unfold decI; rw [hX]; dsimp only; rw [hY]; rw [if_neg (fun h => h rfl)]; exact if_pos hf0
  have kb := ret5 (e := 0) (p := 0) (z := f) (a1 := none) (a2 := none) (n1 := 0) (n2 := 0) (c1 := 0) (c2 := 0) w0
  have rb := rdN_all (n := 5) (get_set (k := .cells 1 [.int .i64 0, .int .i64 0, .slice none 0 0, .slice none 0 0, .int .i64 f] (0, 0)) w0) rfl
  simp only [↓eD, eZ, ↓reduceIte, Nat.reduceEqDiff, Nat.reduceAdd, Nat.reduceMul, reduceCtorEq, Nat.reduceLeDiff, Int.reduceLT, Int.reduceLE, Int.reduceToNat, Int.reduceEq, Nat.reduceLT, df, kb, rb, Bool.not_false, undef_eq]
  rw [ap_nil]
  exact bad5 (oθ2.set (Nat.le_refl _)) hf
 subst hf0
 obtain ⟨s1, _, s3⟩ := listF_read str_one hb2 hY
 have kb := ret5 (e := 0) (p := 0) (z := 11) (a1 := none) (a2 := none) (n1 := 0) (n2 := 0) (c1 := 0) (c2 := 0) w0
 have rb := rdN_all (n := 5) (get_set (k := .cells 1 [.int .i64 0, .int .i64 0, .slice none 0 0, .slice none 0 0, .int .i64 11] (0, 0)) w0) rfl
 have hu2 : decI b = if n + m ≠ b.length ∨ formI x D = false then (zeroI, 11) else decT x D := by unfold decI; rw [hX]; dsimp only; rw [hY]; dsimp only; rw [if_neg (fun h => h rfl), if_neg (fun h => h rfl)]
 have wd := gT.whl
 obtain ⟨da, dc, rfl⟩ := gT.slice
 have wnm : IntKind.wrap .i64 ((n : Int) + (m : Int)) = ((n + m : Nat) : Int) := by rw [wrap64' (by omega) (by omega)]; omega
 by_cases h1 : n + m = b.length
 case neg =>
  have d1 : decide (((n + m : Nat) : Int) = (b.length : Int)) = false := by rw [decide_eq_false]; omega
  have hf : decI b = (zeroI, 11) := by rw [hu2, if_pos (.inl h1)]
  simp only [↓eD, eZ, ↓reduceIte, Nat.reduceEqDiff, Nat.reduceAdd, Nat.reduceMul, reduceCtorEq, Nat.reduceLeDiff, Int.reduceLT, Int.reduceLE, Int.reduceToNat, Int.reduceEq, Nat.reduceLT, de, wnm, d1, kb, rb, Bool.not_false, Bool.not_true, undef_eq]
  rw [ap_nil]
  exact bad5 (oθ2.set (Nat.le_refl _)) hf
 have d1 : decide (((n + m : Nat) : Int) = (b.length : Int)) = true := by rw [decide_eq_true]; omega
 by_cases hx3 : 3 ≤ x.length
 case neg =>
  have d3 : decide ((x.length : Int) < 3) = true := by rw [decide_eq_true]; omega
  have hf : decI b = (zeroI, 11) := by rw [hu2, if_pos (.inr (by unfold formI; rw [decide_eq_false_iff_not]; exact fun h => hx3 h.1))]
  simp only [↓eD, eZ, ↓reduceIte, Nat.reduceEqDiff, Nat.reduceAdd, Nat.reduceMul, reduceCtorEq, Nat.reduceLeDiff, Int.reduceLT, Int.reduceLE, Int.reduceToNat, Int.reduceEq, Nat.reduceLT, de, wnm, d1, d3, kb, rb, Bool.not_false, Bool.not_true, undef_eq]
  rw [ap_nil]
  exact bad5 (oθ2.set (Nat.le_refl _)) hf
 have d3 : decide ((x.length : Int) < 3) = false := by rw [decide_eq_false]; omega
 have wx2 := wx.Old ho2
 obtain ⟨xk, xo, hxa, rx0⟩ := whl_int wx2 (i := 0) (by omega)
 obtain ⟨_, _, hxa1, rx1⟩ := whl_int wx2 (i := 1) (by omega)
 obtain ⟨_, _, hxa2, rx2⟩ := whl_int wx2 (i := 2) (by omega)
 subst hxa
 injection hxa1 with hxa1
 injection hxa1 with q1 q2
 subst q1 q2
 injection hxa2 with hxa2
 injection hxa2 with q1 q2
 subst q1 q2
 have gd : ∀ j (h : j < x.length), x.getD j 0 = x[j] := fun j h => (List.getElem_eq_getD (l := x) (i := j) 0 (h := h)).symm
 obtain ⟨x0, hx0⟩ : ∃ x0, x0 = x.getD 0 0 := ⟨_, rfl⟩
 obtain ⟨x1, hx1⟩ : ∃ x1, x1 = x.getD 1 0 := ⟨_, rfl⟩
 obtain ⟨x2, hx2⟩ : ∃ x2, x2 = x.getD 2 0 := ⟨_, rfl⟩
 rw [← gd 0 (by omega), ← hx0] at rx0
 rw [← gd 1 (by omega), ← hx1] at rx1
 rw [← gd 2 (by omega), ← hx2] at rx2
 rw [Nat.add_zero] at rx0
 have bx1 : (0:Int) ≤ 1 ∧ (1:Int) < (x.length : Int) := by omega
 have bx2 : (0:Int) ≤ 2 ∧ (2:Int) < (x.length : Int) := by omega
 have bx0 : (0:Int) ≤ 0 ∧ (0:Int) < (x.length : Int) := by omega
 have tn1 : Int.toNat 1 = 1 := rfl
 have tn2 : Int.toNat 2 = 2 := rfl
 have tn0 : Int.toNat 0 = 0 := rfl
 have hxle : x.length ≤ n := by
  have h9 := congrArg List.length i1
  have h8 := flat_ge (enc := intF) (fun x => intF_one) (l := x)
  unfold encL at h9
  rw [List.length_append, List.length_take] at h9
  omega
 have hDle : D.length ≤ m := by
  have h9 := congrArg List.length s1
  have h8 := flat_ge (enc := bytesF) (fun x => bytesF_one) (l := D)
  unfold encL at h9
  rw [List.length_append, List.length_take] at h9
  omega
 by_cases h2a : 0 ≤ x2
 case neg =>
  have e1 : decide (x2 < 0) = true := by rw [decide_eq_true]; omega
  have hf : decI b = (zeroI, 11) := by rw [hu2, if_pos (.inr (by unfold formI; rw [decide_eq_false_iff_not]; exact fun h => h2a (hx2 ▸ h.2.1)))]
  simp only [↓eD, eZ, ↓reduceIte, Nat.reduceEqDiff, Nat.reduceAdd, Nat.reduceMul, reduceCtorEq, Nat.reduceLeDiff, Int.reduceLT, Int.reduceLE, Int.reduceToNat, Int.reduceEq, Nat.reduceLT, de, wnm, d1, d3, bx2, tn2, rx2, e1, kb, rb, Bool.not_false, Bool.not_true, undef_eq]
  rw [ap_nil]
  exact bad5 (oθ2.set (Nat.le_refl _)) hf
 have e1 : decide (x2 < 0) = false := by rw [decide_eq_false]; omega
 by_cases h2b : x2 ≤ (D.length : Int)
 case neg =>
  have e2 : decide ((D.length : Int) < x2) = true := by rw [decide_eq_true]; omega
  have hf : decI b = (zeroI, 11) := by rw [hu2, if_pos (.inr (by unfold formI; rw [decide_eq_false_iff_not]; exact fun h => h2b (hx2 ▸ h.2.2.1)))]
  simp only [↓eD, eZ, ↓reduceIte, Nat.reduceEqDiff, Nat.reduceAdd, Nat.reduceMul, reduceCtorEq, Nat.reduceLeDiff, Int.reduceLT, Int.reduceLE, Int.reduceToNat, Int.reduceEq, Nat.reduceLT, de, wnm, d1, d3, bx2, tn2, rx2, e1, e2, kb, rb, Bool.not_false, Bool.not_true, undef_eq]
  rw [ap_nil]
  exact bad5 (oθ2.set (Nat.le_refl _)) hf
 have e2 : decide ((D.length : Int) < x2) = false := by rw [decide_eq_false]; omega
 have w1 : IntKind.wrap .i64 ((x.length : Int) - 3) = (x.length : Int) - 3 := wrap64' (by omega) (by omega)
 have w2 : IntKind.wrap .i64 ((x.length : Int) - 3 + x2) = (x.length : Int) - 3 + x2 := wrap64' (by omega) (by omega)
 by_cases h2c : (D.length : Int) = (x.length : Int) - 3 + x2
 case neg =>
  have e3 : decide ((D.length : Int) = (x.length : Int) - 3 + x2) = false := decide_eq_false h2c
  have hf : decI b = (zeroI, 11) := by rw [hu2, if_pos (.inr (by unfold formI; rw [decide_eq_false_iff_not]; exact fun h => h2c (hx2 ▸ h.2.2.2)))]
  simp only [↓eD, eZ, ↓reduceIte, Nat.reduceEqDiff, Nat.reduceAdd, Nat.reduceMul, reduceCtorEq, Nat.reduceLeDiff, Int.reduceLT, Int.reduceLE, Int.reduceToNat, Int.reduceEq, Nat.reduceLT, de, wnm, d1, d3, bx2, tn2, rx2, e1, e2, w1, w2, e3, kb, rb, Bool.not_false, Bool.not_true, undef_eq]
  rw [ap_nil]
  exact bad5 (oθ2.set (Nat.le_refl _)) hf
 have e3 : decide ((D.length : Int) = (x.length : Int) - 3 + x2) = true := decide_eq_true h2c
 have hu3 : decI b = decT x D := by rw [hu2, if_neg (fun h => h.elim (fun h => h h1) (fun h => by
  have : formI x D = true := by unfold formI; rw [decide_eq_true_eq, ← hx2]; omega
  rw [this] at h
  cases h))]
 have rx0' := fun M => rd1_old (l := M) rx0
 have rx1' := fun M => rd1_old (l := M) rx1
 have rx2' := fun M => rd1_old (l := M) rx2
 have sx2 : ap θ2 [] = θ2 := ap_nil
 rw [← ap_nil (σ := θ2)]
 simp only [↓eD, eZ, ↓reduceIte, Nat.reduceEqDiff, Nat.reduceAdd, Nat.reduceMul, reduceCtorEq, Nat.reduceLeDiff, Int.reduceLT, Int.reduceLE, Int.reduceToNat, Int.reduceEq, Nat.reduceLT, de, wnm, d1, d3, bx0, bx1, bx2, tn0, tn1, tn2, rx0', rx1', rx2', e1, e2, w1, w2, e3, Bool.not_false, Bool.not_true, undef_eq]
 obtain ⟨θb, hθb⟩ : ∃ θb, θb = ap θ2 [.cells 1 [.int .i64 x0, .int .i64 x1, .slice none 0 0, .slice none 0 0] (0, 0)] := ⟨_, rfl⟩
 rw [← hθb]
 have ob : Old θ2 θb := by rw [hθb]; exact .ap
 have sb : θb.size = θ2.size + 1 := by rw [hθb]; simp [ap_size]
 have b8 : θb[θ2.size]? = some (.cells 1 [.int .i64 x0, .int .i64 x1, .slice none 0 0, .slice none 0 0] (0, 0)) := by rw [hθb, ap_new0]; rfl
 clear hθb
 have oθb : Old σ θb := oθ2.trans ob
 have w0b : θb[σ.size]? = some (.cells 0 z5 (0, 0)) := (ob.2 _ (Array.getElem?_eq_some_iff.1 w0).1).trans w0
 have hσ2 : σ.size < θ2.size := (Array.getElem?_eq_some_iff.1 w0).1
 have nbx : ∀ q, baseOf (.slice (some ⟨xk, xo, none⟩) x.length xc) = some q → q ≠ θ2.size := fun q hq => by
  have h8 := (gX.base hq).2
  have h7 := ho2.1
  omega
 have nbd : ∀ q, baseOf (.slice da D.length dc) = some q → q ≠ θ2.size := fun q hq => by have h8 := (gT.base hq).2; omega
 have Wx := wx2.Old ob
 have hdl3 : (x.drop 3).length = x.length - 3 := List.length_drop
 have Wd := wd.Old ob
 obtain ⟨N, hN⟩ : ∃ N, N = (x.drop 3).length := ⟨_, rfl⟩
 obtain ⟨S, hS⟩ : ∃ S, S = segsOf (x.drop 3) D := ⟨_, rfl⟩
 have hSl : S.length = N := by rw [hS, segsOf_len]; omega
 have hssb : (sized θb.size).size = θb.size := sized_size
 have hNle : N ≤ 1000000 := by omega
 rw [← hN] at hdl3
 refine loop_for (J := fun i e τ => i ≤ N ∧ ∃ (u : Value) (ver : Nat), e = [(2, .pointer (some ⟨σ.size, 0, none⟩)), (3, .slice (some ⟨xk, xo, none⟩) x.length xc), (6, .slice da D.length dc), (9, .pointer (some ⟨θ2.size, 0, none⟩)), (10, .int .i64 ((i + 3 : Nat) : Int))] ∧ OldB θ2.size θb τ ∧ τ[θ2.size]? = some (.cells ver [.int .i64 x0, .int .i64 x1, u, .slice none 0 0] (0, 0)) ∧ Grown (sized θb.size) τ 2 u ((S.take i).map segV).flatten i) N
  ⟨by omega, _, 1, rfl, ⟨Nat.le_refl _, fun _ _ _ => rfl⟩, b8, .nil⟩ ?_
 rintro i e τ hi ⟨_, u, ver, rfl, hB, hbox, hg⟩
 have hBs := hB.1
 by_cases hlt : i < N
 ·have dl : decide (((i + 3 : Nat) : Int) < (x.length : Int)) = true := by rw [decide_eq_true]; omega
  have hbd : (0:Int) ≤ ((i + 3 : Nat) : Int) ∧ ((i + 3 : Nat) : Int) < (x.length : Int) := by omega
  have ws3 : IntKind.wrap .i64 (((i + 3 : Nat) : Int) - 3) = (i : Int) := by rw [wrap64' (by omega) (by omega)]; omega
  have hbd2 : (0:Int) ≤ (i:Int) ∧ (i:Int) < (D.length : Int) := by omega
  have hw1 : IntKind.wrap .i64 (((i + 3 : Nat):Int) + 1) = ((i + 1 + 3 : Nat) : Int) := by rw [wrap64' (by omega) (by omega)]; omega
  obtain ⟨k1, o1, hk1, r1⟩ := whl_int (Whl.oldB Wx nbx hB (by omega)) (i := i + 3) (by omega)
  obtain ⟨k2, o2, hk2, r2⟩ := whl_str (Whl.oldB Wd nbd hB (by omega)) (i := i) (by omega)
  injection hk1 with hk1
  injection hk1 with q1 q2
  subst q1 q2
  subst hk2
  have hx3i : x[i + 3]'(by omega) = (x.drop 3)[i]'(by omega) := by simp [Nat.add_comm]
  rw [hx3i] at r1
  have hget := segsOf_get (x := x.drop 3) (t := D) (i := i) (by omega) (by omega)
  rw [← hS] at hget
  have htk := take_get hget
  have r1' := fun M => rd1_old (l := M) r1
  have r2' := fun M => rd1_old (l := M) r2
  have f2 : ∀ M, rd1 (ap τ M) ⟨θ2.size, 2, none⟩ = some u := fun M => rd1_of hbox .ap rfl
  obtain ⟨ua, uc, rfl⟩ := hg.slice
  generalize (x.drop 3)[i]'(by omega) = xi at r1 r1' hget htk
  generalize D[i]'(by omega) = di at r2 r2' hget htk
  rw [← ap_nil (σ := τ)]
  simp only [↓eD, eZ, ↓reduceIte, Nat.reduceEqDiff, Nat.reduceAdd, Nat.reduceMul, reduceCtorEq, Nat.reduceLeDiff, Int.reduceLT, Int.reduceLE, Int.reduceToNat, Int.reduceEq, Nat.reduceLT, dl, hbd, hbd2, ws3, Int.toNat_natCast, r1', r2', f2, undef_eq]
  have hg1 := hg.old (Old.ap (l := [.cells 0 [.int .i64 xi, .string di] (0, 0)]))
  have xcc : xcells (ap τ [.cells 0 [.int .i64 xi, .string di] (0, 0)]) 2 (.slice (some ⟨τ.size, 0, none⟩) 1 1) = some (1, [.int .i64 xi, .string di]) := by
   show (rdN (ap τ _) ⟨τ.size, 0, none⟩ (1 * 2)).map (1, ·) = _
   rw [rdN_all (n := 1 * 2) (by rw [ap_new0]; rfl) rfl]
   rfl
  obtain ⟨v6, τ2, ha, A⟩ := append_grown (bytes := 24) hg1 (by omega) (by rw [hssb, ap_size]; omega) xcc rfl rfl (by omega) (by omega)
  refine onV_of ha ?_
  have hB2 := hB.grow .ap A hg1
  have hbox2 : τ2[θ2.size]? = some (.cells ver [.int .i64 x0, .int .i64 x1, .slice ua i uc, .slice none 0 0] (0, 0)) := A.low hg1 (by rw [hssb]; omega) ((ap_old (Array.getElem?_eq_some_iff.1 hbox).1).trans hbox)
  obtain ⟨ua2, uc2, rfl⟩ := A.grown.slice
  have k17 : wrN τ2 ⟨θ2.size, 2, none⟩ [.slice ua2 (i + 1) uc2] = some (τ2.setIfInBounds θ2.size (.cells (ver + 1) [.int .i64 x0, .int .i64 x1, .slice ua2 (i + 1) uc2, .slice none 0 0] (0, 0))) := by
   rw [wrN_eq, if_neg (by simp), hbox2, wrc_cells, if_pos ⟨by simp, rfl⟩]
   rfl
  simp only [↓eD, eZ, ↓reduceIte, Nat.reduceEqDiff, Nat.reduceAdd, Nat.reduceMul, reduceCtorEq, Nat.reduceLeDiff, Int.reduceLT, Int.reduceLE, Int.reduceToNat, Int.reduceEq, Nat.reduceLT, k17, hw1, undef_eq]
  refine ⟨hlt, by omega, .slice ua2 (i + 1) uc2, ver + 1, hB2.set, get_set hbox2, ?_⟩
  have := A.grown.set (b := θ2.size) (k := .cells (ver + 1) [.int .i64 x0, .int .i64 x1, .slice ua2 (i + 1) uc2, .slice none 0 0] (0, 0)) (by rw [hssb]; omega)
  rw [htk, List.map_append, List.flatten_append]
  simpa [segV] using this
 have : i = N := by omega
 subst this
 have dl : decide (((i + 3 : Nat) : Int) < (x.length : Int)) = false := by rw [decide_eq_false]; omega
 rw [List.take_of_length_le (by omega)] at hg
 have w1' : IntKind.wrap .i64 ((x.length : Int) - 3) = (i : Int) := by rw [w1]; omega
 have Wdτ := Whl.oldB Wd nbd hB (by omega)
 obtain ⟨K, hK⟩ : ∃ K, K = D.drop i := ⟨_, rfl⟩
 have hKl : D.length - i = K.length := by rw [hK, List.length_drop]
 have hsst : (sized τ.size).size = τ.size := sized_size
 have oτ : Old σ τ := hB.old oθb (by omega)
 have w0τ : τ[σ.size]? = some (.cells 0 z5 (0, 0)) := (hB.2 _ (by omega) (by omega)).trans w0b
 simp only [↓eD, eZ, ↓reduceIte, Nat.reduceEqDiff, Nat.reduceAdd, Nat.reduceMul, reduceCtorEq, Nat.reduceLeDiff, Int.reduceLT, Int.reduceLE, Int.reduceToNat, Int.reduceEq, Nat.reduceLT, dl, w1', undef_eq]
 refine loop_for (J := fun j e η => j ≤ K.length ∧ ∃ (w : Value) (ver : Nat), e = [(2, .pointer (some ⟨σ.size, 0, none⟩)), (6, .slice da D.length dc), (9, .pointer (some ⟨θ2.size, 0, none⟩)), (11, .int .i64 ((i + j : Nat) : Int))] ∧ OldB θ2.size τ η ∧ η[θ2.size]? = some (.cells ver [.int .i64 x0, .int .i64 x1, u, w] (0, 0)) ∧ Grown (sized τ.size) η 128 w (((K.take j).map strI).map digC).flatten j ∧ ∀ s ∈ K.take j, s.size = 128) K.length
  ⟨by omega, _, ver, rfl, ⟨Nat.le_refl _, fun _ _ _ => rfl⟩, hbox, .nil, fun s hs => by simp at hs⟩ ?_
 rintro j e η hj ⟨_, w, ver2, rfl, hB2, hbox2, hgK, hall⟩
 have hBs2 := hB2.1
 have hbsz := (Array.getElem?_eq_some_iff.1 hbox).1
 have w0η : η[σ.size]? = some (.cells 0 z5 (0, 0)) := (hB2.2 _ (by omega) (by omega)).trans w0τ
 have oη : Old σ η := hB2.old oτ (by omega)
 have kbη := fun z : Int => ret5 (e := 0) (p := 0) (z := z) (a1 := none) (a2 := none) (n1 := 0) (n2 := 0) (c1 := 0) (c2 := 0) w0η
 have rbη := fun z : Int => rdN_all (n := 5) (get_set (k := .cells 1 [.int .i64 0, .int .i64 0, .slice none 0 0, .slice none 0 0, .int .i64 z] (0, 0)) w0η) rfl
 have hKD : D.drop (x.length - 3) = K := by rw [hK]; congr 1; omega
 by_cases hlt : j < K.length
 ·have dl : decide (((i + j : Nat) : Int) < (D.length : Int)) = true := by rw [decide_eq_true]; omega
  have hbd : (0:Int) ≤ ((i + j : Nat):Int) ∧ ((i + j : Nat):Int) < (D.length : Int) := by omega
  have hw1 : IntKind.wrap .i64 (((i + j : Nat):Int) + 1) = ((i + (j + 1) : Nat) : Int) := by rw [wrap64' (by omega) (by omega)]; omega
  obtain ⟨k1, o1, hk1, r1⟩ := whl_str (Whl.oldB Wdτ nbd hB2 (by omega)) (i := i + j) (by omega)
  subst hk1
  have hDj : D[i + j]'(by omega) = K[j] := by simp [hK]
  rw [hDj] at r1
  have htk := List.take_succ_eq_append_getElem hlt
  have hmem : K[j] ∈ K := List.getElem_mem hlt
  generalize K[j] = kj at r1 htk hmem
  by_cases h128 : kj.size = 128
  case neg =>
   have e4 : decide ((kj.size : Int) = 128) = false := by rw [decide_eq_false]; omega
   have hf : decI b = (zeroI, 11) := by
    rw [hu3, decT, if_pos]
    rw [hKD]
    rw [List.all_eq_false]
    exact ⟨kj, hmem, by simpa using h128⟩
   simp only [↓eD, eZ, ↓reduceIte, Nat.reduceEqDiff, Nat.reduceAdd, Nat.reduceMul, reduceCtorEq, Nat.reduceLeDiff, Int.reduceLT, Int.reduceLE, Int.reduceToNat, Int.reduceEq, Nat.reduceLT, dl, hbd, Int.toNat_natCast, r1, e4, kbη, rbη, Bool.not_false, undef_eq]
   exact bad5 (oη.set (Nat.le_refl _)) hf
  have e4 : decide ((kj.size : Int) = 128) = true := by rw [decide_eq_true]; omega
  have r1' := fun M => rd1_old (l := M) r1
  have f3 : ∀ M, rd1 (ap η M) ⟨θ2.size, 3, none⟩ = some w := fun M => rd1_of hbox2 .ap rfl
  obtain ⟨ua2, uc2, rfl⟩ := hgK.slice
  have hbig : (128 < big) = True := eq_true (by decide)
  have lk : (strI kj).length = 128 := by rw [strI_len, h128]
  have ldk : (digC (strI kj)).length = 128 := by rw [digC_length, lk]
  have sz : ∀ z : List Value, z.length = 128 → sets z 0 (digC (strI kj)) = digC (strI kj) := fun z hz => by rw [sets_all (by omega), ldk]; simp [hz]
  have l128 : (List.replicate 128 (Value.int .u8 0)).length = 128 := List.length_replicate
  have h128l : (128 ≤ 128) = True := by simp
  have td : (digC (strI kj)).take 128 = digC (strI kj) := List.take_of_length_le (by omega)
  have nd : (digC (strI kj) = []) = False := eq_false fun h9 => by rw [h9] at ldk; cases ldk
  have e4' : decide (((128 : Nat) : Int) = 128) = true := rfl
  rw [← ap_nil (σ := η)]
  simp only [↓eD, eZ, ↓reduceIte, Nat.reduceEqDiff, Nat.reduceAdd, Nat.reduceMul, reduceCtorEq, Nat.reduceLeDiff, Int.reduceLT, Int.reduceLE, Int.reduceToNat, Int.reduceEq, Nat.reduceLT, dl, hbd, Int.toNat_natCast, r1', e4, e4', f3, h128, hbig, byteCells_eq, ldk, sz, l128, h128l, td, nd, digC_one, Bool.not_true, undef_eq]
  have hg1 := hgK.old (Old.ap (l := [.cells 0 (digC (strI kj)) (0, 0), .cells 0 (digC (strI kj)) (0, 0)]))
  have xcS : xcells (ap η [.cells 0 (digC (strI kj)) (0, 0), .cells 0 (digC (strI kj)) (0, 0)]) 128 (.slice (some ⟨η.size + 1, 0, none⟩) 1 1) = some (1, digC (strI kj)) := by
   show (rdN (ap η _) ⟨η.size + 1, 0, none⟩ (1 * 128)).map (1, ·) = _
   rw [rdN_all (n := 1 * 128) (by rw [ap_new]; rfl) (by rw [ldk])]
   rfl
  obtain ⟨v6, η2, ha, A⟩ := append_grown (bytes := 128) hg1 (by omega) (by rw [hsst, ap_size]; omega) xcS ldk digC_one (by omega) (by omega)
  refine onV_of ha ?_
  have hB3 := hB2.grow .ap A hg1
  have hbox3 : η2[θ2.size]? = some (.cells ver2 [.int .i64 x0, .int .i64 x1, u, .slice ua2 j uc2] (0, 0)) := A.low hg1 (by rw [hsst]; omega) ((ap_old (Array.getElem?_eq_some_iff.1 hbox2).1).trans hbox2)
  obtain ⟨ua3, uc3, rfl⟩ := A.grown.slice
  have k18 : wrN η2 ⟨θ2.size, 3, none⟩ [.slice ua3 (j + 1) uc3] = some (η2.setIfInBounds θ2.size (.cells (ver2 + 1) [.int .i64 x0, .int .i64 x1, u, .slice ua3 (j + 1) uc3] (0, 0))) := by
   rw [wrN_eq, if_neg (by simp), hbox3, wrc_cells, if_pos ⟨by simp, rfl⟩]
   rfl
  simp only [↓eD, eZ, ↓reduceIte, Nat.reduceEqDiff, Nat.reduceAdd, Nat.reduceMul, reduceCtorEq, Nat.reduceLeDiff, Int.reduceLT, Int.reduceLE, Int.reduceToNat, Int.reduceEq, Nat.reduceLT, k18, hw1, undef_eq]
  refine ⟨hlt, by omega, .slice ua3 (j + 1) uc3, ver2 + 1, hB3.set, get_set hbox3, ?_, ?_⟩
  ·have := A.grown.set (b := θ2.size) (k := .cells (ver2 + 1) [.int .i64 x0, .int .i64 x1, u, .slice ua3 (j + 1) uc3] (0, 0)) (by rw [hsst]; omega)
   rw [htk, List.map_append, List.map_append, List.flatten_append]
   simpa using this
  ·rw [htk]
   intro s hs
   rcases List.mem_append.1 hs with hs | hs
   ·exact hall s hs
   ·rw [List.mem_singleton] at hs
    rw [hs]; exact h128
 have : j = K.length := by omega
 subst this
 have dl : decide (((i + K.length : Nat) : Int) < (D.length : Int)) = false := by rw [decide_eq_false]; omega
 rw [List.take_of_length_le (by omega)] at hgK hall
 have hgS : Grown (sized θb.size) η 2 u (S.map segV).flatten i := hg.keep fun q k h1 h2 => by
  have h3 := hg.base h1
  rw [hssb] at h3
  rw [hB2.2 q h3.2 (by omega)]
  exact h2
 obtain ⟨ua, uc, rfl⟩ := hgS.slice
 obtain ⟨wa, wc, rfl⟩ := hgK.slice
 have hI : imgOf x D = ⟨x0, x1, S, K.map strI⟩ := by unfold imgOf; rw [← hx0, ← hx1, ← hS, hKD]
 have hu4 : decI b = if checkI ⟨x0, x1, S, K.map strI⟩ ≠ 0 then (zeroI, checkI ⟨x0, x1, S, K.map strI⟩) else (⟨x0, x1, S, K.map strI⟩, 0) := by
  rw [hu3, decT, hKD, if_neg (by
   rw [Bool.not_eq_false, List.all_eq_true]
   exact fun s hs => decide_eq_true (hall s hs)), hI]
 have hxI : ∀ z ∈ x, I64 z := fun z hz => i2 z hz
 have hgetI : ∀ (k : Nat), I64 (x.getD k 0) := fun k => by
  rcases Nat.lt_or_ge k x.length with h9 | h9
  ·rw [← List.getElem_eq_getD (l := x) (i := k) 0 (h := h9)]; exact hxI _ (List.getElem_mem h9)
  ·have h8 : x.getD k 0 = 0 := by rw [List.getD_eq_getElem?_getD, List.getElem?_eq_none h9]; rfl
   rw [h8]; unfold I64; omega
 have hKlen : (K.map strI).length = K.length := List.length_map _
 have hpg : ∀ d ∈ K.map strI, d.length = 128 ∧ Byt d := fun d hd => by
  obtain ⟨s, hs, rfl⟩ := List.mem_map.1 hd
  exact ⟨by rw [strI_len]; exact hall s hs, strI_byt⟩
 have hsS : ∀ s ∈ S, I64 s.at_ ∧ s.data.size ≤ 140737488351232 := fun s hs => by
  obtain ⟨k, hk, hk2⟩ := List.mem_iff_getElem.1 hs
  have h9 := segsOf_get (x := x.drop 3) (t := D) (i := k) (by omega) (by omega)
  rw [← hS, List.getElem?_eq_getElem hk, hk2] at h9
  have h8 := Option.some.inj h9
  have hsz : (D[k]'(by omega)).size ≤ m := by
   have hle : (D[k]'(by omega)).size ≤ (bytesF (D[k]'(by omega))).length := by unfold bytesF; rw [List.length_append, strI_len]; omega
   have hle2 : (bytesF (D[k]'(by omega))).length ≤ (D.flatMap bytesF).length := by
    have hi3 : k < D.length := by omega
    have h5 : D = D.take k ++ D[k] :: D.drop (k + 1) := by rw [← List.drop_eq_getElem_cons hi3, List.take_append_drop]
    generalize D[k]'(by omega) = w at h5
    rw [h5, List.flatMap_append, List.flatMap_cons, List.length_append, List.length_append]
    omega
   have hle3 : (D.flatMap bytesF).length ≤ m := by
    have h6 := congrArg List.length s1
    unfold encL at h6
    rw [List.length_append, List.length_take] at h6
    omega
   omega
  rw [h8]
  exact ⟨hxI _ (List.mem_of_mem_drop (List.getElem_mem (l := x.drop 3) (n := k) (by omega))), by simp only; omega⟩
 have V : ∀ ζ, Grown (sized θb.size) ζ 2 (.slice ua i uc) (S.map segV).flatten i → Grown (sized τ.size) ζ 128 (.slice wa K.length wc) ((K.map strI).map digC).flatten K.length → ImgR ζ [.int .i64 x0, .int .i64 x1, .slice ua i uc, .slice wa K.length wc] ⟨x0, x1, S, K.map strI⟩ ua uc wa wc := fun ζ g1 g2 => by
  refine ⟨by simp only [hSl, hKlen]; rfl, ?_, ?_, hpg, ?_, ?_, by simp only [hx0]; exact hgetI 0, by simp only [hx1]; exact hgetI 1, hsS, by simp only [hSl]; omega, by simp only [hKlen]; omega⟩
  ·simp only [hSl]
   have h9 : Grown (sized θb.size) ζ 2 (.slice ua i uc) (S.map segV).flatten (S.map segV).length := by rw [List.length_map, hSl]; exact g1
   exact h9.Row segV_rows
  ·simp only [hKlen]
   have h9 : Grown (sized τ.size) ζ 128 (.slice wa K.length wc) ((K.map strI).map digC).flatten ((K.map strI).map digC).length := by rw [List.length_map, hKlen]; exact g2
   exact h9.Row (pages_rows hpg)
  ·simp only [hSl]; exact g1.cap
  ·simp only [hKlen]; exact g2.cap
 have r8 := rdN_all (n := 4) hbox2 rfl
 simp only [↓eD, eZ, ↓reduceIte, Nat.reduceEqDiff, Nat.reduceAdd, Nat.reduceMul, reduceCtorEq, Nat.reduceLeDiff, Int.reduceLT, Int.reduceLE, Int.reduceToNat, Int.reduceEq, Nat.reduceLT, dl, r8, undef_eq]
 refine appK_at (rcheck_app (V η hgS hgK)) ?_
 by_cases hck : checkI ⟨x0, x1, S, K.map strI⟩ = 0
 case neg =>
  have dc : decide (checkI ⟨x0, x1, S, K.map strI⟩ = 0) = false := decide_eq_false hck
  have hf : decI b = (zeroI, checkI ⟨x0, x1, S, K.map strI⟩) := by rw [hu4, if_pos hck]
  simp only [↓eD, eZ, ↓reduceIte, Nat.reduceEqDiff, Nat.reduceAdd, Nat.reduceMul, reduceCtorEq, Nat.reduceLeDiff, Int.reduceLT, Int.reduceLE, Int.reduceToNat, Int.reduceEq, Nat.reduceLT, dc, kbη, rbη, Bool.not_false, undef_eq]
  exact bad5 (oη.set (Nat.le_refl _)) hf
 have dc : decide (checkI ⟨x0, x1, S, K.map strI⟩ = 0) = true := decide_eq_true hck
 have hf : decI b = (⟨x0, x1, S, K.map strI⟩, 0) := by rw [hu4, if_neg (fun h => h hck)]
 have kf := ret5 (e := x0) (p := x1) (z := 0) (a1 := ua) (n1 := i) (c1 := uc) (a2 := wa) (n2 := K.length) (c2 := wc) w0η
 have rf := rdN_all (n := 5) (get_set (k := .cells 1 [.int .i64 x0, .int .i64 x1, .slice ua i uc, .slice wa K.length wc, .int .i64 0] (0, 0)) w0η) rfl
 simp only [↓eD, eZ, ↓reduceIte, Nat.reduceEqDiff, Nat.reduceAdd, Nat.reduceMul, reduceCtorEq, Nat.reduceLeDiff, Int.reduceLT, Int.reduceLE, Int.reduceToNat, Int.reduceEq, Nat.reduceLT, dc, r8, kf, rf, Bool.not_true, undef_eq]
 rw [hf]
 have W9 := V _ (hgS.set (b := σ.size) (k := .cells 1 [.int .i64 x0, .int .i64 x1, .slice ua i uc, .slice wa K.length wc, .int .i64 0] (0, 0)) (by rw [hssb]; omega)) (hgK.set (by rw [hsst]; omega))
 refine ⟨oη.set (Nat.le_refl _), ua, uc, wa, wc, ?_, ?_⟩
 ·simp only [hSl, hKlen]
 ·simp only [hSl, hKlen]
  exact W9
end Go.Proofs.YtajchhghjjlahaaDoor
