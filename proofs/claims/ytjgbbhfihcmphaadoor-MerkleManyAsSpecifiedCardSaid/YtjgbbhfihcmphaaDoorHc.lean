/- Walks of the functions that the claim reaches. Conditions: none. -/
import Derived.Test.YtjgbbhfihcmphaaDoorHa
set_option linter.all false
set_option maxRecDepth 10000
set_option maxHeartbeats 4000000
namespace Go.Proofs.YtjgbbhfihcmphaaDoor
open Go Go.Cn Go.RowKit
attribute [local irreducible] evL sem onG onI onV
def roundK : List Int := [0x428a2f98, 0x71374491, 0xb5c0fbcf, 0xe9b5dba5, 0x3956c25b, 0x59f111f1, 0x923f82a4, 0xab1c5ed5,
 0xd807aa98, 0x12835b01, 0x243185be, 0x550c7dc3, 0x72be5d74, 0x80deb1fe, 0x9bdc06a7, 0xc19bf174,
 0xe49b69c1, 0xefbe4786, 0x0fc19dc6, 0x240ca1cc, 0x2de92c6f, 0x4a7484aa, 0x5cb0a9dc, 0x76f988da,
 0x983e5152, 0xa831c66d, 0xb00327c8, 0xbf597fc7, 0xc6e00bf3, 0xd5a79147, 0x06ca6351, 0x14292967,
 0x27b70a85, 0x2e1b2138, 0x4d2c6dfc, 0x53380d13, 0x650a7354, 0x766a0abb, 0x81c2c92e, 0x92722c85,
 0xa2bfe8a1, 0xa81a664b, 0xc24b8b70, 0xc76c51a3, 0xd192e819, 0xd6990624, 0xf40e3585, 0x106aa070,
 0x19a4c116, 0x1e376c08, 0x2748774c, 0x34b0bcb5, 0x391c0cb3, 0x4ed8aa4a, 0x5b9cca4f, 0x682e6ff3,
 0x748f82ee, 0x78a5636f, 0x84c87814, 0x8cc70208, 0x90befffa, 0xa4506ceb, 0xbef9a3f7, 0xc67178f2]
theorem roundK_len : roundK.length = 64 := rfl
def Glob (σ : H) : Prop := rdN σ ⟨3, 0, none⟩ 64 = some (u32C roundK)
theorem Glob.Old {σ τ : H} (h : Glob σ) (ho : Old σ τ) : Glob τ := rdN_Old ho h
def roundX (v : List Int) (k w : Int) : Int :=
 addW (addW (addW (addW (v.getD 7 0) (xorW (xorW (rotrF (v.getD 4 0) 6) (rotrF (v.getD 4 0) 11)) (rotrF (v.getD 4 0) 25)))
  (xorW (andW (v.getD 4 0) (v.getD 5 0)) (andW (xorW (v.getD 4 0) 4294967295) (v.getD 6 0)))) k) w
def roundY (v : List Int) : Int :=
 addW (xorW (xorW (rotrF (v.getD 0 0) 2) (rotrF (v.getD 0 0) 13)) (rotrF (v.getD 0 0) 22))
  (xorW (xorW (andW (v.getD 0 0) (v.getD 1 0)) (andW (v.getD 0 0) (v.getD 2 0))) (andW (v.getD 1 0) (v.getD 2 0)))
def roundF (v : List Int) (k w : Int) : List Int :=
 [addW (roundX v k w) (roundY v), v.getD 0 0, v.getD 1 0, v.getD 2 0, addW (v.getD 3 0) (roundX v k w), v.getD 4 0, v.getD 5 0, v.getD 6 0]
def vF (w s : List Int) : Nat → List Int
 |0 => s
 |t + 1 => roundF (vF w s t) (roundK.getD t 0) (w.getD t 0)
theorem vF_len {w s : List Int} (h : s.length = 8) : ∀ {t : Nat}, (vF w s t).length = 8
 |0 => h
 |t + 1 => rfl
def mixF (s v : List Int) : Nat → List Int
 |0 => s
 |i + 1 => (mixF s v i).set i (addW ((mixF s v i).getD i 0) (v.getD i 0))
theorem mixF_len {s v : List Int} : ∀ {i : Nat}, (mixF s v i).length = s.length
 |0 => rfl
 |i + 1 => by rw [mixF, List.length_set]; exact mixF_len
@[irreducible] def blockF (s b : List Int) : List Int := mixF s (vF (wordsF b) s 64) 8
def s0 : List Int := [1779033703, 3144134277, 1013904242, 2773480762, 1359893119, 2600822924, 528734635, 1541459225]
def sF (m : List Int) : Nat → List Int
 |0 => s0
 |k + 1 => blockF (sF m k) ((m.drop (64 * k)).take 64)
theorem sF_len {m : List Int} : ∀ {k : Nat}, (sF m k).length = 8
 |0 => rfl
 |k + 1 => by rw [sF, blockF, mixF_len]; exact sF_len
def outF (s : List Int) (i : Nat) : Int := IntKind.wrap .u8 (shrW (s.getD (i / 4) 0) (24 - 8 * (i % 4)))
@[irreducible] def sumF (b : List Int) : List Int := (List.range 32).map fun i => outF (sF (paddedF b) ((paddedF b).length / 64)) i
theorem sumF_len {b : List Int} : (sumF b).length = 32 := by simp [sumF]
theorem u32C_ne {l : List Int} {n : Nat} (h : l.length = n) (hn : 0 < n) : (u32C l = []) = False := by
 have : (u32C l).length = n := by rw [u32C_len, h]
 simp only [eq_iff_iff, iff_false]; intro h; rw [h] at this; simp at this; omega
theorem u32C_sets {l z : List Int} (h : l.length = z.length) : sets (u32C z) 0 (u32C l) = u32C l := by
 rw [sets_all (by simp [u32C_len, h]), u32C_len, h]; simp [u32C]
theorem u32C_take {l : List Int} {n : Nat} (h : l.length = n) : (u32C l).take n = u32C l := List.take_of_length_le (by rw [u32C_len, h]; omega)
theorem digC_ne' {l : List Int} {n : Nat} (h : l.length = n) (hn : 0 < n) : (digC l = []) = False := by
 have : (digC l).length = n := by rw [digC_length, h]
 simp only [eq_iff_iff, iff_false]; intro h; rw [h] at this; simp at this; omega
theorem digC_sets {l z : List Int} (h : l.length = z.length) : sets (digC z) 0 (digC l) = digC l := by
 rw [sets_all (by simp [digC_length, h]), digC_length, h]; simp [digC]
theorem digC_take {l : List Int} {n : Nat} (h : l.length = n) : (digC l).take n = digC l := List.take_of_length_le (by rw [digC_length, h]; omega)
theorem len8 {l : List Int} (h : l.length = 8) : ∃ a b c d e f g i, l = [a, b, c, d, e, f, g, i] := by
 match l, h with
 |[a, b, c, d, e, f, g, i], _ => exact ⟨a, b, c, d, e, f, g, i, rfl⟩
theorem sum_app {σ : H} {sl : Value} {b : List Int} (hr : Whl σ 1 sl b.length (digC b)) (hl : b.length < 100000000000000) (hG : Glob σ) :
  App Tryd.prog (.func 78) #[] #[sl] σ fun v σ' => σ' = σ ∧ v = .agg (digC (sumF b)).toArray := by
 refine App.forget (App.of_sem mixed Tryd.func78 t78 k78 r78 (Nat.le_of_ble_eq_true rfl) ?_)
 unfold s78
 have e0 : ap σ [] = σ := ap_nil
 have rep8 : List.replicate 8 (Value.int .u32 0) = [.int .u32 0, .int .u32 0, .int .u32 0, .int .u32 0, .int .u32 0, .int .u32 0, .int .u32 0, .int .u32 0] := rfl
 have rep8' : u32C (List.replicate 8 0) = [.int .u32 0, .int .u32 0, .int .u32 0, .int .u32 0, .int .u32 0, .int .u32 0, .int .u32 0, .int .u32 0] := rfl
 rw [← e0]
 simp only [↓eD, eZ, ↓reduceIte, Nat.reduceEqDiff, Nat.reduceAdd, Nat.reduceMul, reduceCtorEq, Nat.reduceLeDiff, Int.reduceLT, Int.reduceLE, Int.reduceToNat, Int.reduceEq, Nat.reduceLT, rep8]
 refine appK_of (padded_app (hr.Old .ap) hl) ?_
 rintro v4 σ1 ⟨ho1, hg1⟩
 simp only [↓eD, eZ, ↓reduceIte, Nat.reduceEqDiff, Nat.reduceAdd, Nat.reduceMul, reduceCtorEq, Nat.reduceLeDiff, Int.reduceLT, Int.reduceLE, Int.reduceToNat, Int.reduceEq, Nat.reduceLT]
 generalize hm : paddedF b = m at hg1
 have hm64 : m.length % 64 = 0 := hm ▸ padded_64
 have hmL : m.length < 200000000000000 := by rw [← hm, padded_len, padN]; omega
 obtain ⟨M, hM⟩ : ∃ M, m.length = 64 * M := ⟨m.length / 64, by omega⟩
 refine loop_for (J := fun i e τ => i ≤ M ∧ ∃ ver3, e = [(2, .pointer (some ⟨σ.size, 0, none⟩)), (3, .pointer (some ⟨σ.size + 1, 0, none⟩)), (4, v4), (5, .int .i64 (64 * i : Nat))] ∧ Old σ τ ∧
   τ[σ.size]? = some (.cells 0 (digC (List.replicate 32 0)) (0, 0)) ∧ τ[σ.size + 1]? = some (.cells ver3 (u32C (sF m i)) (0, 0)) ∧ Grown (sized (σ.size + 2)) τ 1 v4 (digC m) m.length) M
  ⟨by omega, 1, rfl, Old.ap.trans ho1, (ho1.2 _ (by simp [ap_size])).trans (by rw [ap_new0]; rfl), (ho1.2 _ (by simp [ap_size])).trans (by rw [ap_new]; rfl), hg1.sized (by simp [ap_size])⟩ ?_
 rintro i e τ hi ⟨_, ver3, rfl, ho, hb2, hb3, hg⟩
 have e1 : ap τ [] = τ := ap_nil
 have t2 : σ.size < τ.size := (Array.getElem?_eq_some_iff.1 hb2).1
 have t3 : σ.size + 1 < τ.size := (Array.getElem?_eq_some_iff.1 hb3).1
 have hb2' : ∀ L, (ap τ L)[σ.size]? = some _ := fun L => (ap_old t2).trans hb2
 have hb3' : ∀ L, (ap τ L)[σ.size + 1]? = some _ := fun L => (ap_old t3).trans hb3
 obtain ⟨bs4, c4, rfl⟩ := hg.slice
 rw [← e1]
 simp only [↓eD, eZ, ↓reduceIte, Nat.reduceEqDiff, Nat.reduceAdd, Nat.reduceMul, reduceCtorEq, Nat.reduceLeDiff, Int.reduceLT, Int.reduceLE, Int.reduceToNat, Int.reduceEq, Nat.reduceLT]
 refine onI_dec (fun hlt => ?_) (fun hge => ?_)
 ·have hlt : i < M := by omega
  have hw64 : IntKind.wrap .i64 (((64 * i : Nat) : Int) + 64) = ((64 * i + 64 : Nat) : Int) := by rw [wrap64 (by omega) (by omega)]; omega
  have hw65 : ((64 * i + 64 : Nat) : Int) = ((64 * (i + 1) : Nat) : Int) := by omega
  simp only [↓eD, eZ, ↓reduceIte, Nat.reduceEqDiff, Nat.reduceAdd, Nat.reduceMul, reduceCtorEq, Nat.reduceLeDiff, Int.reduceLT, Int.reduceLE, Int.reduceToNat, Int.reduceEq, Nat.reduceLT, hw64]
  obtain ⟨v', hsl, hW⟩ := sliceV_whl (lo := 64 * i) (hi := 64 * i + 64) (hg.old (Old.ap (l := []))).whl (.inl rfl) (by omega) (by omega)
  refine onV_of hsl ?_
  have hsz : 64 * i + 64 - 64 * i = 64 := by omega
  rw [hsz, Nat.mul_one, Nat.mul_one] at hW
  have hdt : ((digC m).drop (64 * i)).take 64 = digC ((m.drop (64 * i)).take 64) := by simp [digC]
  rw [hdt] at hW
  simp only [↓eD, eZ, ↓reduceIte, Nat.reduceEqDiff, Nat.reduceAdd, Nat.reduceMul, reduceCtorEq, Nat.reduceLeDiff, Int.reduceLT, Int.reduceLE, Int.reduceToNat, Int.reduceEq, Nat.reduceLT]
  refine appK_at (words_app hW) ?_
  generalize hWd : wordsF ((m.drop (64 * i)).take 64) = W
  have hWl : W.length = 64 := hWd ▸ wordsF_len
  generalize hS : sF m i = S at hb3 hb3'
  have hSl : S.length = 8 := hS ▸ sF_len
  have tk64 := u32C_take hWl
  have st64 := u32C_sets (z := List.replicate 64 0) (l := W) (by simp [hWl])
  have ne64 := u32C_ne hWl (by omega)
  have st8 := u32C_sets (z := List.replicate 8 0) (l := S) (by simp [hSl])
  have ne8 := u32C_ne hSl (by omega)
  have rd8 : ∀ L, rdN (ap τ L) ⟨σ.size + 1, 0, none⟩ 8 = some (u32C S) := fun L => rdN_all (hb3' L) (by rw [u32C_len, hSl])
  simp only [↓eD, eZ, ↓reduceIte, Nat.reduceEqDiff, Nat.reduceAdd, Nat.reduceMul, reduceCtorEq, Nat.reduceLeDiff, Int.reduceLT, Int.reduceLE, Int.reduceToNat, Int.reduceEq, Nat.reduceLT, hWl, hSl, u32C_len, tk64, st64, ne64, st8, ne8, u32C_one, u32C_rep, List.length_replicate, rd8]
  refine loop_for (J := fun t e τ' => t ≤ 64 ∧ ∃ ver, τ' = ap τ [.cells 1 (u32C W) (0, 0), .cells ver (u32C (vF W S t)) (0, 0)] ∧
   e = [(2, .pointer (some ⟨σ.size, 0, none⟩)), (3, .pointer (some ⟨σ.size + 1, 0, none⟩)), (4, .slice bs4 m.length c4), (5, .int .i64 (64 * i : Nat)), (6, .pointer (some ⟨τ.size, 0, none⟩)), (7, .pointer (some ⟨τ.size + 1, 0, none⟩)), (8, .int .i64 t)]) 64
   ⟨by omega, 1, rfl, rfl⟩ ?_
  rintro t e τ' ht ⟨_, ver, rfl, rfl⟩
  simp only [↓eD, eZ, ↓reduceIte, Nat.reduceEqDiff, Nat.reduceAdd, Nat.reduceMul, reduceCtorEq, Nat.reduceLeDiff, Int.reduceLT, Int.reduceLE, Int.reduceToNat, Int.reduceEq, Nat.reduceLT]
  refine onI_dec (fun hlt2 => ?_) (fun hge2 => ?_)
  ·have hlt2 : t < 64 := by omega
   generalize hV : vF W S t = V
   have hVl : V.length = 8 := hV ▸ vF_len hSl
   obtain ⟨x0, x1, x2, x3, x4, x5, x6, x7, rfl⟩ := len8 hVl
   have hk : ∀ L, rd1 (ap τ L) ⟨3, t, none⟩ = some (.int .u32 (roundK.getD t 0)) := fun L => by
    have := rd1_row (hG.Old (ho.trans (Old.ap (l := L)))) (u32C_get (l := roundK) (i := t) (by rw [roundK_len]; omega))
    simpa using this
   have hWg : (u32C W)[t]? = some (.int .u32 (W.getD t 0)) := u32C_get (by omega)
   have q : (0:Int) ≤ (t : Int) ∧ (t : Int) < ((64:Nat):Int) := by omega
   have hw : IntKind.wrap .i64 ((t:Int) + 1) = ((t + 1 : Nat) : Int) := by rw [wrap64 (by omega) (by omega)]; omega
   have w8 : u32C [x0, x1, x2, x3, x4, x5, x6, x7] = [.int .u32 x0, .int .u32 x1, .int .u32 x2, .int .u32 x3, .int .u32 x4, .int .u32 x5, .int .u32 x6, .int .u32 x7] := rfl
   have c0 : (0:Int) < ((8:Nat):Int) := by omega
   have c1 : (1:Int) < ((8:Nat):Int) := by omega
   have c2 : (2:Int) < ((8:Nat):Int) := by omega
   have c3 : (3:Int) < ((8:Nat):Int) := by omega
   have c4' : (4:Int) < ((8:Nat):Int) := by omega
   have c5 : (5:Int) < ((8:Nat):Int) := by omega
   have c6 : (6:Int) < ((8:Nat):Int) := by omega
   have c7 : (7:Int) < ((8:Nat):Int) := by omega
   simp only [↓eD, eZ, ↓reduceIte, Nat.reduceEqDiff, Nat.reduceAdd, Nat.reduceMul, reduceCtorEq, Nat.reduceLeDiff, Int.reduceLT, Int.reduceLE, Int.reduceToNat, Int.reduceEq, Nat.reduceLT, w8, hk, hWg, q, Int.toNat_natCast, c0, c1, c2, c3, c4', c5, c6, c7, and_W, xor_W, add_W]
   iterate 6
    refine appK_at (rotr_app rfl (by decide)) ?_
    simp only [↓eD, eZ, ↓reduceIte, Nat.reduceEqDiff, Nat.reduceAdd, Nat.reduceMul, reduceCtorEq, Nat.reduceLeDiff, Int.reduceLT, Int.reduceLE, Int.reduceToNat, Int.reduceEq, Nat.reduceLT, w8, hk, hWg, q, Int.toNat_natCast, c0, c1, c2, c3, c4', c5, c6, c7, and_W, xor_W, add_W, rep8']
   exact ⟨hlt2, by omega, ver + 1, by rw [vF, hV]; rfl, by rw [hw]⟩
  ·have : t = 64 := by omega
   subst this
   simp only [↓eD, eZ, ↓reduceIte, Nat.reduceEqDiff, Nat.reduceAdd, Nat.reduceMul, reduceCtorEq, Nat.reduceLeDiff, Int.reduceLT, Int.reduceLE, Int.reduceToNat, Int.reduceEq, Nat.reduceLT]
   have hVl : (vF W S 64).length = 8 := vF_len hSl
   have hbF : blockF S ((m.drop (64 * i)).take 64) = mixF S (vF W S 64) 8 := by rw [blockF, hWd]
   generalize vF W S 64 = V at hVl hbF
   refine loop_for (J := fun j e τ' => j ≤ 8 ∧ ∃ ver', e = [(2, .pointer (some ⟨σ.size, 0, none⟩)), (3, .pointer (some ⟨σ.size + 1, 0, none⟩)), (4, .slice bs4 m.length c4), (5, .int .i64 (64 * i : Nat)), (7, .pointer (some ⟨τ.size + 1, 0, none⟩)), (11, .int .i64 j)] ∧
     τ'.size = τ.size + 2 ∧ τ'[σ.size + 1]? = some (.cells ver' (u32C (mixF S V j)) (0, 0)) ∧ τ'[τ.size + 1]? = some (.cells ver (u32C V) (0, 0)) ∧ ∀ c, c < τ.size → c ≠ σ.size + 1 → τ'[c]? = τ[c]?) 8
    ⟨by omega, ver3, rfl, by rw [ap_size]; rfl, hb3' _, ap_new, fun c hc _ => ap_old hc⟩ ?_
   rintro j e τ' hj ⟨_, ver', rfl, hsz', h3, h7, hoth⟩
   simp only [↓eD, eZ, ↓reduceIte, Nat.reduceEqDiff, Nat.reduceAdd, Nat.reduceMul, reduceCtorEq, Nat.reduceLeDiff, Int.reduceLT, Int.reduceLE, Int.reduceToNat, Int.reduceEq, Nat.reduceLT]
   refine onI_dec (fun hlt3 => ?_) (fun hge3 => ?_)
   ·have hlt3 : j < 8 := by omega
    have hml : (mixF S V j).length = 8 := by rw [mixF_len, hSl]
    have q : (0:Int) ≤ (j : Int) ∧ (j : Int) < ((8:Nat):Int) := by omega
    have hw : IntKind.wrap .i64 ((j:Int) + 1) = ((j + 1 : Nat) : Int) := by rw [wrap64 (by omega) (by omega)]; omega
    have g3 := u32C_get (l := mixF S V j) (i := j) (by omega)
    have g7 := u32C_get (l := V) (i := j) (by omega)
    have n7 : j ≤ 7 := by omega
    simp only [↓eD, eZ, ↓reduceIte, Nat.reduceEqDiff, Nat.reduceAdd, Nat.reduceMul, reduceCtorEq, Nat.reduceLeDiff, Int.reduceLT, Int.reduceLE, Int.reduceToNat, Int.reduceEq, Nat.reduceLT, rd1_eq, wrN_eq, h3, h7, q, Int.toNat_natCast, g3, g7, add_W, u32C_len, hml, n7, u32C_set, hw]
    have g1 := get_set (k := .cells (ver' + 1) (u32C ((mixF S V j).set j (addW ((mixF S V j).getD j 0) (V.getD j 0)))) (0, 0)) h3
    have g2 : ∀ k, (τ'.setIfInBounds (σ.size + 1) k)[τ.size + 1]? = some (.cells ver (u32C V) (0, 0)) := fun k => (get_set_ne (by omega)).trans h7
    have g4 : ∀ k c, c < τ.size → c ≠ σ.size + 1 → (τ'.setIfInBounds (σ.size + 1) k)[c]? = τ[c]? := fun k c hc hne => (get_set_ne (Ne.symm hne)).trans (hoth c hc hne)
    have g5 : ∀ k, (τ'.setIfInBounds (σ.size + 1) k).size = τ.size + 2 := fun k => by simpa using hsz'
    exact ⟨hlt3, ver' + 1, g5 _, g1, g2 _, g4 _⟩
   ·have : j = 8 := by omega
    subst this
    simp only [↓eD, eZ, ↓reduceIte, Nat.reduceEqDiff, Nat.reduceAdd, Nat.reduceMul, reduceCtorEq, Nat.reduceLeDiff, Int.reduceLT, Int.reduceLE, Int.reduceToNat, Int.reduceEq, Nat.reduceLT, hw64, hw65]
    have ho' : Old σ τ' := ⟨by have := ho.1; omega, fun c hc => (hoth c (by omega) (by omega)).trans (ho.2 c hc)⟩
    have g2 := (hoth _ t2 (by omega)).trans hb2
    have g3 : τ'[σ.size + 1]? = some (.cells ver' (u32C (sF m (i + 1))) (0, 0)) := by
     rw [sF, hS, hbF]; exact h3
    have g4 : Grown (sized (σ.size + 2)) τ' 1 (.slice bs4 m.length c4) (digC m) m.length := hg.keep fun c k hc hk => by
     have := hg.base hc
     rw [sized_size] at this
     rw [hoth c this.2 (by omega)]; exact hk
    exact ⟨hlt, by omega, ver', ho', g2, g3, g4⟩
 ·have : i = M := by omega
  subst this
  simp only [↓eD, eZ, ↓reduceIte, Nat.reduceEqDiff, Nat.reduceAdd, Nat.reduceMul, reduceCtorEq, Nat.reduceLeDiff, Int.reduceLT, Int.reduceLE, Int.reduceToNat, Int.reduceEq, Nat.reduceLT, digC_rep]
  have hSl : (sF m i).length = 8 := sF_len
  have hsum : sumF b = (List.range 32).map fun j => outF (sF m i) j := by rw [sumF, hm, hM, Nat.mul_div_cancel_left _ (by omega)]
  generalize sF m i = S at hSl hsum hb3 hb3'
  refine loop_for (J := fun j e τ' => j ≤ 32 ∧ ∃ ver, e = [(2, .pointer (some ⟨σ.size, 0, none⟩)), (3, .pointer (some ⟨σ.size + 1, 0, none⟩)), (12, .pointer (some ⟨τ.size, 0, none⟩)), (13, .int .i64 j)] ∧
    τ' = ap τ [.cells ver (digC (((List.range 32).map fun j => outF S j).take j ++ List.replicate (32 - j) 0)) (0, 0)]) 32
   ⟨by omega, 0, rfl, rfl⟩ ?_
  rintro j e τ' hj ⟨_, ver, rfl, rfl⟩
  simp only [↓eD, eZ, ↓reduceIte, Nat.reduceEqDiff, Nat.reduceAdd, Nat.reduceMul, reduceCtorEq, Nat.reduceLeDiff, Int.reduceLT, Int.reduceLE, Int.reduceToNat, Int.reduceEq, Nat.reduceLT]
  refine onI_dec (fun hlt3 => ?_) (fun hge3 => ?_)
  ·have hlt3 : j < 32 := by omega
   have d4 : (j : Int).tdiv 4 = ((j / 4 : Nat) : Int) := by rw [Int.tdiv_eq_ediv_of_nonneg (by omega)]; omega
   have m4 : (j : Int).tmod 4 = ((j % 4 : Nat) : Int) := by rw [Int.tmod_eq_emod_of_nonneg (by omega)]; omega
   have p1 : IntKind.wrap .i64 ((j / 4 : Nat) : Int) = ((j / 4 : Nat) : Int) := wrap64 (by omega) (by omega)
   have p2 : IntKind.wrap .i64 (8 * ((j % 4 : Nat) : Int)) = ((8 * (j % 4) : Nat) : Int) := by rw [wrap64 (by omega) (by omega)]; omega
   have p3 : IntKind.wrap .i64 (24 - ((8 * (j % 4) : Nat) : Int)) = ((24 - 8 * (j % 4) : Nat) : Int) := by rw [wrap64 (by omega) (by omega)]; omega
   have p4 : ¬ ((24 - 8 * (j % 4) : Nat) : Int) < 0 := by omega
   have q : (0:Int) ≤ ((j / 4 : Nat) : Int) ∧ ((j / 4 : Nat) : Int) < ((8:Nat):Int) := by omega
   have q' : (0:Int) ≤ (j : Int) ∧ (j : Int) < ((32:Nat):Int) := by omega
   have hw : IntKind.wrap .i64 ((j:Int) + 1) = ((j + 1 : Nat) : Int) := by rw [wrap64 (by omega) (by omega)]; omega
   have g3 : ∀ L, rd1 (ap τ L) ⟨σ.size + 1, j / 4, none⟩ = some (.int .u32 (S.getD (j / 4) 0)) := fun L => by rw [rd1_eq, hb3', rdc1_cells, u32C_get (l := S) (i := j / 4) (by omega)]
   have hll : (((List.range 32).map fun j => outF S j).take j ++ List.replicate (32 - j) 0).length = 32 := by simp; omega
   have n7 : j ≤ 31 := by omega
   have hset : (((List.range 32).map fun j => outF S j).take j ++ List.replicate (32 - j) 0).set j (outF S j) = ((List.range 32).map fun j => outF S j).take (j + 1) ++ List.replicate (32 - (j + 1)) 0 := by
    have ht : (((List.range 32).map fun j => outF S j).take j).length = j := by simp; omega
    rw [List.set_append, if_neg (by omega), ht, Nat.sub_self, List.take_add_one]
    have : 32 - j = (32 - (j + 1)) + 1 := by omega
    rw [this, List.replicate_succ, List.set_cons_zero, List.append_assoc]
    simp [hlt3]
   have ho8 : IntKind.wrap .u8 (shrW (S.getD (j / 4) 0) (24 - 8 * (j % 4))) = outF S j := rfl
   simp only [↓eD, eZ, ↓reduceIte, Nat.reduceEqDiff, Nat.reduceAdd, Nat.reduceMul, reduceCtorEq, Nat.reduceLeDiff, Int.reduceLT, Int.reduceLE, Int.reduceToNat, Int.reduceEq, Nat.reduceLT, d4, m4, p1, p2, p3, p4, q, q', g3, Int.toNat_natCast, shr_W, ho8, digC_length, hll, n7, digC_set, hset, hw]
   exact ⟨hlt3, ver + 1, rfl⟩
  ·have : j = 32 := by omega
   subst this
   have hfull : (((List.range 32).map fun j => outF S j).take 32 ++ List.replicate (32 - 32) 0) = sumF b := by rw [hsum, List.take_of_length_le (by simp)]; simp
   rw [hfull]
   have t32 := digC_take (l := sumF b) sumF_len
   have s32 := digC_sets (z := List.replicate 32 0) (l := sumF b) (by simp [sumF_len])
   have n32 := digC_ne' (l := sumF b) sumF_len (by omega)
   have w2 : ∀ L, wrN (ap τ L) ⟨σ.size, 0, none⟩ (digC (sumF b)) = some ((ap τ L).setIfInBounds σ.size (.cells 1 (digC (sumF b)) (0, 0))) := fun L => by
    rw [wrN_eq, if_neg (by rw [n32]; exact id), hb2', wrc_cells, s32, if_pos ⟨by simp [digC_length, sumF_len], digC_one⟩]; rfl
   have r2 : ∀ L, rdN ((ap τ L).setIfInBounds σ.size (.cells 1 (digC (sumF b)) (0, 0))) ⟨σ.size, 0, none⟩ 32 = some (digC (sumF b)) := fun L => rdN_all (get_set (hb2' L)) (by rw [digC_length, sumF_len])
   simp only [↓eD, eZ, ↓reduceIte, Nat.reduceEqDiff, Nat.reduceAdd, Nat.reduceMul, reduceCtorEq, Nat.reduceLeDiff, Int.reduceLT, Int.reduceLE, Int.reduceToNat, Int.reduceEq, Nat.reduceLT, digC_length, sumF_len, t32, w2, r2]
   refine ⟨(ho.trans .ap).set (Nat.le_refl _), ?_⟩
   simp [flat, digC, flat.flat1]
@[irreducible] def shortF (b : List Int) : List Int := (sumF b).take 16
theorem shortF_len {b : List Int} : (shortF b).length = 16 := by simp [shortF, sumF_len]
@[irreducible] def ofF (tag : Int) (l : List ByteArray) : List Int := shortF (inputF tag l)
theorem ofF_len {tag : Int} {l : List ByteArray} : (ofF tag l).length = 16 := by rw [ofF]; exact shortF_len
theorem flat_dig {d : List Int} : flat (.agg (digC d).toArray) = true := by simp [flat, digC, flat.flat1]
theorem short_app {σ : H} {sl : Value} {b : List Int} (hr : Whl σ 1 sl b.length (digC b)) (hl : b.length < 100000000000000) (hG : Glob σ) :
  App Tryd.prog (.func 65) #[] #[sl] σ fun v σ' => σ' = σ ∧ v = .agg (digC (shortF b)).toArray := by
 refine App.forget (App.of_sem mixed Tryd.func65 t65 k65 r65 (Nat.le_of_ble_eq_true rfl) ?_)
 unfold s65
 have e0 : ap σ [] = σ := ap_nil
 rw [← e0]
 simp only [↓eD, eZ, ↓reduceIte, Nat.reduceEqDiff, Nat.reduceAdd, Nat.reduceMul, reduceCtorEq, Nat.reduceLeDiff, Int.reduceLT, Int.reduceLE, Int.reduceToNat, Int.reduceEq, Nat.reduceLT]
 refine appK_at (sum_app (hr.Old .ap) hl (hG.Old .ap)) ?_
 have t32 := digC_take (l := sumF b) sumF_len
 have s32 := digC_sets (z := List.replicate 32 0) (l := sumF b) (by simp [sumF_len])
 have n32 := digC_ne' (l := sumF b) sumF_len (by omega)
 have s16 := digC_sets (z := List.replicate 16 0) (l := List.replicate 16 0) rfl
 have n16 := digC_ne' (l := List.replicate 16 0) (n := 16) rfl (by omega)
 have l16 : (List.replicate 16 (0 : Int)).length = 16 := rfl
 have f16 : fillL (digC (List.replicate 16 0)) [] = some (digC (List.replicate 16 0)) := rfl
 simp only [↓eD, eZ, ↓reduceIte, Nat.reduceEqDiff, Nat.reduceAdd, Nat.reduceMul, reduceCtorEq, Nat.reduceLeDiff, Int.reduceLT, Int.reduceLE, Int.reduceToNat, Int.reduceEq, Nat.reduceLT, digC_rep, digC_length, sumF_len, t32, s32, n32, digC_one, List.length_replicate, s16, n16, f16]
 refine loop_for (J := fun j e τ' => j ≤ 16 ∧ ∃ ver, e = [(2, .pointer (some ⟨σ.size, 0, none⟩)), (3, .pointer (some ⟨σ.size + 1, 0, none⟩)), (4, .pointer (some ⟨σ.size + 2, 0, none⟩)), (5, .int .i64 j)] ∧
   τ' = ap σ [.cells 0 (digC (List.replicate 16 0)) (0, 0), .cells 1 (digC (sumF b)) (0, 0), .cells ver (digC ((sumF b).take j ++ List.replicate (16 - j) 0)) (0, 0)]) 16
  ⟨by omega, 1, rfl, by simp⟩ ?_
 rintro j e τ' hj ⟨_, ver, rfl, rfl⟩
 have hsl : (sumF b).length = 32 := sumF_len
 simp only [↓eD, eZ, ↓reduceIte, Nat.reduceEqDiff, Nat.reduceAdd, Nat.reduceMul, reduceCtorEq, Nat.reduceLeDiff, Int.reduceLT, Int.reduceLE, Int.reduceToNat, Int.reduceEq, Nat.reduceLT]
 refine onI_dec (fun hlt3 => ?_) (fun hge3 => ?_)
 ·have hlt3 : j < 16 := by omega
  have q : (0:Int) ≤ (j : Int) ∧ (j : Int) < ((32:Nat):Int) := by omega
  have q' : (0:Int) ≤ (j : Int) ∧ (j : Int) < ((16:Nat):Int) := by omega
  have hw : IntKind.wrap .i64 ((j:Int) + 1) = ((j + 1 : Nat) : Int) := by rw [wrap64 (by omega) (by omega)]; omega
  have g3 := digC_get (l := sumF b) (i := j) (by omega)
  have hll : ((sumF b).take j ++ List.replicate (16 - j) 0).length = 16 := by simp [hsl]; omega
  have n7 : j ≤ 15 := by omega
  have hset : ((sumF b).take j ++ List.replicate (16 - j) 0).set j ((sumF b).getD j 0) = (sumF b).take (j + 1) ++ List.replicate (16 - (j + 1)) 0 := by
   have ht : ((sumF b).take j).length = j := by simp [hsl]; omega
   have hj32 : j < (sumF b).length := by omega
   rw [List.set_append, if_neg (by omega), ht, Nat.sub_self, List.take_add_one]
   have : 16 - j = (16 - (j + 1)) + 1 := by omega
   rw [this, List.replicate_succ, List.set_cons_zero, List.append_assoc]
   simp [hj32]
  simp only [↓eD, eZ, ↓reduceIte, Nat.reduceEqDiff, Nat.reduceAdd, Nat.reduceMul, reduceCtorEq, Nat.reduceLeDiff, Int.reduceLT, Int.reduceLE, Int.reduceToNat, Int.reduceEq, Nat.reduceLT, q, q', g3, Int.toNat_natCast, digC_length, hll, n7, digC_set, hset, hw]
  exact ⟨hlt3, ver + 1, rfl⟩
 ·have : j = 16 := by omega
  subst this
  have hfull : ((sumF b).take 16 ++ List.replicate (16 - 16) 0) = shortF b := by simp [shortF]
  rw [hfull]
  have t16 := digC_take (l := shortF b) shortF_len
  have u16 := digC_sets (z := List.replicate 16 0) (l := shortF b) (by simp [shortF_len])
  have m16 := digC_ne' (l := shortF b) shortF_len (by omega)
  simp only [↓eD, eZ, ↓reduceIte, Nat.reduceEqDiff, Nat.reduceAdd, Nat.reduceMul, reduceCtorEq, Nat.reduceLeDiff, Int.reduceLT, Int.reduceLE, Int.reduceToNat, Int.reduceEq, Nat.reduceLT, digC_length, shortF_len, t16, u16, m16, digC_one, List.length_replicate]
  exact ⟨.ap, flat_dig⟩
theorem of_app {σ : H} {sl : Value} {l : List ByteArray} {tag : Int} (hr : Whl σ 1 sl l.length (l.map .string)) (hl : l.length < 100) (hs : ∀ s ∈ l, s.size < 100000000000) (hG : Glob σ) :
  App Tryd.prog (.func 41) #[] #[.int .i64 tag, sl] σ fun v σ' => σ' = σ ∧ v = .agg (digC (ofF tag l)).toArray := by
 refine App.forget (App.of_sem mixed Tryd.func41 t41 k41 r41 (Nat.le_of_ble_eq_true rfl) ?_)
 unfold s41
 have e0 : ap σ [] = σ := ap_nil
 rw [← e0]
 simp only [↓eD, eZ, ↓reduceIte, Nat.reduceEqDiff, Nat.reduceAdd, Nat.reduceMul, reduceCtorEq, Nat.reduceLeDiff, Int.reduceLT, Int.reduceLE, Int.reduceToNat, Int.reduceEq, Nat.reduceLT]
 refine appK_of (input_app (hr.Old .ap) hl hs) ?_
 rintro v σ1 ⟨ho1, hg1⟩
 simp only [↓eD, eZ, ↓reduceIte, Nat.reduceEqDiff, Nat.reduceAdd, Nat.reduceMul, reduceCtorEq, Nat.reduceLeDiff, Int.reduceLT, Int.reduceLE, Int.reduceToNat, Int.reduceEq, Nat.reduceLT]
 have hlen : (inputF tag l).length < 100000000000000 := by
  have : ∀ l' : List ByteArray, (∀ s ∈ l', s.size < 100000000000) → (l'.flatMap bytesF).length ≤ l'.length * 100000000010 := by
   intro l'
   induction l' with
   |nil => intro _; simp
   |cons a l' ih =>
    intro h
    have h1 := ih fun s hs => h s (by simp [hs])
    have h2 := h a (by simp)
    have h3 : (intF a.size).length ≤ 10 := intF_len
    simp only [List.flatMap_cons, List.length_append, List.length_cons, bytesF, strI_len]
    omega
  have := this l hs
  simp only [inputF, partsF, List.length_cons]
  omega
 refine appK_at (short_app hg1.whl hlen (hG.Old (Old.ap.trans ho1))) ?_
 have hz : σ1[σ.size]? = some (.cells 0 (digC (List.replicate 16 0)) (0, 0)) := (ho1.2 _ (by simp [ap_size])).trans (by rw [ap_new0]; rfl)
 have t16 := digC_take (l := ofF tag l) ofF_len
 have u16 := digC_sets (z := List.replicate 16 0) (l := ofF tag l) (by simp [ofF_len])
 have m16 := digC_ne' (l := ofF tag l) ofF_len (by omega)
 have w2 : wrN σ1 ⟨σ.size, 0, none⟩ (digC (ofF tag l)) = some (σ1.setIfInBounds σ.size (.cells 1 (digC (ofF tag l)) (0, 0))) := by
  rw [wrN_eq, if_neg (by rw [m16]; exact id), hz, wrc_cells, u16, if_pos ⟨by simp [digC_length, ofF_len], digC_one⟩]; rfl
 have r2 : rdN (σ1.setIfInBounds σ.size (.cells 1 (digC (ofF tag l)) (0, 0))) ⟨σ.size, 0, none⟩ 16 = some (digC (ofF tag l)) := rdN_all (get_set hz) (by rw [digC_length, ofF_len])
 have hof : shortF (inputF tag l) = ofF tag l := by rw [ofF]
 simp only [↓eD, eZ, ↓reduceIte, Nat.reduceEqDiff, Nat.reduceAdd, Nat.reduceMul, reduceCtorEq, Nat.reduceLeDiff, Int.reduceLT, Int.reduceLE, Int.reduceToNat, Int.reduceEq, Nat.reduceLT, hof, digC_length, ofF_len, t16, w2, r2]
 exact ⟨(Old.ap.trans ho1).set (Nat.le_refl _), flat_dig⟩
set_option maxHeartbeats 1000000
theorem orW_comm {a b : Int} : orW a b = orW b a := by unfold orW; rw [BitVec.or_comm]
theorem xorW_comm {a b : Int} : xorW a b = xorW b a := by unfold xorW; rw [BitVec.xor_comm]
theorem un_com {n : Int} : (some (Value.int .u32 n)).bind (unop .xor) = some (.int .u32 (xorW n 4294967295)) := by
 rw [xorW_comm]; rfl
theorem rotl_app {x m : Int} {n : Nat} {σ : H} (hm : m = -(n : Int)) (h1 : 1 ≤ n) (h2 : n ≤ 31) : App Tryd.prog (.func 91) #[] #[.int .u32 x, .int .i64 m] σ fun v σ' => σ' = σ ∧ v = .int .u32 (rotrF x n) := by
 subst hm
 refine App.of_sem mixed Tryd.func91 t91 k91 r91 (Nat.le_of_ble_eq_true rfl) ?_
 unfold s91
 have w1 : IntKind.wrap .u64 (BitVec.ofInt (IntKind.bits .u64) (IntKind.wrap .u64 (-(n : Int))) &&& BitVec.ofInt (IntKind.bits .u64) 31).toNat = ((32 - n : Nat) : Int) := by
  obtain ⟨k, hk, hk2⟩ : ∃ k : Nat, IntKind.wrap .u64 (-(n : Int)) = (k : Int) ∧ k = 18446744073709551616 - n := ⟨18446744073709551616 - n, by rw [wrap_u64_mod]; omega, rfl⟩
  rw [hk, show BitVec.ofInt (IntKind.bits .u64) 31 = BitVec.ofInt (IntKind.bits .u64) ((31 : Nat) : Int) from rfl, and_u64 (by omega) (by omega), Nat.and_two_pow_sub_one_eq_mod (n := 5)]
  congr 1
  omega
 have w2 : ¬ ((32 - n : Nat) : Int) < 0 := by omega
 have w3 : IntKind.wrap .u64 (32 - ((32 - n : Nat) : Int)) = (n : Int) := by rw [wrap_u64 (by omega) (by omega)]; omega
 have w4 : ¬ (n : Int) < 0 := by omega
 have hr : rotrF x n = orW (shlW x (32 - n)) (shrW x n) := by unfold rotrF; rw [orW_comm]
 simp only [↓eD, eZ, ↓reduceIte, Nat.reduceEqDiff, Nat.reduceAdd, Nat.reduceMul, reduceCtorEq, Nat.reduceLeDiff, Int.reduceLT, Int.reduceLE, Int.reduceToNat, Int.reduceEq, Nat.reduceLT, w1, w2, w3, w4, Int.toNat_natCast, or_W, shl_W, shr_W]
 rw [hr]
theorem mix_app {x : Int} {i j k : Nat} {σ : H} (hi : 1 ≤ i ∧ i ≤ 31) (hj : 1 ≤ j ∧ j ≤ 31) (hk : 1 ≤ k ∧ k ≤ 31) : App Tryd.prog (.func 85) #[] #[.int .u32 x, .int .i64 (i : Int), .int .i64 (j : Int), .int .i64 (k : Int)] σ fun v σ' => σ' = σ ∧ v = .int .u32 (xorW (xorW (rotrF x i) (rotrF x j)) (rotrF x k)) := by
 refine App.of_sem mixed Tryd.func85 t85 k85 r85 (Nat.le_of_ble_eq_true rfl) ?_
 unfold s85
 have w : ∀ n : Nat, n ≤ 31 → IntKind.wrap .i64 (0 - (n : Int)) = -(n : Int) := fun n hn => by rw [wrap64' (by omega) (by omega)]; omega
 have w1 := w i hi.2
 have w2 := w j hj.2
 have w3 := w k hk.2
 simp only [↓eD, eZ, ↓reduceIte, Nat.reduceEqDiff, Nat.reduceAdd, Nat.reduceMul, reduceCtorEq, Nat.reduceLeDiff, Int.reduceLT, Int.reduceLE, Int.reduceToNat, Int.reduceEq, Nat.reduceLT, w1]
 refine appK_at (rotl_app (n := i) rfl hi.1 hi.2) ?_
 simp only [↓eD, eZ, ↓reduceIte, Nat.reduceEqDiff, Nat.reduceAdd, Nat.reduceMul, reduceCtorEq, Nat.reduceLeDiff, Int.reduceLT, Int.reduceLE, Int.reduceToNat, Int.reduceEq, Nat.reduceLT, w2]
 refine appK_at (rotl_app (n := j) rfl hj.1 hj.2) ?_
 simp only [↓eD, eZ, ↓reduceIte, Nat.reduceEqDiff, Nat.reduceAdd, Nat.reduceMul, reduceCtorEq, Nat.reduceLeDiff, Int.reduceLT, Int.reduceLE, Int.reduceToNat, Int.reduceEq, Nat.reduceLT, w3, xor_W]
 refine appK_at (rotl_app (n := k) rfl hk.1 hk.2) ?_
 simp only [↓eD, eZ, ↓reduceIte, Nat.reduceEqDiff, Nat.reduceAdd, Nat.reduceMul, reduceCtorEq, Nat.reduceLeDiff, Int.reduceLT, Int.reduceLE, Int.reduceToNat, Int.reduceEq, Nat.reduceLT, xor_W]
theorem orW_add {a b i : Nat} (hb : b < 2 ^ i) (h : a * 2 ^ i + b < 4294967296) : orW ((a * 2 ^ i : Nat) : Int) (b : Int) = ((a * 2 ^ i + b : Nat) : Int) := by
 unfold orW
 rw [bv_or (by show a * 2 ^ i < 4294967296; omega) (by show b < 4294967296; omega), ← Nat.shiftLeft_eq, ← Nat.shiftLeft_add_eq_or_of_lt hb]
 rw [Nat.shiftLeft_eq]
 exact wrap_u32 (by omega) (by omega)
theorem shlW_nat {a n : Nat} (hn : n ≤ 32) (h : a * 2 ^ n < 4294967296) : shlW (a : Int) n = ((a * 2 ^ n : Nat) : Int) := by
 unfold shlW
 rw [Nat.min_eq_left hn, show ((a : Int) * 2 ^ n) = ((a * 2 ^ n : Nat) : Int) by simp]
 exact wrap_u32 (by omega) (by omega)
def nextW (a b : Int) : Int := orW (shlW a 8) (IntKind.wrap .u32 b)
theorem nextW_nat {a b : Nat} (hb : b < 256) (h : a < 16777216) : nextW (a : Int) (b : Int) = ((a * 256 + b : Nat) : Int) := by
 unfold nextW
 rw [shlW_nat (by omega) (by omega), wrap_u32 (by omega) (by omega), orW_add (by omega) (by omega)]
theorem beW_nat {a b c d : Nat} (ha : a < 256) (hb : b < 256) (hc : c < 256) (hd : d < 256) :
  orW (orW (orW (shlW (IntKind.wrap .u32 (a : Int)) 24) (shlW (IntKind.wrap .u32 (b : Int)) 16)) (shlW (IntKind.wrap .u32 (c : Int)) 8)) (IntKind.wrap .u32 (d : Int)) = (((a * 256 + b) * 256 + c) * 256 + d : Nat) := by
 rw [wrap_u32 (by omega) (by omega), wrap_u32 (by omega) (by omega), wrap_u32 (by omega) (by omega), wrap_u32 (by omega) (by omega), shlW_nat (by omega) (by omega), shlW_nat (by omega) (by omega), shlW_nat (by omega) (by omega)]
 rw [orW_add (i := 24) (by omega) (by omega)]
 rw [show a * 2 ^ 24 + b * 2 ^ 16 = (a * 256 + b) * 2 ^ 16 by omega, orW_add (i := 16) (by omega) (by omega)]
 rw [show (a * 256 + b) * 2 ^ 16 + c * 2 ^ 8 = ((a * 256 + b) * 256 + c) * 2 ^ 8 by omega, orW_add (i := 8) (by omega) (by omega)]
theorem beW_next {b : List Int} (hb : ∀ x ∈ b, 0 ≤ x ∧ x ≤ 255) {t : Nat} : nextW (nextW (nextW (nextW 0 (b.getD (4 * t) 0)) (b.getD (4 * t + 1) 0)) (b.getD (4 * t + 2) 0)) (b.getD (4 * t + 3) 0) = beW b t := by
 have h : ∀ i, ∃ n : Nat, b.getD i 0 = (n : Int) ∧ n < 256 := by
  intro i
  by_cases hi : i < b.length
  ·have := hb b[i] (by simp)
   refine ⟨b[i].toNat, ?_, by omega⟩
   simp [hi]; omega
  ·exact ⟨0, by simp [hi], by omega⟩
 obtain ⟨n0, e0, h0⟩ := h (4 * t)
 obtain ⟨n1, e1, h1⟩ := h (4 * t + 1)
 obtain ⟨n2, e2, h2⟩ := h (4 * t + 2)
 obtain ⟨n3, e3, h3⟩ := h (4 * t + 3)
 unfold beW
 rw [e0, e1, e2, e3, beW_nat h0 h1 h2 h3, show (0 : Int) = ((0 : Nat) : Int) from rfl, nextW_nat h0 (by omega), nextW_nat h1 (by omega), nextW_nat h2 (by omega), nextW_nat h3 (by omega)]
 congr 1
 omega
theorem w1_zero {b : List Int} : ∀ {t j : Nat}, t ≤ j → (w1 b t).getD j 0 = 0
 |0, j, _ => by
  simp only [w1, List.getD_eq_getElem?_getD, List.getElem?_replicate]
  split <;> rfl
 |t + 1, j, h => by
  have := w1_zero (b := b) (t := t) (j := j) (by omega)
  simp only [w1, List.getD_eq_getElem?_getD] at this ⊢
  rw [List.getElem?_set_ne (by omega)]
  exact this
def accW (b : List Int) (i : Nat) : Nat → Int
 |0 => 0
 |q + 1 => nextW (accW b i q) (b.getD (4 * i + q) 0)
theorem accW_four {b : List Int} (hb : ∀ x ∈ b, 0 ≤ x ∧ x ≤ 255) {i : Nat} : accW b i 4 = beW b i := beW_next hb
def wA (b : List Int) (i : Nat) : List Int := if i ≤ 16 then w1 b i else w2 (w1 b 16) (i - 16)
theorem wA_low {b : List Int} {i : Nat} (h : i ≤ 16) : wA b i = w1 b i := if_pos h
theorem wA_high {b : List Int} {i : Nat} : wA b (i + 16) = w2 (w1 b 16) i := by
 unfold wA
 split
 ·have : i = 0 := by omega
  subst this
  rfl
 ·rw [Nat.add_sub_cancel]
theorem wA_len {b : List Int} {i : Nat} : (wA b i).length = 64 := by
 unfold wA
 split
 ·exact w1_len
 ·exact w2_len w1_len
theorem schedule_app {σ : H} {b : List Int} {sl : Value} (hb : ∀ x ∈ b, 0 ≤ x ∧ x ≤ 255) (hr : Whl σ 1 sl 64 (digC b)) :
  App Tryd.prog (.func 84) #[] #[sl] σ fun v σ' => σ' = σ ∧ v = .agg (u32C (wordsF b)).toArray := by
 refine App.forget (App.of_sem mixed Tryd.func84 t84 k84 r84 (Nat.le_of_ble_eq_true rfl) ?_)
 have hbl : b.length = 64 := by have := hr.1; simpa [digC] using this
 obtain ⟨base, cp, rfl⟩ := hr.slice
 unfold s84
 rw [← ap_nil (σ := σ)]
 simp only [↓eD, eZ, ↓reduceIte, Nat.reduceEqDiff, Nat.reduceAdd, Nat.reduceMul, reduceCtorEq, Nat.reduceLeDiff, Int.reduceLT, Int.reduceLE, Int.reduceToNat, Int.reduceEq, Nat.reduceLT, u32C_rep]
 refine loop_for (J := fun i e τ => i ≤ 64 ∧ ∃ ver, e = [(0, .slice base 64 cp), (2, .pointer (some ⟨σ.size, 0, none⟩)), (3, .pointer (some ⟨σ.size + 1, 0, none⟩)), (11, .int .i64 (i : Int))] ∧
  τ = ap σ [.cells 0 (u32C (List.replicate 64 0)) (0, 0), .cells ver (u32C (wA b i)) (0, 0)]) 64 ⟨by omega, 0, rfl, rfl⟩ ?_
 rintro i e τ hi ⟨_, ver, rfl, rfl⟩
 by_cases hlt : i < 64
 case neg =>
  have : i = 64 := by omega
  subst this
  have dl : decide (((64 : Nat) : Int) < 64) = false := by decide
  have hw : wA b 64 = wordsF b := wA_high (i := 48)
  rw [hw]
  have tk := u32C_take (l := wordsF b) wordsF_len
  have st := u32C_sets (z := List.replicate 64 0) (l := wordsF b) (by simp [wordsF_len])
  have ne := u32C_ne (l := wordsF b) wordsF_len (by omega)
  simp only [↓eD, eZ, ↓reduceIte, Nat.reduceEqDiff, Nat.reduceAdd, Nat.reduceMul, reduceCtorEq, Nat.reduceLeDiff, Int.reduceLT, Int.reduceLE, Int.reduceToNat, Int.reduceEq, Nat.reduceLT, dl, u32C_len, wordsF_len, tk, st, ne, u32C_one, List.length_replicate]
  exact ⟨.ap, by simp [flat, u32C, flat.flat1]⟩
 have dl : decide ((i : Int) < 64) = true := by rw [decide_eq_true]; omega
 have hwi : IntKind.wrap .i64 ((i : Int) + 1) = ((i + 1 : Nat) : Int) := by rw [wrap64' (by omega) (by omega)]; omega
 by_cases h16 : i < 16
 ·have d16 : decide ((i : Int) < 16) = true := by rw [decide_eq_true]; omega
  have m1 : IntKind.wrap .i64 (4 * (i : Int)) = ((4 * i : Nat) : Int) := by rw [wrap64' (by omega) (by omega)]; omega
  have m2 : IntKind.wrap .i64 (((4 * i : Nat) : Int) + 4) = ((4 * i + 4 : Nat) : Int) := by rw [wrap64' (by omega) (by omega)]; omega
  obtain ⟨v', hsl, hW⟩ := sliceV_whl (lo := 4 * i) (hi := 4 * i + 4) hr (.inl rfl) (by omega) (by omega)
  rw [show 4 * i + 4 - 4 * i = 4 by omega, Nat.mul_one, Nat.mul_one] at hW
  obtain ⟨vb, vc, rfl⟩ := hW.slice
  obtain ⟨vk, vo, rfl, h4⟩ := hW.at (by omega)
  rw [Nat.mul_one] at h4
  have hrd : ∀ l q, q < 4 → rd1 (ap σ l) ⟨vk, vo + q, none⟩ = some (.int .u8 (b.getD (4 * i + q) 0)) := fun l q hq => by
   refine rd1_row (rdN_old h4) ?_
   rw [List.getElem?_take, if_pos hq, List.getElem?_drop]
   exact digC_get (by omega)
  rw [wA_low (by omega)]
  simp only [↓eD, eZ, ↓reduceIte, Nat.reduceEqDiff, Nat.reduceAdd, Nat.reduceMul, reduceCtorEq, Nat.reduceLeDiff, Int.reduceLT, Int.reduceLE, Int.reduceToNat, Int.reduceEq, Nat.reduceLT, dl, d16, m1, m2]
  refine onV_of hsl ?_
  simp only [↓eD, eZ, ↓reduceIte, Nat.reduceEqDiff, Nat.reduceAdd, Nat.reduceMul, reduceCtorEq, Nat.reduceLeDiff, Int.reduceLT, Int.reduceLE, Int.reduceToNat, Int.reduceEq, Nat.reduceLT]
  have hwl : (w1 b i).length = 64 := w1_len
  refine loop_for (J := fun q e τ' => q ≤ 4 ∧ ∃ ver, e = [(0, .slice base 64 cp), (2, .pointer (some ⟨σ.size, 0, none⟩)), (3, .pointer (some ⟨σ.size + 1, 0, none⟩)), (4, .int .i64 (i : Int)), (11, .int .i64 (i : Int)), (22, .slice (some ⟨vk, vo, none⟩) 4 vc), (23, .int .i64 ((4 : Nat) : Int)), (24, .int .i64 (q : Int))] ∧
   τ' = ap σ [.cells 0 (u32C (List.replicate 64 0)) (0, 0), .cells ver (u32C ((w1 b i).set i (accW b i q))) (0, 0)]) 4 ⟨by omega, ver, rfl, ?_⟩ ?_
  ·have h0 : (w1 b i)[i]'(by omega) = 0 := by
    have := w1_zero (b := b) (t := i) (j := i) (Nat.le_refl _)
    simpa [List.getD_eq_getElem?_getD, hwl, hlt] using this
   have : (w1 b i).set i (accW b i 0) = w1 b i := by
    show (w1 b i).set i 0 = w1 b i
    rw [← h0]; exact List.set_getElem_self _
   rw [this]
  ·rintro q e τ' hq ⟨_, ver, rfl, rfl⟩
   by_cases hq4 : q < 4
   ·have dq : decide ((q : Int) < ((4 : Nat) : Int)) = true := by rw [decide_eq_true]; omega
    have hwq : IntKind.wrap .i64 ((q : Int) + 1) = ((q + 1 : Nat) : Int) := by rw [wrap64' (by omega) (by omega)]; omega
    have hbq : (0:Int) ≤ (q : Int) ∧ (q : Int) < ((4 : Nat) : Int) := by omega
    have hbi : (0:Int) ≤ (i : Int) ∧ (i : Int) < ((64 : Nat) : Int) := by omega
    have hg : (u32C ((w1 b i).set i (accW b i q)))[i]? = some (.int .u32 (accW b i q)) := by simp [u32C, hwl, hlt]
    have hn : orW (shlW (accW b i q) 8) (IntKind.wrap .u32 (b.getD (4 * i + q) 0)) = accW b i (q + 1) := rfl
    have n63 : i ≤ 63 := by omega
    have hll : ((w1 b i).set i (accW b i q)).length = 64 := by rw [List.length_set, hwl]
    have hset : ((w1 b i).set i (accW b i q)).set i (accW b i (q + 1)) = (w1 b i).set i (accW b i (q + 1)) := by simp
    have hr1 := hrd [.cells 0 (u32C (List.replicate 64 0)) (0, 0), .cells ver (u32C ((w1 b i).set i (accW b i q))) (0, 0)] q hq4
    simp only [↓eD, eZ, ↓reduceIte, Nat.reduceEqDiff, Nat.reduceAdd, Nat.reduceMul, reduceCtorEq, Nat.reduceLeDiff, Int.reduceLT, Int.reduceLE, Int.reduceToNat, Int.reduceEq, Nat.reduceLT, dq, hbq, hbi, Int.toNat_natCast, Nat.mul_one, Nat.one_mul, hr1, hg, or_W, shl_W, hn, u32C_len, hll, n63, u32C_set, hset, hwq]
    exact ⟨hq4, by omega, ver + 1, rfl⟩
   ·have : q = 4 := by omega
    subst this
    have dq : decide (((4 : Nat) : Int) < ((4 : Nat) : Int)) = false := by decide
    have he : (w1 b i).set i (accW b i 4) = wA b (i + 1) := by rw [accW_four hb, wA_low (by omega)]; rfl
    rw [he]
    simp only [↓eD, eZ, ↓reduceIte, Nat.reduceEqDiff, Nat.reduceAdd, Nat.reduceMul, reduceCtorEq, Nat.reduceLeDiff, Int.reduceLT, Int.reduceLE, Int.reduceToNat, Int.reduceEq, Nat.reduceLT, dq, hwi]
    exact ⟨hlt, by omega, ver, rfl⟩
 ·obtain ⟨j, rfl⟩ : ∃ j, i = j + 16 := ⟨i - 16, by omega⟩
  have d16 : decide (((j + 16 : Nat) : Int) < 16) = false := by rw [decide_eq_false]; omega
  have m15 : IntKind.wrap .i64 (((j + 16 : Nat) : Int) - 15) = ((j + 1 : Nat) : Int) := by rw [wrap64' (by omega) (by omega)]; omega
  have m2 : IntKind.wrap .i64 (((j + 16 : Nat) : Int) - 2) = ((j + 14 : Nat) : Int) := by rw [wrap64' (by omega) (by omega)]; omega
  have m16 : IntKind.wrap .i64 (((j + 16 : Nat) : Int) - 16) = (j : Int) := by rw [wrap64' (by omega) (by omega)]; omega
  have m7 : IntKind.wrap .i64 (((j + 16 : Nat) : Int) - 7) = ((j + 9 : Nat) : Int) := by rw [wrap64' (by omega) (by omega)]; omega
  have q15 : (0:Int) ≤ ((j + 1 : Nat) : Int) ∧ ((j + 1 : Nat) : Int) < ((64:Nat):Int) := by omega
  have q2 : (0:Int) ≤ ((j + 14 : Nat) : Int) ∧ ((j + 14 : Nat) : Int) < ((64:Nat):Int) := by omega
  have q16 : (0:Int) ≤ (j : Int) ∧ (j : Int) < ((64:Nat):Int) := by omega
  have q7 : (0:Int) ≤ ((j + 9 : Nat) : Int) ∧ ((j + 9 : Nat) : Int) < ((64:Nat):Int) := by omega
  have q0 : (0:Int) ≤ ((j + 16 : Nat) : Int) ∧ ((j + 16 : Nat) : Int) < ((64:Nat):Int) := by omega
  have hst : wA b (j + 1 + 16) = (wA b (j + 16)).set (j + 16) (stepW (wA b (j + 16)) j) := by rw [wA_high, wA_high]; rfl
  have hl : (wA b (j + 16)).length = 64 := wA_len
  rw [show j + 16 + 1 = j + 1 + 16 by omega] at hwi
  have hij : j + 16 + 1 ≤ 64 := by omega
  generalize wA b (j + 16) = W at hl hst ⊢
  have g1 : (u32C W)[j + 1]? = some (.int .u32 (W.getD (j + 1) 0)) := u32C_get (by omega)
  have g14 : (u32C W)[j + 14]? = some (.int .u32 (W.getD (j + 14) 0)) := u32C_get (by omega)
  have g0 : (u32C W)[j]? = some (.int .u32 (W.getD j 0)) := u32C_get (by omega)
  have g9 : (u32C W)[j + 9]? = some (.int .u32 (W.getD (j + 9) 0)) := u32C_get (by omega)
  simp only [↓eD, eZ, ↓reduceIte, Nat.reduceEqDiff, Nat.reduceAdd, Nat.reduceMul, reduceCtorEq, Nat.reduceLeDiff, Int.reduceLT, Int.reduceLE, Int.reduceToNat, Int.reduceEq, Nat.reduceLT, dl, d16, m15, m2, m16, m7, q15, q2, q16, q7, Int.toNat_natCast, Nat.mul_one, Nat.one_mul, g1, g14, g0, g9, shr_W]
  refine appK_at (rotl_app (n := 7) rfl (by omega) (by omega)) ?_
  simp only [↓eD, eZ, ↓reduceIte, Nat.reduceEqDiff, Nat.reduceAdd, Nat.reduceMul, reduceCtorEq, Nat.reduceLeDiff, Int.reduceLT, Int.reduceLE, Int.reduceToNat, Int.reduceEq, Nat.reduceLT]
  refine appK_at (rotl_app (n := 18) rfl (by omega) (by omega)) ?_
  simp only [↓eD, eZ, ↓reduceIte, Nat.reduceEqDiff, Nat.reduceAdd, Nat.reduceMul, reduceCtorEq, Nat.reduceLeDiff, Int.reduceLT, Int.reduceLE, Int.reduceToNat, Int.reduceEq, Nat.reduceLT, xor_W, shr_W]
  refine appK_at (rotl_app (n := 17) rfl (by omega) (by omega)) ?_
  simp only [↓eD, eZ, ↓reduceIte, Nat.reduceEqDiff, Nat.reduceAdd, Nat.reduceMul, reduceCtorEq, Nat.reduceLeDiff, Int.reduceLT, Int.reduceLE, Int.reduceToNat, Int.reduceEq, Nat.reduceLT]
  refine appK_at (rotl_app (n := 19) rfl (by omega) (by omega)) ?_
  simp only [↓eD, eZ, ↓reduceIte, Nat.reduceEqDiff, Nat.reduceAdd, Nat.reduceMul, reduceCtorEq, Nat.reduceLeDiff, Int.reduceLT, Int.reduceLE, Int.reduceToNat, Int.reduceEq, Nat.reduceLT, xor_W, shr_W, m16, m7, q16, q7, q0, Int.toNat_natCast, Nat.mul_one, Nat.one_mul, g0, g9, add_W, u32C_len, hl, hij, u32C_set, hwi]
  refine ⟨hlt, ver + 1, ?_⟩
  rw [show j + 16 + 1 = j + 1 + 16 by omega, hst]
  rfl
set_option maxHeartbeats 2000000
def HGlob (σ : H) : Prop := rdN σ ⟨2, 0, none⟩ 64 = some (u32C roundK)
theorem HGlob.Old {σ τ : H} (h : HGlob σ) (ho : Old σ τ) : HGlob τ := rdN_Old ho h
theorem compress_app {σ : H} {S b : List Int} {sl : Value} (hS : S.length = 8) (hb : ∀ x ∈ b, 0 ≤ x ∧ x ≤ 255) (hr : Whl σ 1 sl 64 (digC b)) (hG : HGlob σ) :
  App Tryd.prog (.func 76) #[] #[.agg (u32C S).toArray, sl] σ fun v σ' => σ' = σ ∧ v = .agg (u32C (blockF S b)).toArray := by
 obtain ⟨s0, s1, s2, s3, s4, s5, s6, s7, rfl⟩ := len8 hS
 refine App.forget (App.of_sem mixed Tryd.func76 t76 k76 r76 (Nat.le_of_ble_eq_true rfl) ?_)
 have rep8 : List.replicate 8 (Value.int .u32 0) = [.int .u32 0, .int .u32 0, .int .u32 0, .int .u32 0, .int .u32 0, .int .u32 0, .int .u32 0, .int .u32 0] := rfl
 have rep4 : List.replicate 4 (Value.int .u32 0) = [.int .u32 0, .int .u32 0, .int .u32 0, .int .u32 0] := rfl
 have w8 : u32C [s0, s1, s2, s3, s4, s5, s6, s7] = [.int .u32 s0, .int .u32 s1, .int .u32 s2, .int .u32 s3, .int .u32 s4, .int .u32 s5, .int .u32 s6, .int .u32 s7] := rfl
 unfold s76
 rw [← ap_nil (σ := σ)]
 simp only [↓eD, eZ, ↓reduceIte, Nat.reduceEqDiff, Nat.reduceAdd, Nat.reduceMul, reduceCtorEq, Nat.reduceLeDiff, Int.reduceLT, Int.reduceLE, Int.reduceToNat, Int.reduceEq, Nat.reduceLT, rep8, w8]
 refine appK_at (schedule_app hb (hr.Old .ap)) ?_
 generalize hWd : wordsF b = W
 have hWl : W.length = 64 := hWd ▸ wordsF_len
 have tk64 := u32C_take hWl
 have st64 := u32C_sets (z := List.replicate 64 0) (l := W) (by simp [hWl])
 have ne64 := u32C_ne hWl (by omega)
 have sa1 : Cn.sliceArr 8 1 (.pointer (some ⟨σ.size, 0, none⟩)) none (some (.int .i64 4)) none = some (.slice (some ⟨σ.size, 0, none⟩) 4 8) := rfl
 have sa2 : Cn.sliceArr 8 1 (.pointer (some ⟨σ.size, 0, none⟩)) (some (.int .i64 4)) none none = some (.slice (some ⟨σ.size, 4, none⟩) 4 4) := rfl
 have kg : ∀ L, rdN (ap σ L) ⟨2, 0, none⟩ 64 = some (u32C roundK) := fun L => hG.Old .ap
 have rep64 : List.replicate 64 (Value.int .u32 0) = u32C (List.replicate 64 0) := u32C_rep
 simp only [↓eD, eZ, ↓reduceIte, Nat.reduceEqDiff, Nat.reduceAdd, Nat.reduceMul, reduceCtorEq, Nat.reduceLeDiff, Int.reduceLT, Int.reduceLE, Int.reduceToNat, Int.reduceEq, Nat.reduceLT, u32C_len, hWl, tk64, st64, ne64, u32C_one, rep64, rep4, List.length_replicate, sa1, sa2, kg]
 refine loop_for (J := fun t e τ => t ≤ 64 ∧ ∃ v1 v2, e = [(2, .pointer (some ⟨σ.size, 0, none⟩)), (4, .pointer (some ⟨σ.size + 1, 0, none⟩)), (5, .pointer (some ⟨σ.size + 2, 0, none⟩)), (6, .pointer (some ⟨σ.size + 3, 0, none⟩)), (7, .pointer (some ⟨σ.size + 4, 0, none⟩)), (21, .agg (u32C roundK).toArray), (22, .int .i64 (t : Int))] ∧
  τ = ap σ [.cells 0 (u32C [s0, s1, s2, s3, s4, s5, s6, s7]) (0, 0), .cells 0 [.int .u32 0, .int .u32 0, .int .u32 0, .int .u32 0, .int .u32 0, .int .u32 0, .int .u32 0, .int .u32 0] (0, 0), .cells 1 (u32C W) (0, 0),
   .cells v1 (u32C ((vF W [s0, s1, s2, s3, s4, s5, s6, s7] t).take 4)) (0, 0), .cells v2 (u32C ((vF W [s0, s1, s2, s3, s4, s5, s6, s7] t).drop 4)) (0, 0)]) 64 ⟨by omega, 1, 1, rfl, rfl⟩ ?_
 rintro t e τ ht ⟨_, v1, v2, rfl, rfl⟩
 have hst : vF W [s0, s1, s2, s3, s4, s5, s6, s7] (t + 1) = roundF (vF W [s0, s1, s2, s3, s4, s5, s6, s7] t) (roundK.getD t 0) (W.getD t 0) := rfl
 have hVl : (vF W [s0, s1, s2, s3, s4, s5, s6, s7] t).length = 8 := vF_len hS
 by_cases hlt : t < 64
 ·have dl : decide ((t : Int) < 64) = true := by rw [decide_eq_true]; omega
  have hwt : IntKind.wrap .i64 ((t : Int) + 1) = ((t + 1 : Nat) : Int) := by rw [wrap64' (by omega) (by omega)]; omega
  generalize vF W [s0, s1, s2, s3, s4, s5, s6, s7] t = V at hst hVl ⊢
  rw [hst]
  obtain ⟨x0, x1, x2, x3, x4, x5, x6, x7, rfl⟩ := len8 hVl
  have q : (0:Int) ≤ (t : Int) ∧ (t : Int) < ((64:Nat):Int) := by omega
  have hK : (u32C roundK)[t]? = some (.int .u32 (roundK.getD t 0)) := u32C_get (by rw [roundK_len]; omega)
  have hWg : (u32C W)[t]? = some (.int .u32 (W.getD t 0)) := u32C_get (by omega)
  have c8 : u32C [s0, s1, s2, s3, s4, s5, s6, s7] = [.int .u32 s0, .int .u32 s1, .int .u32 s2, .int .u32 s3, .int .u32 s4, .int .u32 s5, .int .u32 s6, .int .u32 s7] := rfl
  have ct : u32C ([x0, x1, x2, x3, x4, x5, x6, x7].take 4) = [.int .u32 x0, .int .u32 x1, .int .u32 x2, .int .u32 x3] := rfl
  have cd : u32C ([x0, x1, x2, x3, x4, x5, x6, x7].drop 4) = [.int .u32 x4, .int .u32 x5, .int .u32 x6, .int .u32 x7] := rfl
  have c0 : (0:Int) ≤ 0 ∧ (0:Int) < ((4:Nat):Int) := by omega
  have c1 : (0:Int) ≤ 1 ∧ (1:Int) < ((4:Nat):Int) := by omega
  have c2 : (0:Int) ≤ 2 ∧ (2:Int) < ((4:Nat):Int) := by omega
  have c3 : (0:Int) ≤ 3 ∧ (3:Int) < ((4:Nat):Int) := by omega
  rw [ct, cd, c8]
  simp only [↓eD, eZ, ↓reduceIte, Nat.reduceEqDiff, Nat.reduceAdd, Nat.reduceMul, reduceCtorEq, Nat.reduceLeDiff, Int.reduceLT, Int.reduceLE, Int.reduceToNat, Int.reduceEq, Nat.reduceLT, dl, q, Int.toNat_natCast, Nat.mul_one, Nat.one_mul, partOf_none, hK, c0, c1, c2, c3, and_W, xor_W, un_com, hWg]
  refine appK_at (mix_app (i := 6) (j := 11) (k := 25) (by omega) (by omega) (by omega)) ?_
  simp only [↓eD, eZ, ↓reduceIte, Nat.reduceEqDiff, Nat.reduceAdd, Nat.reduceMul, reduceCtorEq, Nat.reduceLeDiff, Int.reduceLT, Int.reduceLE, Int.reduceToNat, Int.reduceEq, Nat.reduceLT, dl, q, Int.toNat_natCast, Nat.mul_one, Nat.one_mul, c0, c1, c2, c3, and_W, xor_W, un_com, add_W, hWg]
  refine appK_at (mix_app (i := 2) (j := 13) (k := 22) (by omega) (by omega) (by omega)) ?_
  simp only [↓eD, eZ, ↓reduceIte, Nat.reduceEqDiff, Nat.reduceAdd, Nat.reduceMul, reduceCtorEq, Nat.reduceLeDiff, Int.reduceLT, Int.reduceLE, Int.reduceToNat, Int.reduceEq, Nat.reduceLT, dl, q, Int.toNat_natCast, Nat.mul_one, Nat.one_mul, c0, c1, c2, c3, and_W, xor_W, un_com, add_W, hWg, rep4, hwt]
  exact ⟨hlt, by omega, _, _, rfl⟩
 ·have : t = 64 := by omega
  subst this
  have dl : decide (((64 : Nat) : Int) < 64) = false := by decide
  have hbl : blockF [s0, s1, s2, s3, s4, s5, s6, s7] b = mixF [s0, s1, s2, s3, s4, s5, s6, s7] (vF W [s0, s1, s2, s3, s4, s5, s6, s7] 64) 8 := by rw [blockF, hWd]
  rw [hbl]
  clear hst hbl
  generalize vF W [s0, s1, s2, s3, s4, s5, s6, s7] 64 = V at hVl ⊢
  obtain ⟨x0, x1, x2, x3, x4, x5, x6, x7, rfl⟩ := len8 hVl
  have ct : u32C ([x0, x1, x2, x3, x4, x5, x6, x7].take 4) = [.int .u32 x0, .int .u32 x1, .int .u32 x2, .int .u32 x3] := rfl
  have cd : u32C ([x0, x1, x2, x3, x4, x5, x6, x7].drop 4) = [.int .u32 x4, .int .u32 x5, .int .u32 x6, .int .u32 x7] := rfl
  rw [ct, cd]
  simp only [↓eD, eZ, ↓reduceIte, Nat.reduceEqDiff, Nat.reduceAdd, Nat.reduceMul, reduceCtorEq, Nat.reduceLeDiff, Int.reduceLT, Int.reduceLE, Int.reduceToNat, Int.reduceEq, Nat.reduceLT, dl]
  refine loop_for (J := fun i e τ => i ≤ 4 ∧ ∃ v0, e = [(2, .pointer (some ⟨σ.size, 0, none⟩)), (4, .pointer (some ⟨σ.size + 1, 0, none⟩)), (6, .pointer (some ⟨σ.size + 3, 0, none⟩)), (7, .pointer (some ⟨σ.size + 4, 0, none⟩)), (94, .int .i64 (i : Int))] ∧
   τ = ap σ [.cells v0 (match i with
    |0 => [.int .u32 s0, .int .u32 s1, .int .u32 s2, .int .u32 s3, .int .u32 s4, .int .u32 s5, .int .u32 s6, .int .u32 s7]
    |1 => [.int .u32 (addW s0 x0), .int .u32 s1, .int .u32 s2, .int .u32 s3, .int .u32 (addW s4 x4), .int .u32 s5, .int .u32 s6, .int .u32 s7]
    |2 => [.int .u32 (addW s0 x0), .int .u32 (addW s1 x1), .int .u32 s2, .int .u32 s3, .int .u32 (addW s4 x4), .int .u32 (addW s5 x5), .int .u32 s6, .int .u32 s7]
    |3 => [.int .u32 (addW s0 x0), .int .u32 (addW s1 x1), .int .u32 (addW s2 x2), .int .u32 s3, .int .u32 (addW s4 x4), .int .u32 (addW s5 x5), .int .u32 (addW s6 x6), .int .u32 s7]
    |_ => [.int .u32 (addW s0 x0), .int .u32 (addW s1 x1), .int .u32 (addW s2 x2), .int .u32 (addW s3 x3), .int .u32 (addW s4 x4), .int .u32 (addW s5 x5), .int .u32 (addW s6 x6), .int .u32 (addW s7 x7)]) (0, 0),
    .cells 0 [.int .u32 0, .int .u32 0, .int .u32 0, .int .u32 0, .int .u32 0, .int .u32 0, .int .u32 0, .int .u32 0] (0, 0), .cells 1 (u32C W) (0, 0),
    .cells v1 [.int .u32 x0, .int .u32 x1, .int .u32 x2, .int .u32 x3] (0, 0), .cells v2 [.int .u32 x4, .int .u32 x5, .int .u32 x6, .int .u32 x7] (0, 0)]) 4 ⟨by omega, 0, rfl, rfl⟩ ?_
  rintro i e τ hi ⟨_, v0, rfl, rfl⟩
  have c8 : ∀ n : Nat, n < 8 → (0:Int) ≤ (n : Int) ∧ (n : Int) < ((8:Nat):Int) := fun n hn => by omega
  have hi5 : i = 0 ∨ i = 1 ∨ i = 2 ∨ i = 3 ∨ i = 4 := by omega
  have rg : ∀ n : Nat, n < 4 → decide ((n : Int) < 4) = true ∧ IntKind.wrap .i64 ((n : Int) + 1) = ((n + 1 : Nat) : Int) ∧ IntKind.wrap .i64 ((n : Int) + 4) = ((n + 4 : Nat) : Int) ∧ ((0:Int) ≤ (n : Int) ∧ (n : Int) < ((4:Nat):Int)) ∧ ((0:Int) ≤ (n : Int) ∧ (n : Int) < ((8:Nat):Int)) ∧ ((0:Int) ≤ ((n + 4 : Nat) : Int) ∧ ((n + 4 : Nat) : Int) < ((8:Nat):Int)) := by
   intro n hn
   refine ⟨by rw [decide_eq_true]; omega, by rw [wrap64' (by omega) (by omega)]; omega, by rw [wrap64' (by omega) (by omega)]; omega, by omega, by omega, by omega⟩
  rcases hi5 with rfl | rfl | rfl | rfl | rfl
  case inr.inr.inr.inr =>
   have dl : decide (((4 : Nat) : Int) < 4) = false := by decide
   simp only [↓eD, eZ, ↓reduceIte, Nat.reduceEqDiff, Nat.reduceAdd, Nat.reduceMul, reduceCtorEq, Nat.reduceLeDiff, Int.reduceLT, Int.reduceLE, Int.reduceToNat, Int.reduceEq, Nat.reduceLT, dl, rep8]
   exact ⟨.ap, by simp [flat, flat.flat1], rfl⟩
  all_goals
   first
   |obtain ⟨d1, d2, d3, d4, d5, d6⟩ := rg 0 (by omega)
    simp only [↓eD, eZ, ↓reduceIte, Nat.reduceEqDiff, Nat.reduceAdd, Nat.reduceMul, reduceCtorEq, Nat.reduceLeDiff, Int.reduceLT, Int.reduceLE, Int.reduceToNat, Int.reduceEq, Nat.reduceLT, d1, d2, d3, d4, d5, d6, Int.toNat_natCast, Nat.mul_one, Nat.one_mul, add_W]
    exact ⟨_, rfl⟩
   |obtain ⟨d1, d2, d3, d4, d5, d6⟩ := rg 1 (by omega)
    simp only [↓eD, eZ, ↓reduceIte, Nat.reduceEqDiff, Nat.reduceAdd, Nat.reduceMul, reduceCtorEq, Nat.reduceLeDiff, Int.reduceLT, Int.reduceLE, Int.reduceToNat, Int.reduceEq, Nat.reduceLT, d1, d2, d3, d4, d5, d6, Int.toNat_natCast, Nat.mul_one, Nat.one_mul, add_W]
    exact ⟨_, rfl⟩
   |obtain ⟨d1, d2, d3, d4, d5, d6⟩ := rg 2 (by omega)
    simp only [↓eD, eZ, ↓reduceIte, Nat.reduceEqDiff, Nat.reduceAdd, Nat.reduceMul, reduceCtorEq, Nat.reduceLeDiff, Int.reduceLT, Int.reduceLE, Int.reduceToNat, Int.reduceEq, Nat.reduceLT, d1, d2, d3, d4, d5, d6, Int.toNat_natCast, Nat.mul_one, Nat.one_mul, add_W]
    exact ⟨_, rfl⟩
   |obtain ⟨d1, d2, d3, d4, d5, d6⟩ := rg 3 (by omega)
    simp only [↓eD, eZ, ↓reduceIte, Nat.reduceEqDiff, Nat.reduceAdd, Nat.reduceMul, reduceCtorEq, Nat.reduceLeDiff, Int.reduceLT, Int.reduceLE, Int.reduceToNat, Int.reduceEq, Nat.reduceLT, d1, d2, d3, d4, d5, d6, Int.toNat_natCast, Nat.mul_one, Nat.one_mul, add_W]
    exact ⟨_, rfl⟩
end Go.Proofs.YtjgbbhfihcmphaaDoor
