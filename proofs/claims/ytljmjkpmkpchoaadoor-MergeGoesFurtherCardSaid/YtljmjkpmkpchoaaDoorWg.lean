/- Walks of the functions that the claim reaches. Conditions: none. -/
import Derived.Test.YtljmjkpmkpchoaaDoorWf
set_option linter.all false
set_option linter.unusedSimpArgs false
set_option maxRecDepth 10000
set_option maxHeartbeats 4000000
namespace Go.Proofs.YtljmjkpmkpchoaaDoor
open Go Go.Cn Go.RowKit

/-- The round constants. -/
def roundK : List Int := [0x428a2f98, 0x71374491, 0xb5c0fbcf, 0xe9b5dba5, 0x3956c25b, 0x59f111f1, 0x923f82a4, 0xab1c5ed5,
  0xd807aa98, 0x12835b01, 0x243185be, 0x550c7dc3, 0x72be5d74, 0x80deb1fe, 0x9bdc06a7, 0xc19bf174,
  0xe49b69c1, 0xefbe4786, 0x0fc19dc6, 0x240ca1cc, 0x2de92c6f, 0x4a7484aa, 0x5cb0a9dc, 0x76f988da,
  0x983e5152, 0xa831c66d, 0xb00327c8, 0xbf597fc7, 0xc6e00bf3, 0xd5a79147, 0x06ca6351, 0x14292967,
  0x27b70a85, 0x2e1b2138, 0x4d2c6dfc, 0x53380d13, 0x650a7354, 0x766a0abb, 0x81c2c92e, 0x92722c85,
  0xa2bfe8a1, 0xa81a664b, 0xc24b8b70, 0xc76c51a3, 0xd192e819, 0xd6990624, 0xf40e3585, 0x106aa070,
  0x19a4c116, 0x1e376c08, 0x2748774c, 0x34b0bcb5, 0x391c0cb3, 0x4ed8aa4a, 0x5b9cca4f, 0x682e6ff3,
  0x748f82ee, 0x78a5636f, 0x84c87814, 0x8cc70208, 0x90befffa, 0xa4506ceb, 0xbef9a3f7, 0xc67178f2]
theorem roundK_len : roundK.length = 64 := rfl

/-- The constants lie in the first global. -/
def Glob (σ : H) : Prop := rdN σ ⟨0, 0, none⟩ 64 = some (u32C roundK)
theorem Glob.Old {σ τ : H} (h : Glob σ) (ho : Old σ τ) : Glob τ := rdN_Old ho h

def roundX (v : List Int) (k w : Int) : Int :=
  addW (addW (addW (addW (v.getD 7 0) (xorW (xorW (rotrF (v.getD 4 0) 6) (rotrF (v.getD 4 0) 11)) (rotrF (v.getD 4 0) 25)))
    (xorW (andW (v.getD 4 0) (v.getD 5 0)) (andW (xorW (v.getD 4 0) 4294967295) (v.getD 6 0)))) k) w
def roundY (v : List Int) : Int :=
  addW (xorW (xorW (rotrF (v.getD 0 0) 2) (rotrF (v.getD 0 0) 13)) (rotrF (v.getD 0 0) 22))
    (xorW (xorW (andW (v.getD 0 0) (v.getD 1 0)) (andW (v.getD 0 0) (v.getD 2 0))) (andW (v.getD 1 0) (v.getD 2 0)))
def roundF (v : List Int) (k w : Int) : List Int :=
  [addW (roundX v k w) (roundY v), v.getD 0 0, v.getD 1 0, v.getD 2 0, addW (v.getD 3 0) (roundX v k w), v.getD 4 0, v.getD 5 0, v.getD 6 0]
def vF (w s : List Int) : Nat → List Int
  | 0 => s
  | t + 1 => roundF (vF w s t) (roundK.getD t 0) (w.getD t 0)
theorem vF_len {w s : List Int} (h : s.length = 8) : ∀ {t : Nat}, (vF w s t).length = 8
  | 0 => h
  | t + 1 => rfl
/-- Some elements are added to. -/
def mixF (s v : List Int) : Nat → List Int
  | 0 => s
  | i + 1 => (mixF s v i).set i (addW ((mixF s v i).getD i 0) (v.getD i 0))
theorem mixF_len {s v : List Int} : ∀ {i : Nat}, (mixF s v i).length = s.length
  | 0 => rfl
  | i + 1 => by rw [mixF, List.length_set]; exact mixF_len
@[irreducible] def blockF (s b : List Int) : List Int := mixF s (vF (wordsF b) s 64) 8
def s0 : List Int := [1779033703, 3144134277, 1013904242, 2773480762, 1359893119, 2600822924, 528734635, 1541459225]
def sF (m : List Int) : Nat → List Int
  | 0 => s0
  | k + 1 => blockF (sF m k) ((m.drop (64 * k)).take 64)
theorem sF_len {m : List Int} : ∀ {k : Nat}, (sF m k).length = 8
  | 0 => rfl
  | k + 1 => by rw [sF, blockF, mixF_len]; exact sF_len
def outF (s : List Int) (i : Nat) : Int := IntKind.wrap .u8 (shrW (s.getD (i / 4) 0) (24 - 8 * (i % 4)))
@[irreducible] def sumF (b : List Int) : List Int := (List.range 32).map fun i => outF (sF (paddedF b) ((paddedF b).length / 64)) i
theorem sumF_len {b : List Int} : (sumF b).length = 32 := by simp [sumF]

theorem u32C_ne {l : List Int} {n : Nat} (h : l.length = n) (hn : 0 < n) : (u32C l = []) = False := by
  have : (u32C l).length = n := by rw [u32C_len, h]
  simp only [eq_iff_iff, iff_false]; intro h; rw [h] at this; simp at this; omega
theorem u32C_sets {l z : List Int} (h : l.length = z.length) : sets (u32C z) 0 (u32C l) = u32C l := by
  rw [sets_all (by simp [u32C_len, h]), u32C_len, h]; simp [u32C]
theorem u32C_take {l : List Int} {n : Nat} (h : l.length = n) : (u32C l).take n = u32C l := List.take_of_length_le (by rw [u32C_len, h]; omega)
theorem digC_ne' {l : List Int} {n : Nat} (h : l.length = n) (hn : 0 < n) : (digC l = []) = False := by
  have : (digC l).length = n := by rw [digC_length, h]
  simp only [eq_iff_iff, iff_false]; intro h; rw [h] at this; simp at this; omega
theorem digC_sets {l z : List Int} (h : l.length = z.length) : sets (digC z) 0 (digC l) = digC l := by
  rw [sets_all (by simp [digC_length, h]), digC_length, h]; simp [digC]
theorem digC_take {l : List Int} {n : Nat} (h : l.length = n) : (digC l).take n = digC l := List.take_of_length_le (by rw [digC_length, h]; omega)

theorem len8 {l : List Int} (h : l.length = 8) : ∃ a b c d e f g i, l = [a, b, c, d, e, f, g, i] := by
  match l, h with
  | [a, b, c, d, e, f, g, i], _ => exact ⟨a, b, c, d, e, f, g, i, rfl⟩

theorem sum_app {σ : H} {sl : Value} {b : List Int} (hr : Whl σ 1 sl b.length (digC b)) (hl : b.length < 100000000000000) (hG : Glob σ) :
    App Tryd.prog (.func 44) #[] #[sl] σ fun v σ' => σ' = σ ∧ v = .agg (digC (sumF b)).toArray := by
  refine App.forget (App.of_sem mixed Tryd.func44 t44 k44 r44 (Nat.le_of_ble_eq_true rfl) ?_)
  unfold s44
  have e0 : ap σ [] = σ := ap_nil
  have rep8 : List.replicate 8 (Value.int .u32 0) = [.int .u32 0, .int .u32 0, .int .u32 0, .int .u32 0, .int .u32 0, .int .u32 0, .int .u32 0, .int .u32 0] := rfl
  have rep8' : u32C (List.replicate 8 0) = [.int .u32 0, .int .u32 0, .int .u32 0, .int .u32 0, .int .u32 0, .int .u32 0, .int .u32 0, .int .u32 0] := rfl
  rw [← e0]
  simp only [↓eD0, ↓eD1, eC0, eC1, eC2, eC3, eC4, eC5, eC6, wantedE, ↓reduceIte, Nat.reduceEqDiff, Option.map_some, Option.map_none, reread, List.nil_append, List.cons_append, List.map_cons, List.map_nil, List.length_nil, List.length_cons, Value.cells, List.getElem?_cons_zero, List.getElem?_cons_succ, outE, lks, lkR, rdV, neg1, evs, opt, Nat.reduceAdd, Nat.reduceMul, and_self, reduceCtorEq, List.size_toArray, List.all_cons, List.all_nil, Value.oneCell', List.set_cons_zero, List.set_cons_succ, sets, fillL, Nat.reduceLeDiff, List.drop_succ_cons, List.drop_zero, List.take_succ_cons, List.take_zero, List.toList_toArray, argsE, Array.append_empty, Array.empty_append, List.getElem?_toArray, Int.reduceLT, Int.reduceLE, Int.reduceToNat, Int.reduceEq, Nat.reduceLT, rep8]
  refine appK_of (padded_app (hr.Old .ap) hl) ?_
  rintro v4 σ1 ⟨ho1, hg1⟩
  simp only [↓eD0, ↓eD1, eC0, eC1, eC2, eC3, eC4, eC5, eC6, wantedE, ↓reduceIte, Nat.reduceEqDiff, Option.map_some, Option.map_none, reread, List.nil_append, List.cons_append, List.map_cons, List.map_nil, List.length_nil, List.length_cons, Value.cells, List.getElem?_cons_zero, List.getElem?_cons_succ, outE, lks, lkR, rdV, neg1, evs, opt, Nat.reduceAdd, Nat.reduceMul, and_self, reduceCtorEq, List.size_toArray, List.all_cons, List.all_nil, Value.oneCell', List.set_cons_zero, List.set_cons_succ, sets, fillL, Nat.reduceLeDiff, List.drop_succ_cons, List.drop_zero, List.take_succ_cons, List.take_zero, List.toList_toArray, argsE, Array.append_empty, Array.empty_append, List.getElem?_toArray, Int.reduceLT, Int.reduceLE, Int.reduceToNat, Int.reduceEq, Nat.reduceLT]
  generalize hm : paddedF b = m at hg1
  have hm64 : m.length % 64 = 0 := hm ▸ padded_64
  have hmL : m.length < 200000000000000 := by rw [← hm, padded_len, padN]; omega
  obtain ⟨M, hM⟩ : ∃ M, m.length = 64 * M := ⟨m.length / 64, by omega⟩
  refine loop_for (J := fun i e τ => i ≤ M ∧ ∃ ver3, e = [(2, .pointer (some ⟨σ.size, 0, none⟩)), (3, .pointer (some ⟨σ.size + 1, 0, none⟩)), (4, v4), (5, .int .i64 (64 * i : Nat))] ∧ Old σ τ ∧
      τ[σ.size]? = some (.cells 0 (digC (List.replicate 32 0)) (0, 0)) ∧ τ[σ.size + 1]? = some (.cells ver3 (u32C (sF m i)) (0, 0)) ∧ Grown (sized (σ.size + 2)) τ 1 v4 (digC m) m.length) M
    ⟨by omega, 1, rfl, Old.ap.trans ho1, (ho1.2 _ (by simp [ap_size])).trans (by rw [ap_new0]; rfl), (ho1.2 _ (by simp [ap_size])).trans (by rw [ap_new]; rfl), hg1.sized (by simp [ap_size])⟩ ?_
  rintro i e τ hi ⟨_, ver3, rfl, ho, hb2, hb3, hg⟩
  have e1 : ap τ [] = τ := ap_nil
  have t2 : σ.size < τ.size := (Array.getElem?_eq_some_iff.1 hb2).1
  have t3 : σ.size + 1 < τ.size := (Array.getElem?_eq_some_iff.1 hb3).1
  have hb2' : ∀ L, (ap τ L)[σ.size]? = some _ := fun L => (ap_old t2).trans hb2
  have hb3' : ∀ L, (ap τ L)[σ.size + 1]? = some _ := fun L => (ap_old t3).trans hb3
  obtain ⟨bs4, c4, rfl⟩ := hg.slice
  rw [← e1]
  simp only [↓eD0, ↓eD1, eC0, eC1, eC2, eC3, eC4, eC5, eC6, wantedE, ↓reduceIte, Nat.reduceEqDiff, Option.map_some, Option.map_none, reread, List.nil_append, List.cons_append, List.map_cons, List.map_nil, List.length_nil, List.length_cons, Value.cells, List.getElem?_cons_zero, List.getElem?_cons_succ, outE, lks, lkR, rdV, neg1, evs, opt, Nat.reduceAdd, Nat.reduceMul, and_self, reduceCtorEq, List.size_toArray, List.all_cons, List.all_nil, Value.oneCell', List.set_cons_zero, List.set_cons_succ, sets, fillL, Nat.reduceLeDiff, List.drop_succ_cons, List.drop_zero, List.take_succ_cons, List.take_zero, List.toList_toArray, argsE, Array.append_empty, Array.empty_append, List.getElem?_toArray, Int.reduceLT, Int.reduceLE, Int.reduceToNat, Int.reduceEq, Nat.reduceLT]
  refine onI_dec (fun hlt => ?_) (fun hge => ?_)
  · have hlt : i < M := by omega
    have hw64 : IntKind.wrap .i64 (((64 * i : Nat) : Int) + 64) = ((64 * i + 64 : Nat) : Int) := by rw [wrap64 (by omega) (by omega)]; omega
    have hw65 : ((64 * i + 64 : Nat) : Int) = ((64 * (i + 1) : Nat) : Int) := by omega
    simp only [↓eD0, ↓eD1, eC0, eC1, eC2, eC3, eC4, eC5, eC6, wantedE, ↓reduceIte, Nat.reduceEqDiff, Option.map_some, Option.map_none, reread, List.nil_append, List.cons_append, List.map_cons, List.map_nil, List.length_nil, List.length_cons, Value.cells, List.getElem?_cons_zero, List.getElem?_cons_succ, outE, lks, lkR, rdV, neg1, evs, opt, Nat.reduceAdd, Nat.reduceMul, and_self, reduceCtorEq, List.size_toArray, List.all_cons, List.all_nil, Value.oneCell', List.set_cons_zero, List.set_cons_succ, sets, fillL, Nat.reduceLeDiff, List.drop_succ_cons, List.drop_zero, List.take_succ_cons, List.take_zero, List.toList_toArray, argsE, Array.append_empty, Array.empty_append, List.getElem?_toArray, Int.reduceLT, Int.reduceLE, Int.reduceToNat, Int.reduceEq, Nat.reduceLT, hw64]
    obtain ⟨v', hsl, hW⟩ := sliceV_whl (lo := 64 * i) (hi := 64 * i + 64) (hg.old (Old.ap (l := []))).whl (.inl rfl) (by omega) (by omega)
    refine onV_of hsl ?_
    have hsz : 64 * i + 64 - 64 * i = 64 := by omega
    rw [hsz, Nat.mul_one, Nat.mul_one] at hW
    have hdt : ((digC m).drop (64 * i)).take 64 = digC ((m.drop (64 * i)).take 64) := by simp [digC]
    rw [hdt] at hW
    simp only [↓eD0, ↓eD1, eC0, eC1, eC2, eC3, eC4, eC5, eC6, wantedE, ↓reduceIte, Nat.reduceEqDiff, Option.map_some, Option.map_none, reread, List.nil_append, List.cons_append, List.map_cons, List.map_nil, List.length_nil, List.length_cons, Value.cells, List.getElem?_cons_zero, List.getElem?_cons_succ, outE, lks, lkR, rdV, neg1, evs, opt, Nat.reduceAdd, Nat.reduceMul, and_self, reduceCtorEq, List.size_toArray, List.all_cons, List.all_nil, Value.oneCell', List.set_cons_zero, List.set_cons_succ, sets, fillL, Nat.reduceLeDiff, List.drop_succ_cons, List.drop_zero, List.take_succ_cons, List.take_zero, List.toList_toArray, argsE, Array.append_empty, Array.empty_append, List.getElem?_toArray, Int.reduceLT, Int.reduceLE, Int.reduceToNat, Int.reduceEq, Nat.reduceLT]
    refine appK_of (words_app hW) ?_
    rintro _ _ ⟨e2, rfl⟩
    rw [e2]
    clear e2
    generalize hWd : wordsF ((m.drop (64 * i)).take 64) = W
    have hWl : W.length = 64 := hWd ▸ wordsF_len
    generalize hS : sF m i = S at hb3 hb3'
    have hSl : S.length = 8 := hS ▸ sF_len
    have tk64 := u32C_take hWl
    have st64 := u32C_sets (z := List.replicate 64 0) (l := W) (by simp [hWl])
    have ne64 := u32C_ne hWl (by omega)
    have st8 := u32C_sets (z := List.replicate 8 0) (l := S) (by simp [hSl])
    have ne8 := u32C_ne hSl (by omega)
    have rd8 : ∀ L, rdN (ap τ L) ⟨σ.size + 1, 0, none⟩ 8 = some (u32C S) := fun L => rdN_all (hb3' L) (by rw [u32C_len, hSl])
    simp only [↓eD0, ↓eD1, eC0, eC1, eC2, eC3, eC4, eC5, eC6, wantedE, ↓reduceIte, Nat.reduceEqDiff, Option.map_some, Option.map_none, reread, List.nil_append, List.cons_append, List.map_cons, List.map_nil, List.length_nil, List.length_cons, Value.cells, List.getElem?_cons_zero, List.getElem?_cons_succ, outE, lks, lkR, rdV, neg1, evs, opt, Nat.reduceAdd, Nat.reduceMul, and_self, reduceCtorEq, List.size_toArray, List.all_cons, List.all_nil, Value.oneCell', List.set_cons_zero, List.set_cons_succ, sets, fillL, Nat.reduceLeDiff, List.drop_succ_cons, List.drop_zero, List.take_succ_cons, List.take_zero, List.toList_toArray, argsE, Array.append_empty, Array.empty_append, List.getElem?_toArray, Int.reduceLT, Int.reduceLE, Int.reduceToNat, Int.reduceEq, Nat.reduceLT, hWl, hSl, u32C_len, tk64, st64, ne64, st8, ne8, u32C_one, u32C_rep, List.length_replicate, rd8]
    refine loop_for (J := fun t e τ' => t ≤ 64 ∧ ∃ ver, τ' = ap τ [.cells 1 (u32C W) (0, 0), .cells ver (u32C (vF W S t)) (0, 0)] ∧
      e = [(2, .pointer (some ⟨σ.size, 0, none⟩)), (3, .pointer (some ⟨σ.size + 1, 0, none⟩)), (4, .slice bs4 m.length c4), (5, .int .i64 (64 * i : Nat)), (6, .pointer (some ⟨τ.size, 0, none⟩)), (7, .pointer (some ⟨τ.size + 1, 0, none⟩)), (8, .int .i64 t)]) 64
      ⟨by omega, 1, rfl, rfl⟩ ?_
    rintro t e τ' ht ⟨_, ver, rfl, rfl⟩
    simp only [↓eD0, ↓eD1, eC0, eC1, eC2, eC3, eC4, eC5, eC6, wantedE, ↓reduceIte, Nat.reduceEqDiff, Option.map_some, Option.map_none, reread, List.nil_append, List.cons_append, List.map_cons, List.map_nil, List.length_nil, List.length_cons, Value.cells, List.getElem?_cons_zero, List.getElem?_cons_succ, outE, lks, lkR, rdV, neg1, evs, opt, Nat.reduceAdd, Nat.reduceMul, and_self, reduceCtorEq, List.size_toArray, List.all_cons, List.all_nil, Value.oneCell', List.set_cons_zero, List.set_cons_succ, sets, fillL, Nat.reduceLeDiff, List.drop_succ_cons, List.drop_zero, List.take_succ_cons, List.take_zero, List.toList_toArray, argsE, Array.append_empty, Array.empty_append, List.getElem?_toArray, Int.reduceLT, Int.reduceLE, Int.reduceToNat, Int.reduceEq, Nat.reduceLT]
    refine onI_dec (fun hlt2 => ?_) (fun hge2 => ?_)
    · have hlt2 : t < 64 := by omega
      generalize hV : vF W S t = V
      have hVl : V.length = 8 := hV ▸ vF_len hSl
      obtain ⟨x0, x1, x2, x3, x4, x5, x6, x7, rfl⟩ := len8 hVl
      have hk : ∀ L, rd1 (ap τ L) ⟨0, t, none⟩ = some (.int .u32 (roundK.getD t 0)) := fun L => by
        have := rd1_row (hG.Old (ho.trans (Old.ap (l := L)))) (u32C_get (l := roundK) (i := t) (by rw [roundK_len]; omega))
        simpa using this
      have hWg : (u32C W)[t]? = some (.int .u32 (W.getD t 0)) := u32C_get (by omega)
      have q : (0:Int) ≤ (t : Int) ∧ (t : Int) < ((64:Nat):Int) := by omega
      have hw : IntKind.wrap .i64 ((t:Int) + 1) = ((t + 1 : Nat) : Int) := by rw [wrap64 (by omega) (by omega)]; omega
      have w8 : u32C [x0, x1, x2, x3, x4, x5, x6, x7] = [.int .u32 x0, .int .u32 x1, .int .u32 x2, .int .u32 x3, .int .u32 x4, .int .u32 x5, .int .u32 x6, .int .u32 x7] := rfl
      have c0 : (0:Int) < ((8:Nat):Int) := by omega
      have c1 : (1:Int) < ((8:Nat):Int) := by omega
      have c2 : (2:Int) < ((8:Nat):Int) := by omega
      have c3 : (3:Int) < ((8:Nat):Int) := by omega
      have c4' : (4:Int) < ((8:Nat):Int) := by omega
      have c5 : (5:Int) < ((8:Nat):Int) := by omega
      have c6 : (6:Int) < ((8:Nat):Int) := by omega
      have c7 : (7:Int) < ((8:Nat):Int) := by omega
      simp only [↓eD0, ↓eD1, eC0, eC1, eC2, eC3, eC4, eC5, eC6, wantedE, ↓reduceIte, Nat.reduceEqDiff, Option.map_some, Option.map_none, reread, List.nil_append, List.cons_append, List.map_cons, List.map_nil, List.length_nil, List.length_cons, Value.cells, List.getElem?_cons_zero, List.getElem?_cons_succ, outE, lks, lkR, rdV, neg1, evs, opt, Nat.reduceAdd, Nat.reduceMul, and_self, reduceCtorEq, List.size_toArray, List.all_cons, List.all_nil, Value.oneCell', List.set_cons_zero, List.set_cons_succ, sets, fillL, Nat.reduceLeDiff, List.drop_succ_cons, List.drop_zero, List.take_succ_cons, List.take_zero, List.toList_toArray, argsE, Array.append_empty, Array.empty_append, List.getElem?_toArray, Int.reduceLT, Int.reduceLE, Int.reduceToNat, Int.reduceEq, Nat.reduceLT, w8, hk, hWg, q, Int.toNat_natCast, c0, c1, c2, c3, c4', c5, c6, c7, and_W, xor_W, add_W]
      iterate 6
        refine appK_of (rotr_app rfl (by decide)) ?_
        rintro _ _ ⟨e2, rfl⟩
        rw [e2]
        clear e2
        simp only [↓eD0, ↓eD1, eC0, eC1, eC2, eC3, eC4, eC5, eC6, wantedE, ↓reduceIte, Nat.reduceEqDiff, Option.map_some, Option.map_none, reread, List.nil_append, List.cons_append, List.map_cons, List.map_nil, List.length_nil, List.length_cons, Value.cells, List.getElem?_cons_zero, List.getElem?_cons_succ, outE, lks, lkR, rdV, neg1, evs, opt, Nat.reduceAdd, Nat.reduceMul, and_self, reduceCtorEq, List.size_toArray, List.all_cons, List.all_nil, Value.oneCell', List.set_cons_zero, List.set_cons_succ, sets, fillL, Nat.reduceLeDiff, List.drop_succ_cons, List.drop_zero, List.take_succ_cons, List.take_zero, List.toList_toArray, argsE, Array.append_empty, Array.empty_append, List.getElem?_toArray, Int.reduceLT, Int.reduceLE, Int.reduceToNat, Int.reduceEq, Nat.reduceLT, w8, hk, hWg, q, Int.toNat_natCast, c0, c1, c2, c3, c4', c5, c6, c7, and_W, xor_W, add_W, rep8']
      exact ⟨hlt2, by omega, ver + 1, by rw [vF, hV]; rfl, by rw [hw]⟩
    · have : t = 64 := by omega
      subst this
      simp only [↓eD0, ↓eD1, eC0, eC1, eC2, eC3, eC4, eC5, eC6, wantedE, ↓reduceIte, Nat.reduceEqDiff, Option.map_some, Option.map_none, reread, List.nil_append, List.cons_append, List.map_cons, List.map_nil, List.length_nil, List.length_cons, Value.cells, List.getElem?_cons_zero, List.getElem?_cons_succ, outE, lks, lkR, rdV, neg1, evs, opt, Nat.reduceAdd, Nat.reduceMul, and_self, reduceCtorEq, List.size_toArray, List.all_cons, List.all_nil, Value.oneCell', List.set_cons_zero, List.set_cons_succ, sets, fillL, Nat.reduceLeDiff, List.drop_succ_cons, List.drop_zero, List.take_succ_cons, List.take_zero, List.toList_toArray, argsE, Array.append_empty, Array.empty_append, List.getElem?_toArray, Int.reduceLT, Int.reduceLE, Int.reduceToNat, Int.reduceEq, Nat.reduceLT]
      have hVl : (vF W S 64).length = 8 := vF_len hSl
      have hbF : blockF S ((m.drop (64 * i)).take 64) = mixF S (vF W S 64) 8 := by rw [blockF, hWd]
      generalize vF W S 64 = V at hVl hbF
      refine loop_for (J := fun j e τ' => j ≤ 8 ∧ ∃ ver', e = [(2, .pointer (some ⟨σ.size, 0, none⟩)), (3, .pointer (some ⟨σ.size + 1, 0, none⟩)), (4, .slice bs4 m.length c4), (5, .int .i64 (64 * i : Nat)), (7, .pointer (some ⟨τ.size + 1, 0, none⟩)), (11, .int .i64 j)] ∧
          τ'.size = τ.size + 2 ∧ τ'[σ.size + 1]? = some (.cells ver' (u32C (mixF S V j)) (0, 0)) ∧ τ'[τ.size + 1]? = some (.cells ver (u32C V) (0, 0)) ∧ ∀ c, c < τ.size → c ≠ σ.size + 1 → τ'[c]? = τ[c]?) 8
        ⟨by omega, ver3, rfl, by rw [ap_size]; rfl, hb3' _, ap_new, fun c hc _ => ap_old hc⟩ ?_
      rintro j e τ' hj ⟨_, ver', rfl, hsz', h3, h7, hoth⟩
      simp only [↓eD0, ↓eD1, eC0, eC1, eC2, eC3, eC4, eC5, eC6, wantedE, ↓reduceIte, Nat.reduceEqDiff, Option.map_some, Option.map_none, reread, List.nil_append, List.cons_append, List.map_cons, List.map_nil, List.length_nil, List.length_cons, Value.cells, List.getElem?_cons_zero, List.getElem?_cons_succ, outE, lks, lkR, rdV, neg1, evs, opt, Nat.reduceAdd, Nat.reduceMul, and_self, reduceCtorEq, List.size_toArray, List.all_cons, List.all_nil, Value.oneCell', List.set_cons_zero, List.set_cons_succ, sets, fillL, Nat.reduceLeDiff, List.drop_succ_cons, List.drop_zero, List.take_succ_cons, List.take_zero, List.toList_toArray, argsE, Array.append_empty, Array.empty_append, List.getElem?_toArray, Int.reduceLT, Int.reduceLE, Int.reduceToNat, Int.reduceEq, Nat.reduceLT]
      refine onI_dec (fun hlt3 => ?_) (fun hge3 => ?_)
      · have hlt3 : j < 8 := by omega
        have hml : (mixF S V j).length = 8 := by rw [mixF_len, hSl]
        have q : (0:Int) ≤ (j : Int) ∧ (j : Int) < ((8:Nat):Int) := by omega
        have hw : IntKind.wrap .i64 ((j:Int) + 1) = ((j + 1 : Nat) : Int) := by rw [wrap64 (by omega) (by omega)]; omega
        have g3 := u32C_get (l := mixF S V j) (i := j) (by omega)
        have g7 := u32C_get (l := V) (i := j) (by omega)
        have n7 : j ≤ 7 := by omega
        simp only [↓eD0, ↓eD1, eC0, eC1, eC2, eC3, eC4, eC5, eC6, wantedE, ↓reduceIte, Nat.reduceEqDiff, Option.map_some, Option.map_none, reread, List.nil_append, List.cons_append, List.map_cons, List.map_nil, List.length_nil, List.length_cons, Value.cells, List.getElem?_cons_zero, List.getElem?_cons_succ, outE, lks, lkR, rdV, neg1, evs, opt, Nat.reduceAdd, Nat.reduceMul, and_self, reduceCtorEq, List.size_toArray, List.all_cons, List.all_nil, Value.oneCell', List.set_cons_zero, List.set_cons_succ, sets, fillL, Nat.reduceLeDiff, List.drop_succ_cons, List.drop_zero, List.take_succ_cons, List.take_zero, List.toList_toArray, argsE, Array.append_empty, Array.empty_append, List.getElem?_toArray, Int.reduceLT, Int.reduceLE, Int.reduceToNat, Int.reduceEq, Nat.reduceLT, rd1_eq, wrN_eq, h3, h7, q, Int.toNat_natCast, g3, g7, add_W, u32C_len, hml, n7, u32C_set, hw]
        have g1 := get_set (k := .cells (ver' + 1) (u32C ((mixF S V j).set j (addW ((mixF S V j).getD j 0) (V.getD j 0)))) (0, 0)) h3
        have g2 : ∀ k, (τ'.setIfInBounds (σ.size + 1) k)[τ.size + 1]? = some (.cells ver (u32C V) (0, 0)) := fun k => (get_set_ne (by omega)).trans h7
        have g4 : ∀ k c, c < τ.size → c ≠ σ.size + 1 → (τ'.setIfInBounds (σ.size + 1) k)[c]? = τ[c]? := fun k c hc hne => (get_set_ne (Ne.symm hne)).trans (hoth c hc hne)
        have g5 : ∀ k, (τ'.setIfInBounds (σ.size + 1) k).size = τ.size + 2 := fun k => by simpa using hsz'
        exact ⟨hlt3, ver' + 1, g5 _, g1, g2 _, g4 _⟩
      · have : j = 8 := by omega
        subst this
        simp only [↓eD0, ↓eD1, eC0, eC1, eC2, eC3, eC4, eC5, eC6, wantedE, ↓reduceIte, Nat.reduceEqDiff, Option.map_some, Option.map_none, reread, List.nil_append, List.cons_append, List.map_cons, List.map_nil, List.length_nil, List.length_cons, Value.cells, List.getElem?_cons_zero, List.getElem?_cons_succ, outE, lks, lkR, rdV, neg1, evs, opt, Nat.reduceAdd, Nat.reduceMul, and_self, reduceCtorEq, List.size_toArray, List.all_cons, List.all_nil, Value.oneCell', List.set_cons_zero, List.set_cons_succ, sets, fillL, Nat.reduceLeDiff, List.drop_succ_cons, List.drop_zero, List.take_succ_cons, List.take_zero, List.toList_toArray, argsE, Array.append_empty, Array.empty_append, List.getElem?_toArray, Int.reduceLT, Int.reduceLE, Int.reduceToNat, Int.reduceEq, Nat.reduceLT, hw64, hw65]
        have ho' : Old σ τ' := ⟨by have := ho.1; omega, fun c hc => (hoth c (by omega) (by omega)).trans (ho.2 c hc)⟩
        have g2 := (hoth _ t2 (by omega)).trans hb2
        have g3 : τ'[σ.size + 1]? = some (.cells ver' (u32C (sF m (i + 1))) (0, 0)) := by
          rw [sF, hS, hbF]; exact h3
        have g4 : Grown (sized (σ.size + 2)) τ' 1 (.slice bs4 m.length c4) (digC m) m.length := hg.keep fun c k hc hk => by
          have := hg.base hc
          rw [sized_size] at this
          rw [hoth c this.2 (by omega)]; exact hk
        exact ⟨hlt, by omega, ver', ho', g2, g3, g4⟩
  · have : i = M := by omega
    subst this
    simp only [↓eD0, ↓eD1, eC0, eC1, eC2, eC3, eC4, eC5, eC6, wantedE, ↓reduceIte, Nat.reduceEqDiff, Option.map_some, Option.map_none, reread, List.nil_append, List.cons_append, List.map_cons, List.map_nil, List.length_nil, List.length_cons, Value.cells, List.getElem?_cons_zero, List.getElem?_cons_succ, outE, lks, lkR, rdV, neg1, evs, opt, Nat.reduceAdd, Nat.reduceMul, and_self, reduceCtorEq, List.size_toArray, List.all_cons, List.all_nil, Value.oneCell', List.set_cons_zero, List.set_cons_succ, sets, fillL, Nat.reduceLeDiff, List.drop_succ_cons, List.drop_zero, List.take_succ_cons, List.take_zero, List.toList_toArray, argsE, Array.append_empty, Array.empty_append, List.getElem?_toArray, Int.reduceLT, Int.reduceLE, Int.reduceToNat, Int.reduceEq, Nat.reduceLT, digC_rep]
    have hSl : (sF m i).length = 8 := sF_len
    have hsum : sumF b = (List.range 32).map fun j => outF (sF m i) j := by rw [sumF, hm, hM, Nat.mul_div_cancel_left _ (by omega)]
    generalize sF m i = S at hSl hsum hb3 hb3'
    refine loop_for (J := fun j e τ' => j ≤ 32 ∧ ∃ ver, e = [(2, .pointer (some ⟨σ.size, 0, none⟩)), (3, .pointer (some ⟨σ.size + 1, 0, none⟩)), (12, .pointer (some ⟨τ.size, 0, none⟩)), (13, .int .i64 j)] ∧
        τ' = ap τ [.cells ver (digC (((List.range 32).map fun j => outF S j).take j ++ List.replicate (32 - j) 0)) (0, 0)]) 32
      ⟨by omega, 0, rfl, rfl⟩ ?_
    rintro j e τ' hj ⟨_, ver, rfl, rfl⟩
    simp only [↓eD0, ↓eD1, eC0, eC1, eC2, eC3, eC4, eC5, eC6, wantedE, ↓reduceIte, Nat.reduceEqDiff, Option.map_some, Option.map_none, reread, List.nil_append, List.cons_append, List.map_cons, List.map_nil, List.length_nil, List.length_cons, Value.cells, List.getElem?_cons_zero, List.getElem?_cons_succ, outE, lks, lkR, rdV, neg1, evs, opt, Nat.reduceAdd, Nat.reduceMul, and_self, reduceCtorEq, List.size_toArray, List.all_cons, List.all_nil, Value.oneCell', List.set_cons_zero, List.set_cons_succ, sets, fillL, Nat.reduceLeDiff, List.drop_succ_cons, List.drop_zero, List.take_succ_cons, List.take_zero, List.toList_toArray, argsE, Array.append_empty, Array.empty_append, List.getElem?_toArray, Int.reduceLT, Int.reduceLE, Int.reduceToNat, Int.reduceEq, Nat.reduceLT]
    refine onI_dec (fun hlt3 => ?_) (fun hge3 => ?_)
    · have hlt3 : j < 32 := by omega
      have d4 : (j : Int).tdiv 4 = ((j / 4 : Nat) : Int) := by rw [Int.tdiv_eq_ediv_of_nonneg (by omega)]; omega
      have m4 : (j : Int).tmod 4 = ((j % 4 : Nat) : Int) := by rw [Int.tmod_eq_emod_of_nonneg (by omega)]; omega
      have p1 : IntKind.wrap .i64 ((j / 4 : Nat) : Int) = ((j / 4 : Nat) : Int) := wrap64 (by omega) (by omega)
      have p2 : IntKind.wrap .i64 (8 * ((j % 4 : Nat) : Int)) = ((8 * (j % 4) : Nat) : Int) := by rw [wrap64 (by omega) (by omega)]; omega
      have p3 : IntKind.wrap .i64 (24 - ((8 * (j % 4) : Nat) : Int)) = ((24 - 8 * (j % 4) : Nat) : Int) := by rw [wrap64 (by omega) (by omega)]; omega
      have p4 : ¬ ((24 - 8 * (j % 4) : Nat) : Int) < 0 := by omega
      have q : (0:Int) ≤ ((j / 4 : Nat) : Int) ∧ ((j / 4 : Nat) : Int) < ((8:Nat):Int) := by omega
      have q' : (0:Int) ≤ (j : Int) ∧ (j : Int) < ((32:Nat):Int) := by omega
      have hw : IntKind.wrap .i64 ((j:Int) + 1) = ((j + 1 : Nat) : Int) := by rw [wrap64 (by omega) (by omega)]; omega
      have g3 : ∀ L, rd1 (ap τ L) ⟨σ.size + 1, j / 4, none⟩ = some (.int .u32 (S.getD (j / 4) 0)) := fun L => by rw [rd1_eq, hb3', rdc1_cells, u32C_get (l := S) (i := j / 4) (by omega)]
      have hll : (((List.range 32).map fun j => outF S j).take j ++ List.replicate (32 - j) 0).length = 32 := by simp; omega
      have n7 : j ≤ 31 := by omega
      have hset : (((List.range 32).map fun j => outF S j).take j ++ List.replicate (32 - j) 0).set j (outF S j) = ((List.range 32).map fun j => outF S j).take (j + 1) ++ List.replicate (32 - (j + 1)) 0 := by
        have ht : (((List.range 32).map fun j => outF S j).take j).length = j := by simp; omega
        rw [List.set_append, if_neg (by omega), ht, Nat.sub_self, List.take_add_one]
        have : 32 - j = (32 - (j + 1)) + 1 := by omega
        rw [this, List.replicate_succ, List.set_cons_zero, List.append_assoc]
        simp [hlt3]
      have ho8 : IntKind.wrap .u8 (shrW (S.getD (j / 4) 0) (24 - 8 * (j % 4))) = outF S j := rfl
      simp only [↓eD0, ↓eD1, eC0, eC1, eC2, eC3, eC4, eC5, eC6, wantedE, ↓reduceIte, Nat.reduceEqDiff, Option.map_some, Option.map_none, reread, List.nil_append, List.cons_append, List.map_cons, List.map_nil, List.length_nil, List.length_cons, Value.cells, List.getElem?_cons_zero, List.getElem?_cons_succ, outE, lks, lkR, rdV, neg1, evs, opt, Nat.reduceAdd, Nat.reduceMul, and_self, reduceCtorEq, List.size_toArray, List.all_cons, List.all_nil, Value.oneCell', List.set_cons_zero, List.set_cons_succ, sets, fillL, Nat.reduceLeDiff, List.drop_succ_cons, List.drop_zero, List.take_succ_cons, List.take_zero, List.toList_toArray, argsE, Array.append_empty, Array.empty_append, List.getElem?_toArray, Int.reduceLT, Int.reduceLE, Int.reduceToNat, Int.reduceEq, Nat.reduceLT, d4, m4, p1, p2, p3, p4, q, q', g3, Int.toNat_natCast, shr_W, ho8, digC_length, hll, n7, digC_set, hset, hw]
      exact ⟨hlt3, ver + 1, rfl⟩
    · have : j = 32 := by omega
      subst this
      have hfull : (((List.range 32).map fun j => outF S j).take 32 ++ List.replicate (32 - 32) 0) = sumF b := by rw [hsum, List.take_of_length_le (by simp)]; simp
      rw [hfull]
      have t32 := digC_take (l := sumF b) sumF_len
      have s32 := digC_sets (z := List.replicate 32 0) (l := sumF b) (by simp [sumF_len])
      have n32 := digC_ne' (l := sumF b) sumF_len (by omega)
      have w2 : ∀ L, wrN (ap τ L) ⟨σ.size, 0, none⟩ (digC (sumF b)) = some ((ap τ L).setIfInBounds σ.size (.cells 1 (digC (sumF b)) (0, 0))) := fun L => by
        rw [wrN_eq, if_neg (by rw [n32]; exact id), hb2', wrc_cells, s32, if_pos ⟨by simp [digC_length, sumF_len], digC_one⟩]; rfl
      have r2 : ∀ L, rdN ((ap τ L).setIfInBounds σ.size (.cells 1 (digC (sumF b)) (0, 0))) ⟨σ.size, 0, none⟩ 32 = some (digC (sumF b)) := fun L => rdN_all (get_set (hb2' L)) (by rw [digC_length, sumF_len])
      simp only [↓eD0, ↓eD1, eC0, eC1, eC2, eC3, eC4, eC5, eC6, wantedE, ↓reduceIte, Nat.reduceEqDiff, Option.map_some, Option.map_none, reread, List.nil_append, List.cons_append, List.map_cons, List.map_nil, List.length_nil, List.length_cons, Value.cells, List.getElem?_cons_zero, List.getElem?_cons_succ, outE, lks, lkR, rdV, neg1, evs, opt, Nat.reduceAdd, Nat.reduceMul, and_self, reduceCtorEq, List.size_toArray, List.all_cons, List.all_nil, Value.oneCell', List.set_cons_zero, List.set_cons_succ, sets, fillL, Nat.reduceLeDiff, List.drop_succ_cons, List.drop_zero, List.take_succ_cons, List.take_zero, List.toList_toArray, argsE, Array.append_empty, Array.empty_append, List.getElem?_toArray, Int.reduceLT, Int.reduceLE, Int.reduceToNat, Int.reduceEq, Nat.reduceLT, digC_length, sumF_len, t32, w2, r2]
      refine ⟨(ho.trans .ap).set (Nat.le_refl _), ?_⟩
      simp [flat, digC, flat.flat1]
end Go.Proofs.YtljmjkpmkpchoaaDoor

set_option linter.unusedSimpArgs false
set_option maxRecDepth 10000
set_option maxHeartbeats 4000000
namespace Go.Proofs.YtljmjkpmkpchoaaDoor
open Go Go.Cn Go.RowKit

@[irreducible] def shortF (b : List Int) : List Int := (sumF b).take 16
theorem shortF_len {b : List Int} : (shortF b).length = 16 := by simp [shortF, sumF_len]
@[irreducible] def ofF (tag : Int) (l : List ByteArray) : List Int := shortF (inputF tag l)
theorem ofF_len {tag : Int} {l : List ByteArray} : (ofF tag l).length = 16 := by rw [ofF]; exact shortF_len

theorem flat_dig {d : List Int} : flat (.agg (digC d).toArray) = true := by simp [flat, digC, flat.flat1]

theorem short_app {σ : H} {sl : Value} {b : List Int} (hr : Whl σ 1 sl b.length (digC b)) (hl : b.length < 100000000000000) (hG : Glob σ) :
    App Tryd.prog (.func 42) #[] #[sl] σ fun v σ' => σ' = σ ∧ v = .agg (digC (shortF b)).toArray := by
  refine App.forget (App.of_sem mixed Tryd.func42 t42 k42 r42 (Nat.le_of_ble_eq_true rfl) ?_)
  unfold s42
  have e0 : ap σ [] = σ := ap_nil
  rw [← e0]
  simp only [↓eD0, ↓eD1, eC0, eC1, eC2, eC3, eC4, eC5, eC6, wantedE, ↓reduceIte, Nat.reduceEqDiff, Option.map_some, Option.map_none, reread, List.nil_append, List.cons_append, List.map_cons, List.map_nil, List.length_nil, List.length_cons, Value.cells, List.getElem?_cons_zero, List.getElem?_cons_succ, outE, lks, lkR, rdV, neg1, evs, opt, Nat.reduceAdd, Nat.reduceMul, and_self, reduceCtorEq, List.size_toArray, List.all_cons, List.all_nil, Value.oneCell', List.set_cons_zero, List.set_cons_succ, sets, fillL, Nat.reduceLeDiff, List.drop_succ_cons, List.drop_zero, List.take_succ_cons, List.take_zero, List.toList_toArray, argsE, Array.append_empty, Array.empty_append, List.getElem?_toArray, Int.reduceLT, Int.reduceLE, Int.reduceToNat, Int.reduceEq, Nat.reduceLT]
  refine appK_of (sum_app (hr.Old .ap) hl (hG.Old .ap)) ?_
  rintro _ _ ⟨e2, rfl⟩
  rw [e2]
  clear e2
  have t32 := digC_take (l := sumF b) sumF_len
  have s32 := digC_sets (z := List.replicate 32 0) (l := sumF b) (by simp [sumF_len])
  have n32 := digC_ne' (l := sumF b) sumF_len (by omega)
  have s16 := digC_sets (z := List.replicate 16 0) (l := List.replicate 16 0) rfl
  have n16 := digC_ne' (l := List.replicate 16 0) (n := 16) rfl (by omega)
  have l16 : (List.replicate 16 (0 : Int)).length = 16 := rfl
  have f16 : fillL (digC (List.replicate 16 0)) [] = some (digC (List.replicate 16 0)) := rfl
  simp only [↓eD0, ↓eD1, eC0, eC1, eC2, eC3, eC4, eC5, eC6, wantedE, ↓reduceIte, Nat.reduceEqDiff, Option.map_some, Option.map_none, reread, List.nil_append, List.cons_append, List.map_cons, List.map_nil, List.length_nil, List.length_cons, Value.cells, List.getElem?_cons_zero, List.getElem?_cons_succ, outE, lks, lkR, rdV, neg1, evs, opt, Nat.reduceAdd, Nat.reduceMul, and_self, reduceCtorEq, List.size_toArray, List.all_cons, List.all_nil, Value.oneCell', List.set_cons_zero, List.set_cons_succ, sets, fillL, Nat.reduceLeDiff, List.drop_succ_cons, List.drop_zero, List.take_succ_cons, List.take_zero, List.toList_toArray, argsE, Array.append_empty, Array.empty_append, List.getElem?_toArray, Int.reduceLT, Int.reduceLE, Int.reduceToNat, Int.reduceEq, Nat.reduceLT, digC_rep, digC_length, sumF_len, t32, s32, n32, digC_one, List.length_replicate, s16, n16, f16]
  refine loop_for (J := fun j e τ' => j ≤ 16 ∧ ∃ ver, e = [(2, .pointer (some ⟨σ.size, 0, none⟩)), (3, .pointer (some ⟨σ.size + 1, 0, none⟩)), (4, .pointer (some ⟨σ.size + 2, 0, none⟩)), (5, .int .i64 j)] ∧
      τ' = ap σ [.cells 0 (digC (List.replicate 16 0)) (0, 0), .cells 1 (digC (sumF b)) (0, 0), .cells ver (digC ((sumF b).take j ++ List.replicate (16 - j) 0)) (0, 0)]) 16
    ⟨by omega, 1, rfl, by simp⟩ ?_
  rintro j e τ' hj ⟨_, ver, rfl, rfl⟩
  have hsl : (sumF b).length = 32 := sumF_len
  simp only [↓eD0, ↓eD1, eC0, eC1, eC2, eC3, eC4, eC5, eC6, wantedE, ↓reduceIte, Nat.reduceEqDiff, Option.map_some, Option.map_none, reread, List.nil_append, List.cons_append, List.map_cons, List.map_nil, List.length_nil, List.length_cons, Value.cells, List.getElem?_cons_zero, List.getElem?_cons_succ, outE, lks, lkR, rdV, neg1, evs, opt, Nat.reduceAdd, Nat.reduceMul, and_self, reduceCtorEq, List.size_toArray, List.all_cons, List.all_nil, Value.oneCell', List.set_cons_zero, List.set_cons_succ, sets, fillL, Nat.reduceLeDiff, List.drop_succ_cons, List.drop_zero, List.take_succ_cons, List.take_zero, List.toList_toArray, argsE, Array.append_empty, Array.empty_append, List.getElem?_toArray, Int.reduceLT, Int.reduceLE, Int.reduceToNat, Int.reduceEq, Nat.reduceLT]
  refine onI_dec (fun hlt3 => ?_) (fun hge3 => ?_)
  · have hlt3 : j < 16 := by omega
    have q : (0:Int) ≤ (j : Int) ∧ (j : Int) < ((32:Nat):Int) := by omega
    have q' : (0:Int) ≤ (j : Int) ∧ (j : Int) < ((16:Nat):Int) := by omega
    have hw : IntKind.wrap .i64 ((j:Int) + 1) = ((j + 1 : Nat) : Int) := by rw [wrap64 (by omega) (by omega)]; omega
    have g3 := digC_get (l := sumF b) (i := j) (by omega)
    have hll : ((sumF b).take j ++ List.replicate (16 - j) 0).length = 16 := by simp [hsl]; omega
    have n7 : j ≤ 15 := by omega
    have hset : ((sumF b).take j ++ List.replicate (16 - j) 0).set j ((sumF b).getD j 0) = (sumF b).take (j + 1) ++ List.replicate (16 - (j + 1)) 0 := by
      have ht : ((sumF b).take j).length = j := by simp [hsl]; omega
      have hj32 : j < (sumF b).length := by omega
      rw [List.set_append, if_neg (by omega), ht, Nat.sub_self, List.take_add_one]
      have : 16 - j = (16 - (j + 1)) + 1 := by omega
      rw [this, List.replicate_succ, List.set_cons_zero, List.append_assoc]
      simp [hj32]
    simp only [↓eD0, ↓eD1, eC0, eC1, eC2, eC3, eC4, eC5, eC6, wantedE, ↓reduceIte, Nat.reduceEqDiff, Option.map_some, Option.map_none, reread, List.nil_append, List.cons_append, List.map_cons, List.map_nil, List.length_nil, List.length_cons, Value.cells, List.getElem?_cons_zero, List.getElem?_cons_succ, outE, lks, lkR, rdV, neg1, evs, opt, Nat.reduceAdd, Nat.reduceMul, and_self, reduceCtorEq, List.size_toArray, List.all_cons, List.all_nil, Value.oneCell', List.set_cons_zero, List.set_cons_succ, sets, fillL, Nat.reduceLeDiff, List.drop_succ_cons, List.drop_zero, List.take_succ_cons, List.take_zero, List.toList_toArray, argsE, Array.append_empty, Array.empty_append, List.getElem?_toArray, Int.reduceLT, Int.reduceLE, Int.reduceToNat, Int.reduceEq, Nat.reduceLT, q, q', g3, Int.toNat_natCast, digC_length, hll, n7, digC_set, hset, hw]
    exact ⟨hlt3, ver + 1, rfl⟩
  · have : j = 16 := by omega
    subst this
    have hfull : ((sumF b).take 16 ++ List.replicate (16 - 16) 0) = shortF b := by simp [shortF]
    rw [hfull]
    have t16 := digC_take (l := shortF b) shortF_len
    have u16 := digC_sets (z := List.replicate 16 0) (l := shortF b) (by simp [shortF_len])
    have m16 := digC_ne' (l := shortF b) shortF_len (by omega)
    simp only [↓eD0, ↓eD1, eC0, eC1, eC2, eC3, eC4, eC5, eC6, wantedE, ↓reduceIte, Nat.reduceEqDiff, Option.map_some, Option.map_none, reread, List.nil_append, List.cons_append, List.map_cons, List.map_nil, List.length_nil, List.length_cons, Value.cells, List.getElem?_cons_zero, List.getElem?_cons_succ, outE, lks, lkR, rdV, neg1, evs, opt, Nat.reduceAdd, Nat.reduceMul, and_self, reduceCtorEq, List.size_toArray, List.all_cons, List.all_nil, Value.oneCell', List.set_cons_zero, List.set_cons_succ, sets, fillL, Nat.reduceLeDiff, List.drop_succ_cons, List.drop_zero, List.take_succ_cons, List.take_zero, List.toList_toArray, argsE, Array.append_empty, Array.empty_append, List.getElem?_toArray, Int.reduceLT, Int.reduceLE, Int.reduceToNat, Int.reduceEq, Nat.reduceLT, digC_length, shortF_len, t16, u16, m16, digC_one, List.length_replicate]
    exact ⟨.ap, flat_dig⟩

theorem of_app {σ : H} {sl : Value} {l : List ByteArray} {tag : Int} (hr : Whl σ 1 sl l.length (l.map .string)) (hl : l.length < 100) (hs : ∀ s ∈ l, s.size < 100000000000) (hG : Glob σ) :
    App Tryd.prog (.func 38) #[] #[.int .i64 tag, sl] σ fun v σ' => σ' = σ ∧ v = .agg (digC (ofF tag l)).toArray := by
  refine App.forget (App.of_sem mixed Tryd.func38 t38 k38 r38 (Nat.le_of_ble_eq_true rfl) ?_)
  unfold s38
  have e0 : ap σ [] = σ := ap_nil
  rw [← e0]
  simp only [↓eD0, ↓eD1, eC0, eC1, eC2, eC3, eC4, eC5, eC6, wantedE, ↓reduceIte, Nat.reduceEqDiff, Option.map_some, Option.map_none, reread, List.nil_append, List.cons_append, List.map_cons, List.map_nil, List.length_nil, List.length_cons, Value.cells, List.getElem?_cons_zero, List.getElem?_cons_succ, outE, lks, lkR, rdV, neg1, evs, opt, Nat.reduceAdd, Nat.reduceMul, and_self, reduceCtorEq, List.size_toArray, List.all_cons, List.all_nil, Value.oneCell', List.set_cons_zero, List.set_cons_succ, sets, fillL, Nat.reduceLeDiff, List.drop_succ_cons, List.drop_zero, List.take_succ_cons, List.take_zero, List.toList_toArray, argsE, Array.append_empty, Array.empty_append, List.getElem?_toArray, Int.reduceLT, Int.reduceLE, Int.reduceToNat, Int.reduceEq, Nat.reduceLT]
  refine appK_of (input_app (hr.Old .ap) hl hs) ?_
  rintro v σ1 ⟨ho1, hg1⟩
  simp only [↓eD0, ↓eD1, eC0, eC1, eC2, eC3, eC4, eC5, eC6, wantedE, ↓reduceIte, Nat.reduceEqDiff, Option.map_some, Option.map_none, reread, List.nil_append, List.cons_append, List.map_cons, List.map_nil, List.length_nil, List.length_cons, Value.cells, List.getElem?_cons_zero, List.getElem?_cons_succ, outE, lks, lkR, rdV, neg1, evs, opt, Nat.reduceAdd, Nat.reduceMul, and_self, reduceCtorEq, List.size_toArray, List.all_cons, List.all_nil, Value.oneCell', List.set_cons_zero, List.set_cons_succ, sets, fillL, Nat.reduceLeDiff, List.drop_succ_cons, List.drop_zero, List.take_succ_cons, List.take_zero, List.toList_toArray, argsE, Array.append_empty, Array.empty_append, List.getElem?_toArray, Int.reduceLT, Int.reduceLE, Int.reduceToNat, Int.reduceEq, Nat.reduceLT]
  have hlen : (inputF tag l).length < 100000000000000 := by
    have : ∀ l' : List ByteArray, (∀ s ∈ l', s.size < 100000000000) → (l'.flatMap bytesF).length ≤ l'.length * 100000000010 := by
      intro l'
      induction l' with
      | nil => intro _; simp
      | cons a l' ih =>
        intro h
        have h1 := ih fun s hs => h s (by simp [hs])
        have h2 := h a (by simp)
        have h3 : (intF a.size).length ≤ 10 := intF_len
        simp only [List.flatMap_cons, List.length_append, List.length_cons, bytesF, strI_len]
        omega
    have := this l hs
    simp only [inputF, partsF, List.length_cons]
    omega
  refine appK_of (short_app hg1.whl hlen (hG.Old (Old.ap.trans ho1))) ?_
  rintro _ _ ⟨e2, rfl⟩
  rw [e2]
  clear e2
  have hz : σ1[σ.size]? = some (.cells 0 (digC (List.replicate 16 0)) (0, 0)) := (ho1.2 _ (by simp [ap_size])).trans (by rw [ap_new0]; rfl)
  have t16 := digC_take (l := ofF tag l) ofF_len
  have u16 := digC_sets (z := List.replicate 16 0) (l := ofF tag l) (by simp [ofF_len])
  have m16 := digC_ne' (l := ofF tag l) ofF_len (by omega)
  have w2 : wrN σ1 ⟨σ.size, 0, none⟩ (digC (ofF tag l)) = some (σ1.setIfInBounds σ.size (.cells 1 (digC (ofF tag l)) (0, 0))) := by
    rw [wrN_eq, if_neg (by rw [m16]; exact id), hz, wrc_cells, u16, if_pos ⟨by simp [digC_length, ofF_len], digC_one⟩]; rfl
  have r2 : rdN (σ1.setIfInBounds σ.size (.cells 1 (digC (ofF tag l)) (0, 0))) ⟨σ.size, 0, none⟩ 16 = some (digC (ofF tag l)) := rdN_all (get_set hz) (by rw [digC_length, ofF_len])
  have hof : shortF (inputF tag l) = ofF tag l := by rw [ofF]
  simp only [↓eD0, ↓eD1, eC0, eC1, eC2, eC3, eC4, eC5, eC6, wantedE, ↓reduceIte, Nat.reduceEqDiff, Option.map_some, Option.map_none, reread, List.nil_append, List.cons_append, List.map_cons, List.map_nil, List.length_nil, List.length_cons, Value.cells, List.getElem?_cons_zero, List.getElem?_cons_succ, outE, lks, lkR, rdV, neg1, evs, opt, Nat.reduceAdd, Nat.reduceMul, and_self, reduceCtorEq, List.size_toArray, List.all_cons, List.all_nil, Value.oneCell', List.set_cons_zero, List.set_cons_succ, sets, fillL, Nat.reduceLeDiff, List.drop_succ_cons, List.drop_zero, List.take_succ_cons, List.take_zero, List.toList_toArray, argsE, Array.append_empty, Array.empty_append, List.getElem?_toArray, Int.reduceLT, Int.reduceLE, Int.reduceToNat, Int.reduceEq, Nat.reduceLT, hof, digC_length, ofF_len, t16, w2, r2]
  exact ⟨(Old.ap.trans ho1).set (Nat.le_refl _), flat_dig⟩
end Go.Proofs.YtljmjkpmkpchoaaDoor

set_option linter.unusedSimpArgs false
set_option maxRecDepth 10000
set_option maxHeartbeats 4000000
namespace Go.Proofs.YtljmjkpmkpchoaaDoor
open Go Go.Cn Go.RowKit

@[irreducible] def beginF (d : List Int) (c : Int) : List Int := ofF 293 [bytesS d, bytesS (intF c)]
theorem beginF_len {d : List Int} {c : Int} : (beginF d c).length = 16 := by rw [beginF]; exact ofF_len
@[irreducible] def nextF (d : List Int) (e : Ent) : List Int := ofF 290 [bytesS d, bytesS (intsF [e.kind, e.cpu, e.count, e.n]), e.data]
theorem nextF_len {d : List Int} {e : Ent} : (nextF d e).length = 16 := by rw [nextF]; exact ofF_len
def chainF (d : List Int) (c : Int) (E : List Ent) (n : Nat) : List Int := (E.take n).foldl nextF (beginF d c)
theorem chainF_len {d : List Int} {c : Int} {E : List Ent} {n : Nat} : (chainF d c E n).length = 16 := by
  unfold chainF
  have : ∀ (l : List Ent) (x : List Int), x.length = 16 → (l.foldl nextF x).length = 16 := by
    intro l
    induction l with
    | nil => intro x h; exact h
    | cons e l ih => intro x _; exact ih _ nextF_len
  exact this _ _ beginF_len

theorem bytesS_size {d : List Int} : (bytesS d).size = d.length := by simp [bytesS, ByteArray.size]
theorem varF_pos {f : Nat} {z : Int} : 0 < (varF (f + 1) z).length := by rw [varF]; split <;> simp
theorem intF_pos {n : Int} : 0 < (intF n).length := varF_pos
theorem intsF_len {l : List Int} : (intsF l).length ≤ 10 + l.length * 10 := by
  rw [intsF, List.length_append]
  have := flat_len (f := intF) (l := l) (i := l.length) fun x => intF_len
  rw [List.take_length] at this
  have h2 : (intF l.length).length ≤ 10 := intF_len
  omega
theorem intsF_pos {l : List Int} : 0 < (intsF l).length := by rw [intsF, List.length_append]; have := intF_pos (n := l.length); omega

/-- A literal slice. -/
theorem whl_lit {σ : H} {b ver n : Nat} {cs : List Value} (h : σ[b]? = some (.cells ver cs (0, 0))) (hc : cs.length = n) (hn : n < big) : Whl σ 1 (.slice (some ⟨b, 0, none⟩) n n) n cs :=
  ⟨by omega, .inr ⟨b, 0, n, rfl, ⟨by rw [capLow_small hn]; exact Nat.le_refl _, .inl (csz_small hn)⟩, by rw [Nat.mul_one]; exact rdN_all h hc⟩⟩

theorem begin_app {σ : H} {d : List Int} {c : Int} (hd : d.length = 16) (hG : Glob σ) :
    App Tryd.prog (.func 36) #[] #[.agg (digC d).toArray, .int .i64 c] σ fun v σ' => σ' = σ ∧ v = .agg (digC (beginF d c)).toArray := by
  refine App.forget (App.of_sem mixed Tryd.func36 t36 k36 r36 (Nat.le_of_ble_eq_true rfl) ?_)
  unfold s36
  have e0 : ap σ [] = σ := ap_nil
  have hd' := digC_len hd
  have td := digC_take hd
  rw [← e0]
  simp only [↓eD0, ↓eD1, eC0, eC1, eC2, eC3, eC4, eC5, eC6, wantedE, ↓reduceIte, Nat.reduceEqDiff, Option.map_some, Option.map_none, reread, List.nil_append, List.cons_append, List.map_cons, List.map_nil, List.length_nil, List.length_cons, Value.cells, List.getElem?_cons_zero, List.getElem?_cons_succ, outE, lks, lkR, rdV, neg1, evs, opt, Nat.reduceAdd, Nat.reduceMul, and_self, reduceCtorEq, List.size_toArray, List.all_cons, List.all_nil, Value.oneCell', List.set_cons_zero, List.set_cons_succ, sets, fillL, Nat.reduceLeDiff, List.drop_succ_cons, List.drop_zero, List.take_succ_cons, List.take_zero, List.toList_toArray, argsE, Array.append_empty, Array.empty_append, List.getElem?_toArray, Int.reduceLT, Int.reduceLE, Int.reduceToNat, Int.reduceEq, Nat.reduceLT, hd', td]
  refine appK_of (digs_app hd) ?_
  rintro _ _ ⟨e2, rfl⟩
  rw [e2]
  clear e2
  simp only [↓eD0, ↓eD1, eC0, eC1, eC2, eC3, eC4, eC5, eC6, wantedE, ↓reduceIte, Nat.reduceEqDiff, Option.map_some, Option.map_none, reread, List.nil_append, List.cons_append, List.map_cons, List.map_nil, List.length_nil, List.length_cons, Value.cells, List.getElem?_cons_zero, List.getElem?_cons_succ, outE, lks, lkR, rdV, neg1, evs, opt, Nat.reduceAdd, Nat.reduceMul, and_self, reduceCtorEq, List.size_toArray, List.all_cons, List.all_nil, Value.oneCell', List.set_cons_zero, List.set_cons_succ, sets, fillL, Nat.reduceLeDiff, List.drop_succ_cons, List.drop_zero, List.take_succ_cons, List.take_zero, List.toList_toArray, argsE, Array.append_empty, Array.empty_append, List.getElem?_toArray, Int.reduceLT, Int.reduceLE, Int.reduceToNat, Int.reduceEq, Nat.reduceLT, hd', td]
  refine appK_of int_app ?_
  rintro v σ1 ⟨ho1, hg1⟩
  obtain ⟨bs, cc, rfl⟩ := hg1.slice
  have e1 : ap σ1 [] = σ1 := ap_nil
  obtain ⟨bk, off, rfl, h2⟩ := (hg1.old (Old.ap (l := []))).whl.at intF_pos
  rw [Nat.mul_one] at h2
  rw [← e1]
  simp only [↓eD0, ↓eD1, eC0, eC1, eC2, eC3, eC4, eC5, eC6, wantedE, ↓reduceIte, Nat.reduceEqDiff, Option.map_some, Option.map_none, reread, List.nil_append, List.cons_append, List.map_cons, List.map_nil, List.length_nil, List.length_cons, Value.cells, List.getElem?_cons_zero, List.getElem?_cons_succ, outE, lks, lkR, rdV, neg1, evs, opt, Nat.reduceAdd, Nat.reduceMul, and_self, reduceCtorEq, List.size_toArray, List.all_cons, List.all_nil, Value.oneCell', List.set_cons_zero, List.set_cons_succ, sets, fillL, Nat.reduceLeDiff, List.drop_succ_cons, List.drop_zero, List.take_succ_cons, List.take_zero, List.toList_toArray, argsE, Array.append_empty, Array.empty_append, List.getElem?_toArray, Int.reduceLT, Int.reduceLE, Int.reduceToNat, Int.reduceEq, Nat.reduceLT, h2, Option.bind_some, bytesOf_dig]
  have hstr : ByteArray.mk ((intF c).map fun x => UInt8.ofNat x.toNat).toArray = bytesS (intF c) := rfl
  rw [hstr]
  have hs2 : ∀ s ∈ [bytesS d, bytesS (intF c)], s.size < 100000000000 := by
    intro s hs
    have h10 : (intF c).length ≤ 10 := intF_len
    simp only [List.mem_cons, List.not_mem_nil, or_false] at hs
    rcases hs with rfl | rfl
    · rw [bytesS_size]; omega
    · rw [bytesS_size]; omega
  refine appK_of (of_app (l := [bytesS d, bytesS (intF c)]) (whl_lit (ver := 0) (by rw [ap_new0]; rfl) rfl (by decide)) (by simp) hs2 (hG.Old ((Old.ap.trans ho1).trans .ap))) ?_
  rintro _ _ ⟨e2, rfl⟩
  rw [e2]
  clear e2
  have hz : σ1[σ.size + 1]? = some (.cells 0 (digC (List.replicate 16 0)) (0, 0)) := (ho1.2 _ (by simp [ap_size])).trans (by rw [ap_new]; rfl)
  have hlt : σ.size + 1 < σ1.size := (Array.getElem?_eq_some_iff.1 hz).1
  have hz' : ∀ L, (ap σ1 L)[σ.size + 1]? = some (.cells 0 (digC (List.replicate 16 0)) (0, 0)) := fun L => (ap_old hlt).trans hz
  have hof : ofF 293 [bytesS d, bytesS (intF c)] = beginF d c := by rw [beginF]
  have t16 := digC_take (l := beginF d c) beginF_len
  have u16 := digC_sets (z := List.replicate 16 0) (l := beginF d c) (by simp [beginF_len])
  have m16 := digC_ne' (l := beginF d c) beginF_len (by omega)
  have w2 : ∀ L, wrN (ap σ1 L) ⟨σ.size + 1, 0, none⟩ (digC (beginF d c)) = some ((ap σ1 L).setIfInBounds (σ.size + 1) (.cells 1 (digC (beginF d c)) (0, 0))) := fun L => by
    rw [wrN_eq, if_neg (by rw [m16]; exact id), hz', wrc_cells, u16, if_pos ⟨by simp [digC_length, beginF_len], digC_one⟩]; rfl
  have r2 : ∀ L, rdN ((ap σ1 L).setIfInBounds (σ.size + 1) (.cells 1 (digC (beginF d c)) (0, 0))) ⟨σ.size + 1, 0, none⟩ 16 = some (digC (beginF d c)) := fun L => rdN_all (get_set (hz' L)) (by rw [digC_length, beginF_len])
  simp only [↓eD0, ↓eD1, eC0, eC1, eC2, eC3, eC4, eC5, eC6, wantedE, ↓reduceIte, Nat.reduceEqDiff, Option.map_some, Option.map_none, reread, List.nil_append, List.cons_append, List.map_cons, List.map_nil, List.length_nil, List.length_cons, Value.cells, List.getElem?_cons_zero, List.getElem?_cons_succ, outE, lks, lkR, rdV, neg1, evs, opt, Nat.reduceAdd, Nat.reduceMul, and_self, reduceCtorEq, List.size_toArray, List.all_cons, List.all_nil, Value.oneCell', List.set_cons_zero, List.set_cons_succ, sets, fillL, Nat.reduceLeDiff, List.drop_succ_cons, List.drop_zero, List.take_succ_cons, List.take_zero, List.toList_toArray, argsE, Array.append_empty, Array.empty_append, List.getElem?_toArray, Int.reduceLT, Int.reduceLE, Int.reduceToNat, Int.reduceEq, Nat.reduceLT, hof, digC_length, beginF_len, t16, w2, r2]
  exact ⟨((Old.ap.trans ho1).trans .ap).set (by omega), flat_dig⟩

theorem next_digest_app {σ : H} {d : List Int} {e : Ent} (hd : d.length = 16) (he : e.data.size < 100000000000) (hG : Glob σ) :
    App Tryd.prog (.func 37) #[] #[.agg (digC d).toArray, .agg (entV e).toArray] σ fun v σ' => σ' = σ ∧ v = .agg (digC (nextF d e)).toArray := by
  refine App.forget (App.of_sem mixed Tryd.func37 t37 k37 r37 (Nat.le_of_ble_eq_true rfl) ?_)
  unfold s37
  have e0 : ap σ [] = σ := ap_nil
  have hd' := digC_len hd
  have td := digC_take hd
  have rep4 : List.replicate 4 (Value.int .i64 0) = [.int .i64 0, .int .i64 0, .int .i64 0, .int .i64 0] := rfl
  rw [← e0]
  simp only [↓eD0, ↓eD1, eC0, eC1, eC2, eC3, eC4, eC5, eC6, wantedE, ↓reduceIte, Nat.reduceEqDiff, Option.map_some, Option.map_none, reread, List.nil_append, List.cons_append, List.map_cons, List.map_nil, List.length_nil, List.length_cons, Value.cells, List.getElem?_cons_zero, List.getElem?_cons_succ, outE, lks, lkR, rdV, neg1, evs, opt, Nat.reduceAdd, Nat.reduceMul, and_self, reduceCtorEq, List.size_toArray, List.all_cons, List.all_nil, Value.oneCell', List.set_cons_zero, List.set_cons_succ, sets, fillL, Nat.reduceLeDiff, List.drop_succ_cons, List.drop_zero, List.take_succ_cons, List.take_zero, List.toList_toArray, argsE, Array.append_empty, Array.empty_append, List.getElem?_toArray, Int.reduceLT, Int.reduceLE, Int.reduceToNat, Int.reduceEq, Nat.reduceLT, hd', td, entV, rep4]
  refine appK_of (digs_app hd) ?_
  rintro _ _ ⟨e2, rfl⟩
  rw [e2]
  clear e2
  simp only [↓eD0, ↓eD1, eC0, eC1, eC2, eC3, eC4, eC5, eC6, wantedE, ↓reduceIte, Nat.reduceEqDiff, Option.map_some, Option.map_none, reread, List.nil_append, List.cons_append, List.map_cons, List.map_nil, List.length_nil, List.length_cons, Value.cells, List.getElem?_cons_zero, List.getElem?_cons_succ, outE, lks, lkR, rdV, neg1, evs, opt, Nat.reduceAdd, Nat.reduceMul, and_self, reduceCtorEq, List.size_toArray, List.all_cons, List.all_nil, Value.oneCell', List.set_cons_zero, List.set_cons_succ, sets, fillL, Nat.reduceLeDiff, List.drop_succ_cons, List.drop_zero, List.take_succ_cons, List.take_zero, List.toList_toArray, argsE, Array.append_empty, Array.empty_append, List.getElem?_toArray, Int.reduceLT, Int.reduceLE, Int.reduceToNat, Int.reduceEq, Nat.reduceLT, hd', td, entV, rep4]
  refine appK_of (ints_app (l := [e.kind, e.cpu, e.count, e.n]) (whl_lit (ver := 0) (by rw [ap_new]; rfl) rfl (by decide)) (by simp)) ?_
  rintro v σ1 ⟨ho1, hg1⟩
  obtain ⟨bs, cc, rfl⟩ := hg1.slice
  have e1 : ap σ1 [] = σ1 := ap_nil
  obtain ⟨bk, off, rfl, h2⟩ := (hg1.old (Old.ap (l := []))).whl.at intsF_pos
  rw [Nat.mul_one] at h2
  have hz : σ1[σ.size + 2]? = some (.cells 0 (digC (List.replicate 16 0)) (0, 0)) := (ho1.2 _ (by simp [ap_size])).trans (by rw [ap_new]; rfl)
  have hE : σ1[σ.size + 1]? = some (.cells 0 (entV e) (0, 0)) := (ho1.2 _ (by simp [ap_size])).trans (by rw [ap_new]; rfl)
  have hlt : σ.size + 2 < σ1.size := (Array.getElem?_eq_some_iff.1 hz).1
  have hz' : ∀ L, (ap σ1 L)[σ.size + 2]? = some (.cells 0 (digC (List.replicate 16 0)) (0, 0)) := fun L => (ap_old hlt).trans hz
  have hE4 : ∀ L, rd1 (ap σ1 L) ⟨σ.size + 1, 4, none⟩ = some (.string e.data) := fun L => by rw [rd1_eq, ap_old (b := σ.size + 1) (by omega), hE]; rfl
  rw [← e1]
  simp only [↓eD0, ↓eD1, eC0, eC1, eC2, eC3, eC4, eC5, eC6, wantedE, ↓reduceIte, Nat.reduceEqDiff, Option.map_some, Option.map_none, reread, List.nil_append, List.cons_append, List.map_cons, List.map_nil, List.length_nil, List.length_cons, Value.cells, List.getElem?_cons_zero, List.getElem?_cons_succ, outE, lks, lkR, rdV, neg1, evs, opt, Nat.reduceAdd, Nat.reduceMul, and_self, reduceCtorEq, List.size_toArray, List.all_cons, List.all_nil, Value.oneCell', List.set_cons_zero, List.set_cons_succ, sets, fillL, Nat.reduceLeDiff, List.drop_succ_cons, List.drop_zero, List.take_succ_cons, List.take_zero, List.toList_toArray, argsE, Array.append_empty, Array.empty_append, List.getElem?_toArray, Int.reduceLT, Int.reduceLE, Int.reduceToNat, Int.reduceEq, Nat.reduceLT, h2, Option.bind_some, bytesOf_dig, hE4]
  have hstr : ByteArray.mk ((intsF [e.kind, e.cpu, e.count, e.n]).map fun x => UInt8.ofNat x.toNat).toArray = bytesS (intsF [e.kind, e.cpu, e.count, e.n]) := rfl
  rw [hstr]
  have hs2 : ∀ s ∈ [bytesS d, bytesS (intsF [e.kind, e.cpu, e.count, e.n]), e.data], s.size < 100000000000 := by
    intro s hs
    have h10 : (intsF [e.kind, e.cpu, e.count, e.n]).length ≤ 50 := intsF_len
    simp only [List.mem_cons, List.not_mem_nil, or_false] at hs
    rcases hs with rfl | rfl | rfl
    · rw [bytesS_size]; omega
    · rw [bytesS_size]; omega
    · exact he
  refine appK_of (of_app (l := [bytesS d, bytesS (intsF [e.kind, e.cpu, e.count, e.n]), e.data]) (whl_lit (ver := 0) (by rw [ap_new0]; rfl) rfl (by decide)) (by simp) hs2 (hG.Old ((Old.ap.trans ho1).trans .ap))) ?_
  rintro _ _ ⟨e2, rfl⟩
  rw [e2]
  clear e2
  have hof : ofF 290 [bytesS d, bytesS (intsF [e.kind, e.cpu, e.count, e.n]), e.data] = nextF d e := by rw [nextF]
  have t16 := digC_take (l := nextF d e) nextF_len
  have u16 := digC_sets (z := List.replicate 16 0) (l := nextF d e) (by simp [nextF_len])
  have m16 := digC_ne' (l := nextF d e) nextF_len (by omega)
  have w2 : ∀ L, wrN (ap σ1 L) ⟨σ.size + 2, 0, none⟩ (digC (nextF d e)) = some ((ap σ1 L).setIfInBounds (σ.size + 2) (.cells 1 (digC (nextF d e)) (0, 0))) := fun L => by
    rw [wrN_eq, if_neg (by rw [m16]; exact id), hz', wrc_cells, u16, if_pos ⟨by simp [digC_length, nextF_len], digC_one⟩]; rfl
  have r2 : ∀ L, rdN ((ap σ1 L).setIfInBounds (σ.size + 2) (.cells 1 (digC (nextF d e)) (0, 0))) ⟨σ.size + 2, 0, none⟩ 16 = some (digC (nextF d e)) := fun L => rdN_all (get_set (hz' L)) (by rw [digC_length, nextF_len])
  simp only [↓eD0, ↓eD1, eC0, eC1, eC2, eC3, eC4, eC5, eC6, wantedE, ↓reduceIte, Nat.reduceEqDiff, Option.map_some, Option.map_none, reread, List.nil_append, List.cons_append, List.map_cons, List.map_nil, List.length_nil, List.length_cons, Value.cells, List.getElem?_cons_zero, List.getElem?_cons_succ, outE, lks, lkR, rdV, neg1, evs, opt, Nat.reduceAdd, Nat.reduceMul, and_self, reduceCtorEq, List.size_toArray, List.all_cons, List.all_nil, Value.oneCell', List.set_cons_zero, List.set_cons_succ, sets, fillL, Nat.reduceLeDiff, List.drop_succ_cons, List.drop_zero, List.take_succ_cons, List.take_zero, List.toList_toArray, argsE, Array.append_empty, Array.empty_append, List.getElem?_toArray, Int.reduceLT, Int.reduceLE, Int.reduceToNat, Int.reduceEq, Nat.reduceLT, hof, digC_length, nextF_len, t16, w2, r2]
  exact ⟨((Old.ap.trans ho1).trans .ap).set (by simp [ap_size]), flat_dig⟩
end Go.Proofs.YtljmjkpmkpchoaaDoor

set_option linter.unusedSimpArgs false
set_option maxRecDepth 10000
set_option maxHeartbeats 4000000
namespace Go.Proofs.YtljmjkpmkpchoaaDoor
open Go Go.Cn Go.RowKit

theorem chainF_succ {d : List Int} {c : Int} {E : List Ent} {n : Nat} (h : n < E.length) : chainF d c E (n + 1) = nextF (chainF d c E n) E[n] := by
  unfold chainF
  rw [List.take_succ_eq_append_getElem h, List.foldl_append]; rfl

theorem chain_app {σ : H} {l : List Value} {L : Lg} {n : Nat} (h : IsLg σ l L) (hn : n ≤ L.E.length) (hs : ∀ e ∈ L.E, e.data.size < 100000000000) (hG : Glob σ) :
    App Tryd.prog (.func 35) #[] #[.agg l.toArray, .int .i64 n] σ fun v σ' => σ' = σ ∧ v = .agg (digC (chainF L.d L.c L.E n)).toArray := by
  refine App.forget (App.of_sem mixed Tryd.func35 t35 k35 r35 (Nat.le_of_ble_eq_true rfl) ?_)
  obtain ⟨a1, b1, a2, b2, rfl, hv, hw, hcap⟩ := h.recs
  have hd := h.log.d16
  unfold s35
  have e0 : ap σ [] = σ := ap_nil
  rw [← e0]
  simp only [↓eD0, ↓eD1, eC0, eC1, eC2, eC3, eC4, eC5, eC6, wantedE, ↓reduceIte, Nat.reduceEqDiff, Option.map_some, Option.map_none, reread, List.nil_append, List.cons_append, List.map_cons, List.map_nil, List.length_nil, List.length_cons, Value.cells, List.getElem?_cons_zero, List.getElem?_cons_succ, outE, lks, lkR, rdV, neg1, evs, opt, Nat.reduceAdd, Nat.reduceMul, and_self, reduceCtorEq, List.size_toArray, List.all_cons, List.all_nil, Value.oneCell', List.set_cons_zero, List.set_cons_succ, sets, fillL, Nat.reduceLeDiff, List.drop_succ_cons, List.drop_zero, List.take_succ_cons, List.take_zero, List.toList_toArray, argsE, Array.append_empty, Array.empty_append, List.getElem?_toArray, Int.reduceLT, Int.reduceLE, Int.reduceToNat, Int.reduceEq, Nat.reduceLT, rec16 hd, rec_take16 hd, rec_len hd]
  refine appK_of (begin_app hd (hG.Old .ap)) ?_
  rintro _ _ ⟨e2, rfl⟩
  rw [e2]
  clear e2
  have t16 := digC_take (l := beginF L.d L.c) beginF_len
  have u16 := digC_sets (z := List.replicate 16 0) (l := beginF L.d L.c) (by simp [beginF_len])
  have m16 := digC_ne' (l := beginF L.d L.c) beginF_len (by omega)
  simp only [↓eD0, ↓eD1, eC0, eC1, eC2, eC3, eC4, eC5, eC6, wantedE, ↓reduceIte, Nat.reduceEqDiff, Option.map_some, Option.map_none, reread, List.nil_append, List.cons_append, List.map_cons, List.map_nil, List.length_nil, List.length_cons, Value.cells, List.getElem?_cons_zero, List.getElem?_cons_succ, outE, lks, lkR, rdV, neg1, evs, opt, Nat.reduceAdd, Nat.reduceMul, and_self, reduceCtorEq, List.size_toArray, List.all_cons, List.all_nil, Value.oneCell', List.set_cons_zero, List.set_cons_succ, sets, fillL, Nat.reduceLeDiff, List.drop_succ_cons, List.drop_zero, List.take_succ_cons, List.take_zero, List.toList_toArray, argsE, Array.append_empty, Array.empty_append, List.getElem?_toArray, Int.reduceLT, Int.reduceLE, Int.reduceToNat, Int.reduceEq, Nat.reduceLT, digC_rep, digC_length, beginF_len, t16, u16, m16, digC_one, List.length_replicate]
  have hfe := h.fewE
  refine loop_for (J := fun i e τ => i ≤ n ∧ ∃ ver, e = [(1, .int .i64 n), (2, .pointer (some ⟨σ.size, 0, none⟩)), (4, .pointer (some ⟨σ.size + 1, 0, none⟩)), (5, .pointer (some ⟨σ.size + 2, 0, none⟩)), (6, .int .i64 i)] ∧
      τ = ap σ [.cells 0 (recC L.d L.c (.slice a1 L.E.length b1) (.slice a2 L.S.length b2)) (0, 0), .cells 0 (digC (List.replicate 16 0)) (0, 0), .cells ver (digC (chainF L.d L.c L.E i)) (0, 0)]) n
    ⟨by omega, 1, rfl, rfl⟩ ?_
  rintro i e τ hi ⟨_, ver, rfl, rfl⟩
  simp only [↓eD0, ↓eD1, eC0, eC1, eC2, eC3, eC4, eC5, eC6, wantedE, ↓reduceIte, Nat.reduceEqDiff, Option.map_some, Option.map_none, reread, List.nil_append, List.cons_append, List.map_cons, List.map_nil, List.length_nil, List.length_cons, Value.cells, List.getElem?_cons_zero, List.getElem?_cons_succ, outE, lks, lkR, rdV, neg1, evs, opt, Nat.reduceAdd, Nat.reduceMul, and_self, reduceCtorEq, List.size_toArray, List.all_cons, List.all_nil, Value.oneCell', List.set_cons_zero, List.set_cons_succ, sets, fillL, Nat.reduceLeDiff, List.drop_succ_cons, List.drop_zero, List.take_succ_cons, List.take_zero, List.toList_toArray, argsE, Array.append_empty, Array.empty_append, List.getElem?_toArray, Int.reduceLT, Int.reduceLE, Int.reduceToNat, Int.reduceEq, Nat.reduceLT]
  refine onI_dec (fun hlt => ?_) (fun hge => ?_)
  · have hlt : i < n := by omega
    have hi2 : i < L.E.length := by omega
    have hx : (L.E.map entV)[i]? = some (entV L.E[i]) := by simp [hi2]
    obtain ⟨b', off, rfl, h1⟩ := hv.at hx
    have hr : ∀ l, rdN (ap σ l) ⟨b', off + i * 5, none⟩ 5 = some (entV L.E[i]) := fun l => rdN_old h1
    have hb : (0:Int) ≤ (i:Int) ∧ (i:Int) < (L.E.length : Int) := by omega
    have hw' : IntKind.wrap .i64 ((i:Int) + 1) = ((i + 1 : Nat) : Int) := by rw [wrap64 (by omega) (by omega)]; omega
    have t1 := digC_take (l := chainF L.d L.c L.E i) chainF_len
    simp only [↓eD0, ↓eD1, eC0, eC1, eC2, eC3, eC4, eC5, eC6, wantedE, ↓reduceIte, Nat.reduceEqDiff, Option.map_some, Option.map_none, reread, List.nil_append, List.cons_append, List.map_cons, List.map_nil, List.length_nil, List.length_cons, Value.cells, List.getElem?_cons_zero, List.getElem?_cons_succ, outE, lks, lkR, rdV, neg1, evs, opt, Nat.reduceAdd, Nat.reduceMul, and_self, reduceCtorEq, List.size_toArray, List.all_cons, List.all_nil, Value.oneCell', List.set_cons_zero, List.set_cons_succ, sets, fillL, Nat.reduceLeDiff, List.drop_succ_cons, List.drop_zero, List.take_succ_cons, List.take_zero, List.toList_toArray, argsE, Array.append_empty, Array.empty_append, List.getElem?_toArray, Int.reduceLT, Int.reduceLE, Int.reduceToNat, Int.reduceEq, Nat.reduceLT, rec17 hd, hb, Int.toNat_natCast, hr, digC_length, chainF_len, t1]
    refine appK_of (next_digest_app chainF_len (hs _ (by simp)) (hG.Old .ap)) ?_
    rintro _ _ ⟨e2, rfl⟩
    rw [e2]
    clear e2
    rw [← chainF_succ (by omega)]
    have t2 := digC_take (l := chainF L.d L.c L.E (i + 1)) chainF_len
    have u2 := digC_sets (z := chainF L.d L.c L.E i) (l := chainF L.d L.c L.E (i + 1)) (by rw [chainF_len, chainF_len])
    have m2 := digC_ne' (l := chainF L.d L.c L.E (i + 1)) chainF_len (by omega)
    simp only [↓eD0, ↓eD1, eC0, eC1, eC2, eC3, eC4, eC5, eC6, wantedE, ↓reduceIte, Nat.reduceEqDiff, Option.map_some, Option.map_none, reread, List.nil_append, List.cons_append, List.map_cons, List.map_nil, List.length_nil, List.length_cons, Value.cells, List.getElem?_cons_zero, List.getElem?_cons_succ, outE, lks, lkR, rdV, neg1, evs, opt, Nat.reduceAdd, Nat.reduceMul, and_self, reduceCtorEq, List.size_toArray, List.all_cons, List.all_nil, Value.oneCell', List.set_cons_zero, List.set_cons_succ, sets, fillL, Nat.reduceLeDiff, List.drop_succ_cons, List.drop_zero, List.take_succ_cons, List.take_zero, List.toList_toArray, argsE, Array.append_empty, Array.empty_append, List.getElem?_toArray, Int.reduceLT, Int.reduceLE, Int.reduceToNat, Int.reduceEq, Nat.reduceLT, digC_length, chainF_len, t2, u2, m2, digC_one, hw']
    exact ⟨hlt, by omega, ver + 1, rfl⟩
  · have : i = n := by omega
    subst this
    have t2 := digC_take (l := chainF L.d L.c L.E i) chainF_len
    have u2 := digC_sets (z := List.replicate 16 0) (l := chainF L.d L.c L.E i) (by simp [chainF_len])
    have m2 := digC_ne' (l := chainF L.d L.c L.E i) chainF_len (by omega)
    simp only [↓eD0, ↓eD1, eC0, eC1, eC2, eC3, eC4, eC5, eC6, wantedE, ↓reduceIte, Nat.reduceEqDiff, Option.map_some, Option.map_none, reread, List.nil_append, List.cons_append, List.map_cons, List.map_nil, List.length_nil, List.length_cons, Value.cells, List.getElem?_cons_zero, List.getElem?_cons_succ, outE, lks, lkR, rdV, neg1, evs, opt, Nat.reduceAdd, Nat.reduceMul, and_self, reduceCtorEq, List.size_toArray, List.all_cons, List.all_nil, Value.oneCell', List.set_cons_zero, List.set_cons_succ, sets, fillL, Nat.reduceLeDiff, List.drop_succ_cons, List.drop_zero, List.take_succ_cons, List.take_zero, List.toList_toArray, argsE, Array.append_empty, Array.empty_append, List.getElem?_toArray, Int.reduceLT, Int.reduceLE, Int.reduceToNat, Int.reduceEq, Nat.reduceLT, digC_length, chainF_len, t2, u2, m2, digC_one, List.length_replicate]
    exact ⟨.ap, flat_dig⟩

def rightsF (L : Lg) : Prop := ∀ k, ∀ h : k < L.E.length, rightF L.E[k] L.c = true ∧ L.E[k].count = countF (L.E.take k) L.E[k].cpu
def sealsF (S : List Sea) (n : Nat) : Int → Prop := fun e => match S with
  | [] => True
  | s :: r => e < s.end_ ∧ s.end_ ≤ n ∧ sealsF r n s.end_

/-- The checks of a log. -/
def chkE (L : Lg) : Nat → Nat → Bool
  | 0, _ => true
  | f + 1, k => match L.E[k]? with
    | none => true
    | some e => if rightF e L.c = true ∧ e.count = countF (L.E.take k) e.cpu then chkE L f (k + 1) else false
def chkS (n : Nat) : List Sea → Int → Bool
  | [], _ => true
  | s :: r, e => if s.end_ ≤ e ∨ (n : Int) < s.end_ then false else chkS n r s.end_
def chkD (L : Lg) : List Sea → Bool
  | [] => true
  | s :: r => if s.dig = chainF L.d L.c L.E s.end_.toNat then chkD L r else false
def checkF (L : Lg) : Int :=
  if L.c < 1 ∨ 4 < L.c then 1
  else if 4096 < L.E.length ∨ 256 < L.S.length then 2
  else if chkE L L.E.length 0 = false then 3
  else if chkS L.E.length L.S 0 = false then 3
  else if chkD L L.S = false then 290
  else 0
end Go.Proofs.YtljmjkpmkpchoaaDoor
