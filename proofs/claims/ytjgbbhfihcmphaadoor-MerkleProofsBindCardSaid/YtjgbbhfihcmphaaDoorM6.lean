/- Walks and plain laws. Conditions: none. -/
import Derived.Test.YtjgbbhfihcmphaaDoorNj
set_option linter.all false
set_option maxRecDepth 10000
set_option maxHeartbeats 8000000
namespace Go.Proofs.YtjgbbhfihcmphaaDoor
open Go Go.Cn Go.RowKit
attribute [local irreducible] evL sem onG onI onV
theorem stF_snoc {t : Bool} {x : List Int} : ∀ {T : List Bool} {L : List (List Int)} {d : List Int}, T.length = L.length → stF d (T ++ [t]) (L ++ [x]) = stF d T L ++ [pairF t (foldS d T L) x]
 |[], [], d, _ => by simp [stF, foldS]
 |u :: T, y :: L, d, h => by
  rw [List.cons_append, List.cons_append, stF, stF_snoc (by simpa using h), stF, foldS, List.cons_append]
def pairC (p : List Int × List Int) : List Value := digC p.1 ++ digC p.2
theorem tF_le : ∀ {N i n : Nat}, n ≤ N → (tF i n).length ≤ N
 |0, i, n, h => by rw [tF, dif_pos (by omega)]; simp
 |N + 1, i, n, h => by
  rw [tF]
  split
  ·simp
  ·have hs := splitN_spec (n := n) (by omega)
   split
   ·rw [List.length_append]
    have := tF_le (N := N) (i := i) (n := splitN n) (by omega)
    simp; omega
   ·rw [List.length_append]
    have := tF_le (N := N) (i := i - splitN n) (n := n - splitN n) (by omega)
    simp; omega
theorem foldS_len : ∀ {T : List Bool} {L : List (List Int)} {d : List Int}, d.length = 16 → (∀ x ∈ L, x.length = 16) → (foldS d T L).length = 16
 |[], _, _, h, _ => by simp [foldS, h]
 |_ :: _, [], _, h, _ => by simp [foldS, h]
 |t :: T, y :: L, d, h, hL => by rw [foldS]; exact foldS_len nodeF_len fun z hz => hL z (by simp [hz])
theorem whl_bool {σ : H} {a : Option Addr} {c i : Nat} {x : List Bool} (h : Whl σ 1 (.slice a x.length c) x.length (x.map .bool)) (hi : i < x.length) : ∃ k o, a = some ⟨k, o, none⟩ ∧ rd1 σ ⟨k, o + i, none⟩ = some (.bool x[i]) := by
 obtain ⟨k, o, h1, h2⟩ := h.at (by omega)
 exact ⟨k, o, h1, rd1_row h2 (by simp [hi])⟩
theorem steps_app {σ : H} {v : Value} {leaf : List Int} {L : List (List Int)} {i n : Nat} (hl : leaf.length = 16) (hL : Ls σ v L) (hi : i < n) (hn : n ≤ 1099511627776) (hlen : L.length = (tF i n).length) (hLn : L.length ≤ 1000) (hG : HGlob σ) :
  App Tryd.prog (.func 27) #[] #[.agg (digC leaf).toArray, .int .i64 (i : Int), .int .i64 (n : Int), v] σ fun w σ' => Old σ σ' ∧ Grown σ σ' 32 w ((stF leaf (tF i n) L).map pairC).flatten (stF leaf (tF i n) L).length := by
 refine App.of_sem mixed Tryd.func27 t27 k27 r27 (Nat.le_of_ble_eq_true rfl) ?_
 obtain ⟨a, c, rfl⟩ := hL.slice
 obtain ⟨q1, q2, q3, q4⟩ := dig_len hl
 rw [← ap_nil (σ := σ)]
 unfold s27
 have hs1 : (sized (σ.size + 1)).size = σ.size + 1 := sized_size
 simp only [↓eD, eZ, ↓reduceIte, Nat.reduceEqDiff, Nat.reduceAdd, Nat.reduceMul, reduceCtorEq, Nat.reduceLeDiff, Int.reduceLT, Int.reduceLE, Int.reduceToNat, Int.reduceEq, Nat.reduceLT, q1, q2, undef_eq]
 refine loop_for (J := fun j e τ => ∃ (x m : Nat) (acc : List Bool) (tv : Value), x < m ∧ m + j ≤ n ∧ tF x m ++ acc = tF i n ∧ e = [(1, .int .i64 (x : Int)), (2, .int .i64 (m : Int)), (3, .slice a L.length c), (4, .pointer (some ⟨σ.size, 0, none⟩)), (9, tv)] ∧ Old σ τ ∧ τ[σ.size]? = some (.cells 0 (digC leaf) (0, 0)) ∧ Grown (sized (σ.size + 1)) τ 1 tv (acc.map .bool) acc.length) n
  ⟨i, n, [], .slice none 0 0, hi, by omega, by simp, rfl, .ap, by rw [ap_new0]; rfl, Grown.nil⟩ ?_
 rintro j e τ _ ⟨x, m, acc, tv, hx, hm, hT, rfl, oτ, hb, hg⟩
 have lτ := (Array.getElem?_eq_some_iff.1 hb).1
 by_cases h1 : 1 < m
 ·have d1 : decide ((1 : Int) < (m : Int)) = true := by rw [decide_eq_true]; omega
  simp only [↓eD, eZ, ↓reduceIte, Nat.reduceEqDiff, Nat.reduceAdd, Nat.reduceMul, reduceCtorEq, Nat.reduceLeDiff, Int.reduceLT, Int.reduceLE, Int.reduceToNat, Int.reduceEq, Nat.reduceLT, d1, undef_eq]
  refine loop_for (J := fun j2 e τ' => j2 ≤ 42 ∧ 2 ^ j2 < m ∧ e = [(1, .int .i64 (x : Int)), (2, .int .i64 (m : Int)), (3, .slice a L.length c), (4, .pointer (some ⟨σ.size, 0, none⟩)), (9, tv), (10, .int .i64 ((2 ^ j2 : Nat) : Int))] ∧ τ = τ') 42 ⟨by omega, by omega, rfl, rfl⟩ ?_
  rintro j2 e _ hj ⟨_, hlt, rfl, rfl⟩
  obtain ⟨k, hk⟩ : ∃ k, k = 2 ^ j2 := ⟨_, rfl⟩
  rw [← hk] at hlt ⊢
  have w1 : IntKind.wrap .i64 (2 * (k : Int)) = ((2 * k : Nat) : Int) := by rw [wrap64' (by omega) (by omega)]; omega
  by_cases c2 : 2 * k < m
  ·have d : decide (((2 * k : Nat) : Int) < (m : Int)) = true := by rw [decide_eq_true]; omega
   have hp : 2 ^ (j2 + 1) = 2 * k := by rw [Nat.pow_succ, hk]; omega
   have hi42 : j2 < 42 := by
    apply Nat.lt_of_not_le
    intro h9
    have h8 := Nat.pow_le_pow_right (n := 2) (by omega) h9
    rw [← hk] at h8
    omega
   simp only [↓eD, eZ, ↓reduceIte, Nat.reduceEqDiff, Nat.reduceAdd, Nat.reduceMul, reduceCtorEq, Nat.reduceLeDiff, Int.reduceLT, Int.reduceLE, Int.reduceToNat, Int.reduceEq, Nat.reduceLT, w1, d, undef_eq]
   refine ⟨hi42, by omega, by omega, ?_⟩
   rw [hp]
  have d : decide (((2 * k : Nat) : Int) < (m : Int)) = false := by rw [decide_eq_false]; omega
  have hsp := splitN_uniq (a := j2) (n := m) (by omega) (by omega)
  rw [← hk] at hsp
  have hTm : tF x m = if x < k then tF x k ++ [false] else tF (x - k) (m - k) ++ [true] := by rw [tF, dif_neg (by omega), hsp]
  have hs := splitN_spec (n := m) (by omega)
  rw [hsp] at hs
  have hle := tF_le (i := i) (Nat.le_refl n)
  have hacc : acc.length ≤ 1000 := by
   have := congrArg List.length hT
   rw [List.length_append] at this
   omega
  have stp : ∀ (b : Bool), (ap τ [.cells 0 [.bool b] (0, 0)])[σ.size]? = some (.cells 0 (digC leaf) (0, 0)) ∧ ∃ w τ2, append 1 1 (.slice (some ⟨τ.size, 0, none⟩) 1 1) tv (ap τ [.cells 0 [.bool b] (0, 0)]) = some (w, τ2) ∧ Old σ τ2 ∧ τ2[σ.size]? = some (.cells 0 (digC leaf) (0, 0)) ∧ Grown (sized (σ.size + 1)) τ2 1 w ((b :: acc).map .bool) (b :: acc).length := by
   intro b
   have hs2 : (sized τ.size).size = τ.size := sized_size
   have hb1 := (ap_old (l := [.cells 0 [.bool b] (0, 0)]) lτ).trans hb
   refine ⟨hb1, ?_⟩
   have g0 : Grown (sized τ.size) (ap τ [.cells 0 [.bool b] (0, 0)]) 1 (.slice (some ⟨τ.size, 0, none⟩) 1 1) [.bool b] 1 := Grown.lit (ver := 0) rfl (by decide) (by omega) (by rw [ap_new0]; rfl)
   obtain ⟨w, τ2, ha, A⟩ := append_grown (bytes := 1) g0 (by omega) (by rw [hs2, ap_size]; simp) (hg.whl.Old (Old.ap (l := [.cells 0 [.bool b] (0, 0)]))).x (by simp) (by simp [Value.oneCell']) (by omega) (by omega)
   refine ⟨w, τ2, ha, A.Old' g0 (by omega) (oτ.trans .ap), A.low g0 (by omega) hb1, ?_⟩
   have gA := A.grown
   rw [show 1 + acc.length = (b :: acc).length by simp; omega] at gA
   exact gA.from (by rw [hs1, hs2]; omega)
  rw [← ap_nil (σ := τ)]
  by_cases hkx : k ≤ x
  ·have dk : decide ((k : Int) ≤ (x : Int)) = true := by rw [decide_eq_true]; omega
   obtain ⟨hb1, w, τ2, ha, o2, hb2, g2⟩ := stp true
   have w5 : IntKind.wrap .i64 ((x : Int) - (k : Int)) = ((x - k : Nat) : Int) := by rw [wrap64' (by omega) (by omega)]; omega
   have w6 : IntKind.wrap .i64 ((m : Int) - (k : Int)) = ((m - k : Nat) : Int) := by rw [wrap64' (by omega) (by omega)]; omega
   simp only [↓eD, eZ, ↓reduceIte, Nat.reduceEqDiff, Nat.reduceAdd, Nat.reduceMul, reduceCtorEq, Nat.reduceLeDiff, Int.reduceLT, Int.reduceLE, Int.reduceToNat, Int.reduceEq, Nat.reduceLT, w1, d, dk, undef_eq]
   refine onV_of ha ?_
   simp only [↓eD, eZ, ↓reduceIte, Nat.reduceEqDiff, Nat.reduceAdd, Nat.reduceMul, reduceCtorEq, Nat.reduceLeDiff, Int.reduceLT, Int.reduceLE, Int.reduceToNat, Int.reduceEq, Nat.reduceLT, w5, w6, undef_eq]
   refine ⟨by omega, x - k, m - k, true :: acc, w, by omega, by omega, ?_, rfl, o2, hb2, g2⟩
   rw [← hT, hTm, if_neg (by omega), List.append_assoc]
   rfl
  ·have dk : decide ((k : Int) ≤ (x : Int)) = false := by rw [decide_eq_false]; omega
   obtain ⟨hb1, w, τ2, ha, o2, hb2, g2⟩ := stp false
   simp only [↓eD, eZ, ↓reduceIte, Nat.reduceEqDiff, Nat.reduceAdd, Nat.reduceMul, reduceCtorEq, Nat.reduceLeDiff, Int.reduceLT, Int.reduceLE, Int.reduceToNat, Int.reduceEq, Nat.reduceLT, w1, d, dk, undef_eq]
   refine onV_of ha ?_
   simp only [↓eD, eZ, ↓reduceIte, Nat.reduceEqDiff, Nat.reduceAdd, Nat.reduceMul, reduceCtorEq, Nat.reduceLeDiff, Int.reduceLT, Int.reduceLE, Int.reduceToNat, Int.reduceEq, Nat.reduceLT, undef_eq]
   refine ⟨by omega, x, k, false :: acc, w, by omega, by omega, ?_, rfl, o2, hb2, g2⟩
   rw [← hT, hTm, if_pos (by omega), List.append_assoc]
   rfl
 have d1 : decide ((1 : Int) < (m : Int)) = false := by rw [decide_eq_false]; omega
 have hT0 : tF x m = [] := by rw [tF, dif_pos (by omega)]
 rw [hT0, List.nil_append] at hT
 subst hT
 have g4 : ∀ M, rdN (ap τ M) ⟨σ.size, 0, none⟩ 16 = some (digC leaf) := fun M => rdb_of hb .ap q1
 obtain ⟨T, hTT⟩ : ∃ T, T = tF i n := ⟨_, rfl⟩
 rw [← hTT] at hg hlen ⊢
 obtain ⟨ta, tc, rfl⟩ := hg.slice
 rw [← ap_nil (σ := τ)]
 simp only [↓eD, eZ, ↓reduceIte, Nat.reduceEqDiff, Nat.reduceAdd, Nat.reduceMul, reduceCtorEq, Nat.reduceLeDiff, Int.reduceLT, Int.reduceLE, Int.reduceToNat, Int.reduceEq, Nat.reduceLT, d1, g4, rep16, q1, q2, q3, q4, digC_one, undef_eq]
 have hs3 : (sized (τ.size + 1)).size = τ.size + 1 := sized_size
 refine loop_for (J := fun t e η => t ≤ T.length ∧ ∃ ov, e = [(3, .slice a L.length c), (9, .slice ta T.length tc), (12, ov), (13, .pointer (some ⟨τ.size, 0, none⟩)), (14, .int .i64 (t : Int))] ∧ Old τ η ∧ (∃ ver, η[τ.size]? = some (.cells ver (digC (foldS leaf (T.take t) (L.take t))) (0, 0))) ∧
   Grown (sized (τ.size + 1)) η 32 ov ((stF leaf (T.take t) (L.take t)).map pairC).flatten (stF leaf (T.take t) (L.take t)).length) T.length
  ⟨by omega, _, rfl, .ap, ⟨1, by rw [ap_new0]; simp [foldS]⟩, by simp [stF]; exact Grown.nil⟩ ?_
 rintro t e η _ ⟨ht, ov, rfl, oη, ⟨ver, hd⟩, ho⟩
 by_cases hlt : t < T.length
 ·have dl : decide ((t : Int) < (T.length : Int)) = true := by rw [decide_eq_true]; omega
  have dl2 : decide ((t : Int) < (L.length : Int)) = true := by rw [decide_eq_true]; omega
  have hbd : (0:Int) ≤ (t:Int) ∧ (t:Int) < (L.length : Int) := by omega
  have hbd' : (0:Int) ≤ (t:Int) ∧ (t:Int) < (T.length : Int) := by omega
  have lη := (Array.getElem?_eq_some_iff.1 hd).1
  have hLt : t < L.length := by omega
  have e1 : T.take (t + 1) = T.take t ++ [T[t]] := List.take_succ_eq_append_getElem hlt
  have e2 : L.take (t + 1) = L.take t ++ [L[t]] := List.take_succ_eq_append_getElem hLt
  have e3 : (T.take t).length = (L.take t).length := by rw [List.length_take, List.length_take]; omega
  have hF := foldS_snoc (t := T[t]) (x := L[t]) (d := leaf) e3
  have hS := stF_snoc (t := T[t]) (x := L[t]) (d := leaf) e3
  rw [← e1, ← e2] at hF hS
  have F16 : (foldS leaf (T.take t) (L.take t)).length = 16 := foldS_len hl (fun x hx => hL.d x (List.mem_of_mem_take hx))
  have X16 := hL.d L[t] (List.getElem_mem _)
  have hSl : (stF leaf (T.take t) (L.take t)).length = t := by rw [stF_len e3, List.length_take]; omega
  obtain ⟨pb, po, rfl, hr⟩ := (((hL.Old oτ).Old oη)).at hLt
  obtain ⟨tb, tto, rfl, htr⟩ := whl_bool (hg.whl.Old oη) hlt
  generalize foldS leaf (T.take t) (L.take t) = F at hF hS F16 hd
  generalize stF leaf (T.take t) (L.take t) = S at hS ho hSl
  generalize L[t] = X at hr X16 hF hS
  generalize T[t] = b at htr hF hS
  obtain ⟨f1, f2, f3, f4⟩ := dig_len F16
  obtain ⟨x1, x2, x3, x4⟩ := dig_len X16
  have rp : ∀ M, rdN (ap η M) ⟨pb, po + t * 16, none⟩ 16 = some (digC X) := fun M => rdN_old hr
  have rt : ∀ M, rd1 (ap η M) ⟨tb, tto + t, none⟩ = some (.bool b) := fun M => rd1_old htr
  have rd : ∀ M, rdN (ap η M) ⟨τ.size, 0, none⟩ 16 = some (digC F) := fun M => rdb_of hd .ap f1
  have r32 : (List.replicate 32 (Value.int .u8 0)).length = 32 := List.length_replicate
  have sf := set32a (z := .int .u8 0) f1
  have sfx := set32b (z := .int .u8 0) f1 x1
  have sx := set32a (z := .int .u8 0) x1
  have sxf := set32b (z := .int .u8 0) x1 f1
  have l1 : (digC F ++ List.replicate 16 (Value.int .u8 0)).length = 32 := by rw [List.length_append, f1, List.length_replicate]
  have l2 : (digC F ++ digC X).length = 32 := by rw [List.length_append, f1, x1]
  have l3 : (digC X ++ List.replicate 16 (Value.int .u8 0)).length = 32 := by rw [List.length_append, x1, List.length_replicate]
  have l4 : (digC X ++ digC F).length = 32 := by rw [List.length_append, f1, x1]
  have o2 : ∀ A B : List Int, (digC A ++ digC B).all Value.oneCell' = true := fun A B => by rw [List.all_append, digC_one, digC_one]; rfl
  have t1 : (digC F ++ digC X).take 32 = digC F ++ digC X := List.take_of_length_le (by omega)
  have t2 : (digC X ++ digC F).take 32 = digC X ++ digC F := List.take_of_length_le (by omega)
  have n1 : (digC F ++ digC X = []) = False := eq_false fun h => by rw [h] at l2; cases l2
  have n2 : (digC X ++ digC F = []) = False := eq_false fun h => by rw [h] at l4; cases l4
  have z1 : ∀ z : List Value, z.length = 32 → sets z 0 (digC F ++ digC X) = digC F ++ digC X := fun z hz => by rw [sets_all (by omega), l2]; simp [hz]
  have z2 : ∀ z : List Value, z.length = 32 → sets z 0 (digC X ++ digC F) = digC X ++ digC F := fun z hz => by rw [sets_all (by omega), l4]; simp [hz]
  rw [← ap_nil (σ := η)]
  cases b with
  |true =>
   simp only [↓eD, eZ, ↓reduceIte, Nat.reduceEqDiff, Nat.reduceAdd, Nat.reduceMul, reduceCtorEq, Nat.reduceLeDiff, Int.reduceLT, Int.reduceLE, Int.reduceToNat, Int.reduceEq, Nat.reduceLT, dl, dl2, hbd, hbd', Int.toNat_natCast, rp, rt, rd, f1, f2, x1, x2, r32, sf, sfx, sx, sxf, l1, l2, l3, l4, o2, t1, t2, n1, n2, z1, z2, undef_eq]
   have hAB : pairF true F X = (X, F) := rfl
   rw [hAB] at hF hS
   simp only at hF
   obtain ⟨Z, hZ⟩ : ∃ Z, Z = ap η [.cells 2 (digC X ++ digC F) (0, 0), .cells 0 (digC X ++ digC F) (0, 0)] := ⟨_, rfl⟩
   rw [← hZ]
   have oZ : Old η Z := by rw [hZ]; exact .ap
   have sZ : Z.size = η.size + 2 := by rw [hZ]; simp [ap_size]
   have z0 : Z[η.size]? = some (.cells 2 (digC X ++ digC F) (0, 0)) := by rw [hZ]; exact ap_new0
   have zz : Z[η.size + 1]? = some (.cells 0 (digC X ++ digC F) (0, 0)) := by rw [hZ]; exact ap_new
   clear hZ
   have hoZ := ho.old oZ
   have xc : xcells Z 32 (.slice (some ⟨η.size + 1, 0, none⟩) 1 1) = some (1, digC X ++ digC F) := by
    show (rdN Z ⟨η.size + 1, 0, none⟩ (1 * 32)).map (1, ·) = _
    rw [rdN_all (n := 1 * 32) zz l4]
    rfl
   obtain ⟨w, Y, ha, Ap⟩ := append_grown (bytes := 32) hoZ (by omega) (by omega) xc l4 (o2 _ _) (by omega) (by omega)
   refine onV_of ha ?_
   have hbase : baseOf ov ≠ some η.size := fun h9 => by have := (ho.base h9).2; omega
   have y0 := Ap.frame _ _ z0 hbase
   have yd := Ap.low hoZ (by omega) ((oZ.2 _ lη).trans hd)
   have oY : Old τ Y := Ap.Old' hoZ (by omega) (oη.trans oZ)
   have r0 : rdN Y ⟨η.size, 0, none⟩ 16 = some (digC X) := rdp_of y0 .refl x1 (by omega)
   have r1 : rdN Y ⟨η.size, 16, none⟩ 16 = some (digC F) := by
    have h9 := rdN_all (n := 32) y0 l4
    have h8 := rdN_sub h9 (a := 16) (m := 16) (by omega)
    rw [Nat.zero_add] at h8
    rw [h8, List.drop_left' x1, f2]
   have c0 : ((0 : Int) < ((2 : Nat) : Int)) = True := by simp
   have c1 : ((1 : Int) < ((2 : Nat) : Int)) = True := by simp
   simp only [↓eD, eZ, ↓reduceIte, Nat.reduceEqDiff, Nat.reduceAdd, Nat.reduceMul, reduceCtorEq, Nat.reduceLeDiff, Int.reduceLT, Int.reduceLE, Int.reduceToNat, Int.reduceEq, Nat.reduceLT, c0, c1, r0, r1, undef_eq]
   refine appK_at (lnode_app X16 F16 (hG.Old (oτ.trans oY))) ?_
   rw [← hF]
   have N16 : (foldS leaf (T.take (t + 1)) (L.take (t + 1))).length = 16 := by rw [hF]; exact nodeF_len
   generalize foldS leaf (T.take (t + 1)) (L.take (t + 1)) = N at N16
   obtain ⟨m1, m2, m3, m4⟩ := dig_len N16
   have wd := dig_put' N16 F16 yd
   have hw : IntKind.wrap .i64 ((t:Int) + 1) = ((t + 1 : Nat) : Int) := by rw [wrap64' (by omega) (by omega)]; omega
   simp only [↓eD, eZ, ↓reduceIte, Nat.reduceEqDiff, Nat.reduceAdd, Nat.reduceMul, reduceCtorEq, Nat.reduceLeDiff, Int.reduceLT, Int.reduceLE, Int.reduceToNat, Int.reduceEq, Nat.reduceLT, m1, wd, hw, undef_eq]
   refine ⟨hlt, by omega, w, rfl, oY.set (Nat.le_refl _), ⟨_, get_set yd⟩, ?_⟩
   rw [hS, List.map_append, List.flatten_append, List.length_append]
   have gA := Ap.grown.set (b := τ.size) (k := .cells (ver + 1) (digC N) (0, 0)) (by omega)
   simpa [pairC] using gA
  |false =>
   simp only [↓eD, eZ, ↓reduceIte, Nat.reduceEqDiff, Nat.reduceAdd, Nat.reduceMul, reduceCtorEq, Nat.reduceLeDiff, Int.reduceLT, Int.reduceLE, Int.reduceToNat, Int.reduceEq, Nat.reduceLT, dl, dl2, hbd, hbd', Int.toNat_natCast, rp, rt, rd, f1, f2, x1, x2, r32, sf, sfx, sx, sxf, l1, l2, l3, l4, o2, t1, t2, n1, n2, z1, z2, undef_eq]
   have hAB : pairF false F X = (F, X) := rfl
   rw [hAB] at hF hS
   simp only at hF
   obtain ⟨Z, hZ⟩ : ∃ Z, Z = ap η [.cells 1 (digC F ++ digC X) (0, 0), .cells 0 (digC F ++ digC X) (0, 0)] := ⟨_, rfl⟩
   rw [← hZ]
   have oZ : Old η Z := by rw [hZ]; exact .ap
   have sZ : Z.size = η.size + 2 := by rw [hZ]; simp [ap_size]
   have z0 : Z[η.size]? = some (.cells 1 (digC F ++ digC X) (0, 0)) := by rw [hZ]; exact ap_new0
   have zz : Z[η.size + 1]? = some (.cells 0 (digC F ++ digC X) (0, 0)) := by rw [hZ]; exact ap_new
   clear hZ
   have hoZ := ho.old oZ
   have xc : xcells Z 32 (.slice (some ⟨η.size + 1, 0, none⟩) 1 1) = some (1, digC F ++ digC X) := by
    show (rdN Z ⟨η.size + 1, 0, none⟩ (1 * 32)).map (1, ·) = _
    rw [rdN_all (n := 1 * 32) zz l2]
    rfl
   obtain ⟨w, Y, ha, Ap⟩ := append_grown (bytes := 32) hoZ (by omega) (by omega) xc l2 (o2 _ _) (by omega) (by omega)
   refine onV_of ha ?_
   have hbase : baseOf ov ≠ some η.size := fun h9 => by have := (ho.base h9).2; omega
   have y0 := Ap.frame _ _ z0 hbase
   have yd := Ap.low hoZ (by omega) ((oZ.2 _ lη).trans hd)
   have oY : Old τ Y := Ap.Old' hoZ (by omega) (oη.trans oZ)
   have r0 : rdN Y ⟨η.size, 0, none⟩ 16 = some (digC F) := rdp_of y0 .refl f1 (by omega)
   have r1 : rdN Y ⟨η.size, 16, none⟩ 16 = some (digC X) := by
    have h9 := rdN_all (n := 32) y0 l2
    have h8 := rdN_sub h9 (a := 16) (m := 16) (by omega)
    rw [Nat.zero_add] at h8
    rw [h8, List.drop_left' f1, x2]
   have c0 : ((0 : Int) < ((2 : Nat) : Int)) = True := by simp
   have c1 : ((1 : Int) < ((2 : Nat) : Int)) = True := by simp
   simp only [↓eD, eZ, ↓reduceIte, Nat.reduceEqDiff, Nat.reduceAdd, Nat.reduceMul, reduceCtorEq, Nat.reduceLeDiff, Int.reduceLT, Int.reduceLE, Int.reduceToNat, Int.reduceEq, Nat.reduceLT, c0, c1, r0, r1, undef_eq]
   refine appK_at (lnode_app F16 X16 (hG.Old (oτ.trans oY))) ?_
   rw [← hF]
   have N16 : (foldS leaf (T.take (t + 1)) (L.take (t + 1))).length = 16 := by rw [hF]; exact nodeF_len
   generalize foldS leaf (T.take (t + 1)) (L.take (t + 1)) = N at N16
   obtain ⟨m1, m2, m3, m4⟩ := dig_len N16
   have wd := dig_put' N16 F16 yd
   have hw : IntKind.wrap .i64 ((t:Int) + 1) = ((t + 1 : Nat) : Int) := by rw [wrap64' (by omega) (by omega)]; omega
   simp only [↓eD, eZ, ↓reduceIte, Nat.reduceEqDiff, Nat.reduceAdd, Nat.reduceMul, reduceCtorEq, Nat.reduceLeDiff, Int.reduceLT, Int.reduceLE, Int.reduceToNat, Int.reduceEq, Nat.reduceLT, m1, wd, hw, undef_eq]
   refine ⟨hlt, by omega, w, rfl, oY.set (Nat.le_refl _), ⟨_, get_set yd⟩, ?_⟩
   rw [hS, List.map_append, List.flatten_append, List.length_append]
   have gA := Ap.grown.set (b := τ.size) (k := .cells (ver + 1) (digC N) (0, 0)) (by omega)
   simpa [pairC] using gA
 have dl : decide ((t : Int) < (T.length : Int)) = false := by rw [decide_eq_false]; omega
 have : t = T.length := by omega
 subst this
 rw [List.take_length, List.take_of_length_le (by omega)] at ho
 simp only [↓eD, eZ, ↓reduceIte, Nat.reduceEqDiff, Nat.reduceAdd, Nat.reduceMul, reduceCtorEq, Nat.reduceLeDiff, Int.reduceLT, Int.reduceLE, Int.reduceToNat, Int.reduceEq, Nat.reduceLT, dl, undef_eq]
 rw [ap_nil]
 exact ⟨oτ.trans oη, ho.from (by rw [hs3]; have := oτ.1; omega)⟩
theorem pairC_dig {p : List Int × List Int} : pairC p = digC (p.1 ++ p.2) := by unfold pairC digC; rw [List.map_append]
theorem aggEq_pair {x y : List Int × List Int} (hx : x.1.length = 16 ∧ x.2.length = 16) (hy : y.1.length = 16 ∧ y.2.length = 16) : aggEq (List.replicate 32 (.int .u8)) (pairC x) (pairC y) = some (decide (x = y)) := by
 rw [pairC_dig, pairC_dig, aggEq_dig (n := 32) (by rw [List.length_append]; omega) (by rw [List.length_append]; omega)]
 congr 1
 by_cases h : x = y
 ·subst h; rw [decide_eq_true rfl, decide_eq_true rfl]
 ·rw [decide_eq_false h, decide_eq_false]
  intro h9
  obtain ⟨e1, e2⟩ := List.append_inj h9 (by omega)
  exact h (Prod.ext e1 e2)
theorem pair_rd {σ : H} {S : List (List Int × List Int)} {a : Option Addr} {n c t : Nat} (h : Row σ 32 (.slice a n c) (S.map pairC)) (hd : ∀ x ∈ S, x.1.length = 16 ∧ x.2.length = 16) (ht : t < S.length) :
  ∃ b o, a = some ⟨b, o, none⟩ ∧ rdN σ ⟨b, o + t * 32, none⟩ 32 = some (pairC S[t]) ∧ rdN σ ⟨b, o + t * 32, none⟩ 16 = some (digC S[t].1) ∧ rdN σ ⟨b, o + t * 32 + 16, none⟩ 16 = some (digC S[t].2) := by
 obtain ⟨b, o, h1, h2⟩ := h.at (i := t) (x := pairC S[t]) (by simp [ht])
 obtain ⟨g1, g2⟩ := hd S[t] (List.getElem_mem _)
 have l1 : (digC S[t].1).length = 16 := by rw [digC_length, g1]
 have l2 : (digC S[t].2).length = 16 := by rw [digC_length, g2]
 refine ⟨b, o, h1, h2, ?_, ?_⟩
 ·have h8 := rdN_sub h2 (a := 0) (m := 16) (by omega)
  rw [Nat.add_zero] at h8
  rw [h8, pairC, List.drop_zero, List.take_left' l1]
 ·have h8 := rdN_sub h2 (a := 16) (m := 16) (by omega)
  rw [h8, pairC, List.drop_left' l1, List.take_of_length_le (by omega)]
theorem pair_rows {S : List (List Int × List Int)} (h : ∀ x ∈ S, x.1.length = 16 ∧ x.2.length = 16) : ∀ r ∈ S.map pairC, r.length = 32 := fun r hr => by
 obtain ⟨x, hx, rfl⟩ := List.mem_map.1 hr
 obtain ⟨h1, h2⟩ := h x hx
 rw [pairC, List.length_append, digC_length, digC_length, h1, h2]
theorem law6 {σ : H} {v u : Value} {a b root : List Int} {i n : Int} {p q : List (List Int)} (ha : a.length = 16) (hb : b.length = 16) (hp : Ls σ v p) (hq : Ls σ u q) (hr : root.length = 16) (hG : HGlob σ) (hR : Glob σ) (hB : BGlob σ) :
  App Tryd.prog (.func 6) #[] #[.agg (digC a).toArray, .agg (digC b).toArray, .int .i64 i, .int .i64 n, v, u, .agg (digC root).toArray] σ fun w σ' => Old σ σ' ∧ w = .bool true := by
 refine App.of_sem mixed Tryd.func6 t6 k6 r6 (Nat.le_of_ble_eq_true rfl) ?_
 obtain ⟨pa, pc, rfl⟩ := hp.slice
 obtain ⟨qa, qc, rfl⟩ := hq.slice
 obtain ⟨a1, a2, a3, a4⟩ := dig_len ha
 obtain ⟨b1, b2, b3, b4⟩ := dig_len hb
 obtain ⟨r1, r2, r3, r4⟩ := dig_len hr
 have ae := aggEq_dig (a := a) (b := b) ha hb
 rw [← ap_nil (σ := σ)]
 unfold s6
 have san : ∀ {τ : H}, Old σ τ → App Tryd.prog (.func 9) #[] #[] τ fun w σ' => Old σ σ' ∧ w = .bool true := fun o =>
  (sanity_app (hG.Old o) (hR.Old o) (hB.Old o)).mono fun w τ h => ⟨o.trans h.1, h.2⟩
 by_cases h1 : 60 < p.length
 ·have d1 : decide ((60 : Int) < (p.length : Int)) = true := by rw [decide_eq_true]; omega
  simp only [↓eD, eZ, ↓reduceIte, Nat.reduceEqDiff, Nat.reduceAdd, Nat.reduceMul, reduceCtorEq, Nat.reduceLeDiff, Int.reduceLT, Int.reduceLE, Int.reduceToNat, Int.reduceEq, Nat.reduceLT, a1, a2, b1, b2, r1, r2, d1, undef_eq]
  refine appK_of (san (.ap)) ?_
  rintro _ τ' ⟨o, rfl⟩
  simp only [↓eD, eZ, ↓reduceIte, Nat.reduceEqDiff, Nat.reduceAdd, Nat.reduceMul, reduceCtorEq, Nat.reduceLeDiff, Int.reduceLT, Int.reduceLE, Int.reduceToNat, Int.reduceEq, Nat.reduceLT, undef_eq]
  rw [ap_nil]
  exact o
 have d1 : decide ((60 : Int) < (p.length : Int)) = false := by rw [decide_eq_false]; omega
 by_cases h2 : 60 < q.length
 ·have d2 : decide ((60 : Int) < (q.length : Int)) = true := by rw [decide_eq_true]; omega
  simp only [↓eD, eZ, ↓reduceIte, Nat.reduceEqDiff, Nat.reduceAdd, Nat.reduceMul, reduceCtorEq, Nat.reduceLeDiff, Int.reduceLT, Int.reduceLE, Int.reduceToNat, Int.reduceEq, Nat.reduceLT, a1, a2, b1, b2, r1, r2, d1, d2, undef_eq]
  refine appK_of (san (.ap)) ?_
  rintro _ τ' ⟨o, rfl⟩
  simp only [↓eD, eZ, ↓reduceIte, Nat.reduceEqDiff, Nat.reduceAdd, Nat.reduceMul, reduceCtorEq, Nat.reduceLeDiff, Int.reduceLT, Int.reduceLE, Int.reduceToNat, Int.reduceEq, Nat.reduceLT, undef_eq]
  rw [ap_nil]
  exact o
 have d2 : decide ((60 : Int) < (q.length : Int)) = false := by rw [decide_eq_false]; omega
 by_cases h3 : a = b
 ·have d3 : decide (a = b) = true := decide_eq_true h3
  simp only [↓eD, eZ, ↓reduceIte, Nat.reduceEqDiff, Nat.reduceAdd, Nat.reduceMul, reduceCtorEq, Nat.reduceLeDiff, Int.reduceLT, Int.reduceLE, Int.reduceToNat, Int.reduceEq, Nat.reduceLT, a1, a2, b1, b2, r1, r2, d1, d2, ae, d3, undef_eq]
  refine appK_of (san (.ap)) ?_
  rintro _ τ' ⟨o, rfl⟩
  simp only [↓eD, eZ, ↓reduceIte, Nat.reduceEqDiff, Nat.reduceAdd, Nat.reduceMul, reduceCtorEq, Nat.reduceLeDiff, Int.reduceLT, Int.reduceLE, Int.reduceToNat, Int.reduceEq, Nat.reduceLT, undef_eq]
  rw [ap_nil]
  exact o
 have d3 : decide (a = b) = false := decide_eq_false h3
 simp only [↓eD, eZ, ↓reduceIte, Nat.reduceEqDiff, Nat.reduceAdd, Nat.reduceMul, reduceCtorEq, Nat.reduceLeDiff, Int.reduceLT, Int.reduceLE, Int.reduceToNat, Int.reduceEq, Nat.reduceLT, a1, a2, b1, b2, r1, r2, d1, d2, ae, d3, undef_eq]
 refine appK_at (chki_app ha hr (hp.Old .ap) (by omega) (hG.Old .ap)) ?_
 cases c1 : chkI a i n p root with
 |false =>
  simp only [↓eD, eZ, ↓reduceIte, Nat.reduceEqDiff, Nat.reduceAdd, Nat.reduceMul, reduceCtorEq, Nat.reduceLeDiff, Int.reduceLT, Int.reduceLE, Int.reduceToNat, Int.reduceEq, Nat.reduceLT, Bool.not_false, undef_eq]
  refine appK_of (san (.ap)) ?_
  rintro _ τ' ⟨o, rfl⟩
  simp only [↓eD, eZ, ↓reduceIte, Nat.reduceEqDiff, Nat.reduceAdd, Nat.reduceMul, reduceCtorEq, Nat.reduceLeDiff, Int.reduceLT, Int.reduceLE, Int.reduceToNat, Int.reduceEq, Nat.reduceLT, undef_eq]
  rw [ap_nil]
  exact o
 |true =>
 simp only [↓eD, eZ, ↓reduceIte, Nat.reduceEqDiff, Nat.reduceAdd, Nat.reduceMul, reduceCtorEq, Nat.reduceLeDiff, Int.reduceLT, Int.reduceLE, Int.reduceToNat, Int.reduceEq, Nat.reduceLT, a1, a2, b1, b2, r1, r2, Bool.not_true, undef_eq]
 refine appK_at (chki_app hb hr (hq.Old .ap) (by omega) (hG.Old .ap)) ?_
 cases c2 : chkI b i n q root with
 |false =>
  simp only [↓eD, eZ, ↓reduceIte, Nat.reduceEqDiff, Nat.reduceAdd, Nat.reduceMul, reduceCtorEq, Nat.reduceLeDiff, Int.reduceLT, Int.reduceLE, Int.reduceToNat, Int.reduceEq, Nat.reduceLT, Bool.not_false, undef_eq]
  refine appK_of (san (.ap)) ?_
  rintro _ τ' ⟨o, rfl⟩
  simp only [↓eD, eZ, ↓reduceIte, Nat.reduceEqDiff, Nat.reduceAdd, Nat.reduceMul, reduceCtorEq, Nat.reduceLeDiff, Int.reduceLT, Int.reduceLE, Int.reduceToNat, Int.reduceEq, Nat.reduceLT, undef_eq]
  rw [ap_nil]
  exact o
 |true =>
 obtain ⟨hin, hpl, hpr⟩ := chkI_true c1
 obtain ⟨_, hql, hqr⟩ := chkI_true c2
 obtain ⟨x, rfl⟩ : ∃ x : Nat, i = (x : Int) := ⟨i.toNat, by omega⟩
 obtain ⟨m, rfl⟩ : ∃ m : Nat, n = (m : Int) := ⟨n.toNat, by omega⟩
 rw [Int.toNat_natCast, Int.toNat_natCast] at hpl hpr hql hqr
 have hex := binds (T := tF x m) (p := p) (q := q) (a := a) (b := b) hpl.symm hql.symm h3 (hpr.trans hqr.symm)
 have X2 := stF_dig (T := tF x m) ha hp.d
 have Y2 := stF_dig (T := tF x m) hb hq.d
 have Xl := stF_len (T := tF x m) (L := p) (d := a) hpl.symm
 have Yl := stF_len (T := tF x m) (L := q) (d := b) hql.symm
 have st1 : ∀ {τ : H}, Old σ τ → App Tryd.prog (.func 27) #[] #[.agg (digC a).toArray, .int .i64 (x : Int), .int .i64 (m : Int), .slice pa p.length pc] τ fun w σ' => Old τ σ' ∧ Grown τ σ' 32 w ((stF a (tF x m) p).map pairC).flatten (stF a (tF x m) p).length := fun o => steps_app ha (hp.Old o) (by omega) (by omega) hpl (by omega) (hG.Old o)
 have st2 : ∀ {τ : H}, Old σ τ → App Tryd.prog (.func 27) #[] #[.agg (digC b).toArray, .int .i64 (x : Int), .int .i64 (m : Int), .slice qa q.length qc] τ fun w σ' => Old τ σ' ∧ Grown τ σ' 32 w ((stF b (tF x m) q).map pairC).flatten (stF b (tF x m) q).length := fun o => steps_app hb (hq.Old o) (by omega) (by omega) hql (by omega) (hG.Old o)
 have hTl : (tF x m).length ≤ 60 := by omega
 generalize (tF x m).length = N at Xl Yl hTl
 generalize stF a (tF x m) p = S1 at hex X2 Xl st1
 generalize stF b (tF x m) q = S2 at hex Y2 Yl st2
 simp only [↓eD, eZ, ↓reduceIte, Nat.reduceEqDiff, Nat.reduceAdd, Nat.reduceMul, reduceCtorEq, Nat.reduceLeDiff, Int.reduceLT, Int.reduceLE, Int.reduceToNat, Int.reduceEq, Nat.reduceLT, a1, a2, b1, b2, r1, r2, Bool.not_true, undef_eq]
 refine appK_of (st1 .ap) ?_
 rintro w τ ⟨oτ, hg1⟩
 have oτσ : Old σ τ := Old.ap.trans oτ
 have tb : τ[σ.size + 1]? = some (.cells 0 (digC b) (0, 0)) := (oτ.2 _ (by rw [ap_size]; simp)).trans (by rw [ap_new]; rfl)
 have f8 := rdN_all (n := 16) tb b1
 obtain ⟨wa, wc, rfl⟩ := hg1.slice
 simp only [↓eD, eZ, ↓reduceIte, Nat.reduceEqDiff, Nat.reduceAdd, Nat.reduceMul, reduceCtorEq, Nat.reduceLeDiff, Int.reduceLT, Int.reduceLE, Int.reduceToNat, Int.reduceEq, Nat.reduceLT, f8, undef_eq]
 refine appK_of (st2 oτσ) ?_
 rintro w2 η ⟨oη, hg2⟩
 have oησ := oτσ.trans oη
 have R1 := Grown.Row (rows := S1.map pairC) (by rw [List.length_map]; exact hg1.old oη) (pair_rows X2)
 have R2 := Grown.Row (rows := S2.map pairC) (by rw [List.length_map]; exact hg2) (pair_rows Y2)
 obtain ⟨wa2, wc2, rfl⟩ := hg2.slice
 simp only [↓eD, eZ, ↓reduceIte, Nat.reduceEqDiff, Nat.reduceAdd, Nat.reduceMul, reduceCtorEq, Nat.reduceLeDiff, Int.reduceLT, Int.reduceLE, Int.reduceToNat, Int.reduceEq, Nat.reduceLT, undef_eq]
 refine loop_for (J := fun t e τ' => τ' = η ∧ t ≤ N ∧ e = [(15, .slice wa S1.length wc), (16, .slice wa2 S2.length wc2), (17, .int .i64 (t : Int))] ∧ ∃ (k : Nat) (x y : List Int × List Int), t ≤ k ∧ S1[k]? = some x ∧ S2[k]? = some y ∧ x ≠ y ∧ nodeF x.1 x.2 = nodeF y.1 y.2) N
  ⟨rfl, by omega, rfl, by obtain ⟨k, x, y, h⟩ := hex; exact ⟨k, x, y, Nat.zero_le _, h⟩⟩ ?_
 rintro t e _ _ ⟨rfl, ht, rfl, k, X, Y, hk, e1, e2, e3, e4⟩
 have hkN := (List.getElem?_eq_some_iff.1 e1).1
 have t1 : t < S1.length := by omega
 have t2 : t < S2.length := by omega
 have dl1 : decide ((t : Int) < (S1.length : Int)) = true := by rw [decide_eq_true]; omega
 have dl2 : decide ((t : Int) < (S2.length : Int)) = true := by rw [decide_eq_true]; omega
 have hbd1 : (0:Int) ≤ (t:Int) ∧ (t:Int) < (S1.length : Int) := by omega
 have hbd2 : (0:Int) ≤ (t:Int) ∧ (t:Int) < (S2.length : Int) := by omega
 obtain ⟨bb, o, rfl, g1, g2, g3⟩ := pair_rd R1 X2 t1
 obtain ⟨bb2, o2, rfl, k1, k2, k3⟩ := pair_rd R2 Y2 t2
 have x2 := X2 S1[t] (List.getElem_mem _)
 have y2 := Y2 S2[t] (List.getElem_mem _)
 have ap := aggEq_pair x2 y2
 have hwr : IntKind.wrap .i64 ((t:Int) + 1) = ((t + 1 : Nat) : Int) := by rw [wrap64' (by omega) (by omega)]; omega
 have c0 : ((0 : Int) < ((2 : Nat) : Int)) = True := by simp
 have c1' : ((1 : Int) < ((2 : Nat) : Int)) = True := by simp
 have next : (S1[t] = S2[t] ∨ nodeF S1[t].1 S1[t].2 ≠ nodeF S2[t].1 S2[t].2) → t + 1 ≤ k := fun h => by
  rcases Nat.lt_or_ge t k with h9 | h9
  ·omega
  ·have : t = k := by omega
   subst this
   rw [List.getElem?_eq_getElem t1] at e1
   rw [List.getElem?_eq_getElem t2] at e2
   injection e1 with e1
   injection e2 with e2
   rw [e1, e2] at h
   exact absurd h (by rintro (h | h); exact e3 h; exact h e4)
 generalize S1[t] = A at g1 g2 g3 x2 ap next
 generalize S2[t] = B at k1 k2 k3 y2 ap next
 by_cases hAB : A = B
 ·have dAB : decide (A = B) = true := decide_eq_true hAB
  simp only [↓eD, eZ, ↓reduceIte, Nat.reduceEqDiff, Nat.reduceAdd, Nat.reduceMul, reduceCtorEq, Nat.reduceLeDiff, Int.reduceLT, Int.reduceLE, Int.reduceToNat, Int.reduceEq, Nat.reduceLT, dl1, dl2, hbd1, hbd2, Int.toNat_natCast, g1, k1, ap, dAB, hwr, Bool.not_true, undef_eq]
  exact ⟨by omega, by omega, k, X, Y, next (.inl hAB), e1, e2, e3, e4⟩
 have dAB : decide (A = B) = false := decide_eq_false hAB
 simp only [↓eD, eZ, ↓reduceIte, Nat.reduceEqDiff, Nat.reduceAdd, Nat.reduceMul, reduceCtorEq, Nat.reduceLeDiff, Int.reduceLT, Int.reduceLE, Int.reduceToNat, Int.reduceEq, Nat.reduceLT, dl1, dl2, hbd1, hbd2, Int.toNat_natCast, g1, g2, g3, k1, k2, k3, ap, dAB, c0, c1', Bool.not_false, undef_eq]
 refine appK_at (lnode_app x2.1 x2.2 (hG.Old oησ)) ?_
 simp only [↓eD, eZ, ↓reduceIte, Nat.reduceEqDiff, Nat.reduceAdd, Nat.reduceMul, reduceCtorEq, Nat.reduceLeDiff, Int.reduceLT, Int.reduceLE, Int.reduceToNat, Int.reduceEq, Nat.reduceLT, k2, k3, undef_eq]
 refine appK_at (lnode_app y2.1 y2.2 (hG.Old oησ)) ?_
 have an := aggEq_dig (n := 16) (a := nodeF A.1 A.2) (b := nodeF B.1 B.2) nodeF_len nodeF_len
 by_cases hN : nodeF A.1 A.2 = nodeF B.1 B.2
 ·have dN : decide (nodeF A.1 A.2 = nodeF B.1 B.2) = true := decide_eq_true hN
  simp only [↓eD, eZ, ↓reduceIte, Nat.reduceEqDiff, Nat.reduceAdd, Nat.reduceMul, reduceCtorEq, Nat.reduceLeDiff, Int.reduceLT, Int.reduceLE, Int.reduceToNat, Int.reduceEq, Nat.reduceLT, an, dN, undef_eq]
  refine appK_of (san (oησ)) ?_
  rintro _ τ' ⟨o, rfl⟩
  simp only [↓eD, eZ, ↓reduceIte, Nat.reduceEqDiff, Nat.reduceAdd, Nat.reduceMul, reduceCtorEq, Nat.reduceLeDiff, Int.reduceLT, Int.reduceLE, Int.reduceToNat, Int.reduceEq, Nat.reduceLT, undef_eq]
  rw [ap_nil]
  exact o
 have dN : decide (nodeF A.1 A.2 = nodeF B.1 B.2) = false := decide_eq_false hN
 simp only [↓eD, eZ, ↓reduceIte, Nat.reduceEqDiff, Nat.reduceAdd, Nat.reduceMul, reduceCtorEq, Nat.reduceLeDiff, Int.reduceLT, Int.reduceLE, Int.reduceToNat, Int.reduceEq, Nat.reduceLT, an, dN, hwr, undef_eq]
 exact ⟨by omega, by omega, k, X, Y, next (.inr hN), e1, e2, e3, e4⟩
end Go.Proofs.YtjgbbhfihcmphaaDoor
