/- Walks and plain laws. Conditions: none. -/
import Derived.Test.YtopnlllipkockaaDoorKc
set_option linter.all false
set_option maxRecDepth 10000
set_option maxHeartbeats 8000000
namespace Go.Proofs.YtopnlllipkockaaDoor
open Go Go.Cn Go.RowKit
attribute [local irreducible] evL sem onG onI onV
theorem decF_bad {b : List Int} (h : (decF b).2 ≠ 0) : decF b = (.zero, 11) := by
 by_cases h1 : b.length < 16
 ·exact if_pos h1
 have hu : decF b = _ := if_neg h1
 rw [hu] at h ⊢
 clear hu
 split at h
 ·rename_i g; rw [if_pos g]
 rename_i g1
 rw [if_neg g1]
 split at h
 ·rename_i g; rw [if_pos g]
 rename_i g2
 rw [if_neg g2]
 split at h
 ·rename_i g; rw [if_pos g]
 rename_i g3
 rw [if_neg g3]
 split at h
 ·rename_i g; rw [if_pos g]
 ·exact absurd rfl h
theorem sameL_self {L : Lg} : sameL L L = true := decide_eq_true ⟨rfl, rfl, rfl, rfl⟩
theorem encF_short {L : Lg} (hd : L.d.length = 16) (hf : lfewF L = true) (hok : ∀ s ∈ L.S, s.ok) : (encF L).length < 100000 := by
 obtain ⟨nE, nS, nD⟩ := few_data hf
 have hnl : (numsF L).length = 3 + 4 * L.E.length + L.S.length := by
  unfold numsF; rw [List.length_append, List.length_append, numsE_len, List.length_map]; rfl
 have hil := intsF_len (l := numsF L)
 have hsl : (stringsF (dataF L)).length ≤ 10 + 60 * 610 := by
  unfold stringsF dataF
  have e1 := flat_len_mem (f := bytesF) (l := L.E.map Ent.data) (i := L.E.length) (n := 610) (fun s hs => by
   obtain ⟨x, hx, rfl⟩ := List.mem_map.1 hs
   have := bytesF_len7 (s := x.data)
   have := nD x hx
   omega)
  rw [List.take_of_length_le (by simp)] at e1
  rw [List.length_append]
  have e2 : (intF ((L.E.map Ent.data).length : Int)).length ≤ 10 := intF_len
  have e3 : L.E.length * 610 ≤ 60 * 610 := Nat.mul_le_mul_right _ nE
  omega
 have htl : (tailL L).length = 32 * L.S.length := by
  unfold tailL
  generalize L.S = S at hok
  induction S with
  |nil => rfl
  |cons s S ih =>
   obtain ⟨g1, g2⟩ := hok s List.mem_cons_self
   rw [List.flatMap_cons, List.length_append, ih fun s hs => hok s (List.mem_cons_of_mem _ hs)]
   unfold seaB
   rw [List.length_append, g1, g2, List.length_cons]
   omega
 unfold encF
 rw [List.length_append, List.length_append, List.length_append, hd, htl]
 omega
theorem okI_nums {L : Lg} (hf : L.fit) (hS : ∀ s ∈ L.S, I64 s.end_) (hn : L.S.length < 2000000000000) : ∀ n ∈ numsF L, okI n := by
 intro n hn'
 have hc := hf.c
 have hnE := hf.n
 unfold numsF at hn'
 unfold okI
 rcases List.mem_append.1 hn' with h | h
 ·rcases List.mem_append.1 h with h | h
  ·simp only [List.mem_cons, List.not_mem_nil, or_false] at h
   unfold I64 at hc
   omega
  ·obtain ⟨e, he, h⟩ := List.mem_flatMap.1 h
   obtain ⟨q1, q2, q3, q4, _⟩ := hf.E e he
   unfold I64 at q1 q2 q3 q4
   simp only [numsE, List.mem_cons, List.not_mem_nil, or_false] at h
   omega
 ·obtain ⟨s, hs, rfl⟩ := List.mem_map.1 h
  exact hS s hs
theorem law8 {σ : H} {l : List Value} {L : Lg} {a1 a2 : Option Addr} {b1 b2 : Nat} {sl : Value} {b : List Int} (h : LgA σ l L a1 b1 a2 b2) (hb : Byt b) (hw : Whl σ 1 sl b.length (digC b)) (hH : HGlob σ) (hG : Glob σ) :
  App Tryd.prog (.func 8) #[] #[.agg l.toArray, sl] σ fun v σ' => Old σ σ' ∧ v = .bool true := by
 refine App.of_sem mixed Tryd.func8 t8 k8 r8 (Nat.le_of_ble_eq_true rfl) ?_
 have lR : l.length = 19 := h.r.len
 have tR : l.take 19 = l := h.r.take
 have fin : ∀ M : List Blk, Old σ (ap σ M) := fun M => .ap
 obtain ⟨a, c, rfl⟩ := hw.slice
 rw [← ap_nil (σ := σ)]
 unfold s8
 by_cases h3 : 3000 < b.length
 ·have d3 : decide ((3000 : Int) < (b.length : Int)) = true := by rw [decide_eq_true]; omega
  simp only [↓eD, eZ, ↓reduceIte, Nat.reduceEqDiff, Nat.reduceAdd, Nat.reduceMul, reduceCtorEq, Nat.reduceLeDiff, Int.reduceLT, Int.reduceLE, Int.reduceToNat, Int.reduceEq, Nat.reduceLT, lR, tR, d3, undef_eq]
  refine appK_at (sanity_app (hH.Old (fin _))) ?_
  simp only [↓eD, eZ, ↓reduceIte, Nat.reduceEqDiff, Nat.reduceAdd, Nat.reduceMul, reduceCtorEq, Nat.reduceLeDiff, Int.reduceLT, Int.reduceLE, Int.reduceToNat, Int.reduceEq, Nat.reduceLT, undef_eq]
  first | exact ⟨fin _, rfl⟩ | exact fin _
 have d3 : decide ((3000 : Int) < (b.length : Int)) = false := by rw [decide_eq_false]; omega
 simp only [↓eD, eZ, ↓reduceIte, Nat.reduceEqDiff, Nat.reduceAdd, Nat.reduceMul, reduceCtorEq, Nat.reduceLeDiff, Int.reduceLT, Int.reduceLE, Int.reduceToNat, Int.reduceEq, Nat.reduceLT, lR, tR, d3, undef_eq]
 obtain ⟨σ1, hσ1⟩ : ∃ σ1, σ1 = ap σ [.cells 0 l (0, 0)] := ⟨_, rfl⟩
 rw [← hσ1]
 have o1 : Old σ σ1 := by rw [hσ1]; exact .ap
 have p1 : σ1[σ.size]? = some (.cells 0 l (0, 0)) := by rw [hσ1, ap_new0]; rfl
 have s1 : σ1.size = σ.size + 1 := by rw [hσ1]; simp [ap_size]
 clear hσ1
 refine appK_of (wdecode_app (hw.Old o1) hb (by omega) (hH.Old o1)) ?_
 rintro v η1 ⟨ho1, lx, x1, y1, x2, y2, rfl, Rx, Vx⟩
 have lx19 := Rx.len
 have tx19 := Rx.take
 have zx : ∀ z : List Value, z.length = 19 → sets z 0 lx = lx := fun z hz => by rw [sets_all (by omega), lx19]; simp [hz]
 have nx : (lx = []) = False := eq_false fun h9 => by rw [h9] at lx19; cases lx19
 have ox : lx.all Value.oneCell' = true := by rw [Rx.l]; exact rec_one
 rw [← ap_nil (σ := η1)]
 simp only [↓eD, eZ, ↓reduceIte, Nat.reduceEqDiff, Nat.reduceAdd, Nat.reduceMul, reduceCtorEq, Nat.reduceLeDiff, Int.reduceLT, Int.reduceLE, Int.reduceToNat, Int.reduceEq, Nat.reduceLT, lx19, tx19, zx, nx, ox, undef_eq]
 obtain ⟨σ2, hσ2⟩ : ∃ σ2, σ2 = ap η1 [.cells 1 lx (0, 0)] := ⟨_, rfl⟩
 rw [← hσ2]
 have oa : Old η1 σ2 := by rw [hσ2]; exact .ap
 have p2 : σ2[η1.size]? = some (.cells 1 lx (0, 0)) := by rw [hσ2, ap_new0]; rfl
 have o12 : Old σ1 σ2 := ho1.trans oa
 have o2 : Old σ σ2 := o1.trans o12
 clear hσ2
 refine appK_of (rdecode_app (hw.Old o2) hb (by omega) (hG.Old o2)) ?_
 rintro v η2 ⟨ho2, lw, u1, w1, u2, w2, rfl, Rw, _⟩
 have lw19 := Rw.len
 have zw : ∀ (z : List Value) (i j : Int), z.length = 21 → sets z 0 (lw ++ [.int .i64 i, .int .i64 j]) = lw ++ [.int .i64 i, .int .i64 j] := fun z i j hz => did_sets lw19 hz
 have lw21 : ∀ i j : Int, (lw ++ [Value.int .i64 i, .int .i64 j]).length = 21 := fun i j => did_len lw19
 have tw21 : ∀ i j : Int, (lw ++ [Value.int .i64 i, .int .i64 j]).take 21 = lw ++ [.int .i64 i, .int .i64 j] := fun i j => did_take lw19
 have nw : ∀ i j : Int, (lw ++ [Value.int .i64 i, .int .i64 j] = []) = False := fun i j => did_ne
 have ow : ∀ i j : Int, (lw ++ [Value.int .i64 i, .int .i64 j]).all Value.oneCell' = true := fun i j => did_one (by rw [Rw.l]; exact rec_one)
 have hz : decF b = (.zero, 11) ∨ (decF b).2 = 0 := by
  by_cases h9 : (decF b).2 = 0
  ·exact .inr h9
  ·exact .inl (decF_bad h9)
 have o02 : Old σ η2 := o2.trans ho2
 have q2 : η2[η1.size]? = some (.cells 1 lx (0, 0)) := (ho2.2 _ (Array.getElem?_eq_some_iff.1 p2).1).trans p2
 have q1 : η2[σ.size]? = some (.cells 0 l (0, 0)) := ((o12.trans ho2).2 _ (Array.getElem?_eq_some_iff.1 p1).1).trans p1
 have g20 : ∀ i j : Int, (lw ++ [Value.int .i64 i, .int .i64 j])[20]? = some (.int .i64 j) := fun i j => did_20 lw19
 rw [← ap_nil (σ := η2)]
 have r5 : ∀ M, rdN (ap η2 M) ⟨η1.size, 0, none⟩ 19 = some lx := fun M => rdb_of q2 .ap lx19
 have r2 : ∀ M, rdN (ap η2 M) ⟨σ.size, 0, none⟩ 19 = some l := fun M => rdb_of q1 .ap lR
 have t19 : ∀ i j : Int, (lw ++ [Value.int .i64 i, .int .i64 j]).take 19 = lw := fun i j => List.take_left' lw19
 have un : ∀ z : Bool, unop .not (.bool z) = some (.bool !z) := fun _ => rfl
 have sx0 : ap σ [] = σ := ap_nil
 have sx1 : ap η1 [] = η1 := ap_nil
 rcases hz with hz | hz
 case' inl =>
  rw [hz] at Rx Rw ⊢
  have dd : decide ((11 : Int) = 11) = true := rfl
  have d0 : decide ((11 : Int) = 0) = false := rfl
  simp only [↓eD, eZ, ↓reduceIte, Nat.reduceEqDiff, Nat.reduceAdd, Nat.reduceMul, reduceCtorEq, Nat.reduceLeDiff, Int.reduceLT, Int.reduceLE, Int.reduceToNat, Int.reduceEq, Nat.reduceLT, sx0, sx1, lw21, tw21, zw, nw, ow, dd, g20, r5, t19, Bool.not_true, undef_eq]
  refine appK_at (same_app ((Rx.Old oa).Old (ho2.trans .ap)) (Rw.Old .ap) (by show 0 < _; decide) (by show 0 < _; decide)) ?_
  simp only [↓eD, eZ, ↓reduceIte, Nat.reduceEqDiff, Nat.reduceAdd, Nat.reduceMul, reduceCtorEq, Nat.reduceLeDiff, Int.reduceLT, Int.reduceLE, Int.reduceToNat, Int.reduceEq, Nat.reduceLT, sameL_self, d0, r2, r5, Bool.not_true, undef_eq]
  obtain ⟨η, hη⟩ : ∃ η, η = ap η2 [.cells 1 (lw ++ [.int .i64 0, .int .i64 11]) (0, 0)] := ⟨_, rfl⟩
  rw [← hη]
  have oη : Old η2 η := by rw [hη]; exact .ap
  clear hη
 case' inr =>
  have V := Vx hz
  obtain ⟨K, hK⟩ : ∃ K, K = (decF b).1 := ⟨_, rfl⟩
  have hdb : decF b = (K, 0) := Prod.ext hK.symm hz
  rw [hdb] at Rx Rw V ⊢
  dsimp only at Rx Rw V ⊢
  obtain ⟨f1, f2, f3, f4, f5, f6, f7, f8⟩ := enc_dec hb hdb
  have G := good_iff.1 f2
  have nE := G.nE
  have nS := G.nS
  have hb0 : b.length ≠ 0 := fun h9 => by
   have : decF b = (.zero, 11) := if_pos (by omega)
   rw [this] at hdb
   cases hdb
  obtain ⟨bk, bo, rfl, hbr⟩ := hw.at (by omega)
  rw [Nat.mul_one] at hbr
  have hbr' : ∀ M, rdN (ap η2 M) ⟨bk, bo, none⟩ b.length = some (digC b) := fun M => rdN_Old (o02.trans .ap) hbr
  have dd : decide ((0 : Int) = 0) = true := rfl
  simp only [↓eD, eZ, ↓reduceIte, Nat.reduceEqDiff, Nat.reduceAdd, Nat.reduceMul, reduceCtorEq, Nat.reduceLeDiff, Int.reduceLT, Int.reduceLE, Int.reduceToNat, Int.reduceEq, Nat.reduceLT, sx0, sx1, lw21, tw21, zw, nw, ow, dd, g20, r5, t19, Bool.not_true, undef_eq]
  refine appK_at (same_app ((Rx.Old oa).Old (ho2.trans .ap)) (Rw.Old .ap) (by omega) (by omega)) ?_
  simp only [↓eD, eZ, ↓reduceIte, Nat.reduceEqDiff, Nat.reduceAdd, Nat.reduceMul, reduceCtorEq, Nat.reduceLeDiff, Int.reduceLT, Int.reduceLE, Int.reduceToNat, Int.reduceEq, Nat.reduceLT, sameL_self, un, dd, r2, r5, hbr', Option.bind_some, bytesOf_dig, dig_str7, Bool.not_true, undef_eq]
  refine appK_of (wencode_app ((V.Old oa).Old (ho2.trans .ap)) nE nS (fun e he => by have := f6 e he; omega)) ?_
  rintro v η ⟨oη', we⟩
  rw [f1] at we
  have oη : Old η2 η := Old.ap.trans oη'
  obtain ⟨ea, ec, rfl⟩ := we.slice
  obtain ⟨ek, eo, rfl, her⟩ := we.at (by omega)
  rw [Nat.mul_one] at her
  have hbr2 : rdN η ⟨bk, bo, none⟩ b.length = some (digC b) := rdN_Old (o02.trans oη) hbr
  have q9 : rdN η ⟨σ.size, 0, none⟩ 19 = some l := rdb_of q1 oη lR
  have bself : decide (bytesS b = bytesS b) = true := decide_eq_true rfl
  simp only [↓eD, eZ, ↓reduceIte, Nat.reduceEqDiff, Nat.reduceAdd, Nat.reduceMul, reduceCtorEq, Nat.reduceLeDiff, Int.reduceLT, Int.reduceLE, Int.reduceToNat, Int.reduceEq, Nat.reduceLT, hbr2, her, q9, Option.bind_some, bytesOf_dig, dig_str7, bself, Bool.not_true, undef_eq]
 all_goals
  have q3 : η[σ.size]? = some (.cells 0 l (0, 0)) := (oη.2 _ (Array.getElem?_eq_some_iff.1 q1).1).trans q1
  have o3 : Old σ η := o02.trans oη
  clear oη
  refine appK_at (law_right_app (h.r.Old o3) h.cE (hG.Old o3)) ?_
  cases hr : lrightF L with
  |false =>
   simp only [↓eD, eZ, ↓reduceIte, Nat.reduceEqDiff, Nat.reduceAdd, Nat.reduceMul, reduceCtorEq, Nat.reduceLeDiff, Int.reduceLT, Int.reduceLE, Int.reduceToNat, Int.reduceEq, Nat.reduceLT, Bool.not_false, undef_eq]
   refine appK_at (sanity_app (hH.Old o3)) ?_
   simp only [↓eD, eZ, ↓reduceIte, Nat.reduceEqDiff, Nat.reduceAdd, Nat.reduceMul, reduceCtorEq, Nat.reduceLeDiff, Int.reduceLT, Int.reduceLE, Int.reduceToNat, Int.reduceEq, Nat.reduceLT, undef_eq]
   first | exact ⟨o3, rfl⟩ | exact o3
  |true =>
  have gL : lfewF L = true := by unfold lrightF at hr; rw [Bool.and_eq_true] at hr; exact hr.1
  have gC : checkF L = 0 := by unfold lrightF at hr; rw [Bool.and_eq_true] at hr; exact of_decide_eq_true hr.2
  have VL := h.v gL
  have hok : ∀ s ∈ L.S, s.ok := fun s hs => (VL.ok s hs).1
  obtain ⟨nE, nS, nD⟩ := few_data gL
  have hen : (encF L).length < 100000 := encF_short VL.fit.d gL hok
  have hdc := dec_enc gC VL.fit.d hok (okI_nums VL.fit (fun s hs => (VL.ok s hs).2) VL.nS)
  have hby : Byt (encF L) := encF_byt h.bd h.bs
  have q9 : rdN η ⟨σ.size, 0, none⟩ 19 = some l := rdb_of q3 (Old.refl) lR
  simp only [↓eD, eZ, ↓reduceIte, Nat.reduceEqDiff, Nat.reduceAdd, Nat.reduceMul, reduceCtorEq, Nat.reduceLeDiff, Int.reduceLT, Int.reduceLE, Int.reduceToNat, Int.reduceEq, Nat.reduceLT, q9, Bool.not_true, undef_eq]
  refine appK_of (wencode_app (VL.Old o3) (by omega) (by omega) (fun e he => by have := nD e he; omega)) ?_
  rintro v η3 ⟨o4', wc⟩
  have o4 : Old σ η3 := o3.trans o4'
  have q4 : η3[σ.size]? = some (.cells 0 l (0, 0)) := (o4'.2 _ (Array.getElem?_eq_some_iff.1 q3).1).trans q3
  obtain ⟨ca, cc, rfl⟩ := wc.slice
  have hpos : 0 < (encF L).length := by unfold encF; rw [List.length_append, List.length_append, List.length_append, VL.fit.d]; omega
  obtain ⟨ck, co, rfl, hcr⟩ := wc.at hpos
  rw [Nat.mul_one] at hcr
  simp only [↓eD, eZ, ↓reduceIte, Nat.reduceEqDiff, Nat.reduceAdd, Nat.reduceMul, reduceCtorEq, Nat.reduceLeDiff, Int.reduceLT, Int.reduceLE, Int.reduceToNat, Int.reduceEq, Nat.reduceLT, undef_eq]
  refine appK_of (wdecode_app wc hby (by omega) (hH.Old o4)) ?_
  rintro v η4 ⟨o5', ly, y1', y2', y3', y4', rfl, Ry, _⟩
  rw [hdc] at Ry ⊢
  dsimp only at Ry ⊢
  have o5 : Old σ η4 := o4.trans o5'
  have q5 : η4[σ.size]? = some (.cells 0 l (0, 0)) := (o5'.2 _ (Array.getElem?_eq_some_iff.1 q4).1).trans q4
  have ly19 := Ry.len
  have ty19 := Ry.take
  have zy : ∀ z : List Value, z.length = 19 → sets z 0 ly = ly := fun z hz => by rw [sets_all (by omega), ly19]; simp [hz]
  have ny : (ly = []) = False := eq_false fun h9 => by rw [h9] at ly19; cases ly19
  have oy : ly.all Value.oneCell' = true := by rw [Ry.l]; exact rec_one
  rw [← ap_nil (σ := η4)]
  simp only [↓eD, eZ, ↓reduceIte, Nat.reduceEqDiff, Nat.reduceAdd, Nat.reduceMul, reduceCtorEq, Nat.reduceLeDiff, Int.reduceLT, Int.reduceLE, Int.reduceToNat, Int.reduceEq, Nat.reduceLT, ly19, ty19, zy, ny, oy, undef_eq]
  have sx4 : ap η4 [] = η4 := ap_nil
  obtain ⟨η5, hη5⟩ : ∃ η5, η5 = ap η4 [.cells 1 ly (0, 0)] := ⟨_, rfl⟩
  rw [← hη5]
  have o6' : Old η4 η5 := by rw [hη5]; exact .ap
  have q6 : η5[η4.size]? = some (.cells 1 ly (0, 0)) := by rw [hη5, ap_new0]; rfl
  have q7 : η5[σ.size]? = some (.cells 0 l (0, 0)) := (o6'.2 _ (Array.getElem?_eq_some_iff.1 q5).1).trans q5
  have o6 : Old σ η5 := o5.trans o6'
  clear hη5
  refine appK_at (sanity_app (hH.Old o6)) ?_
  have hcr5 : rdN η5 ⟨ck, co, none⟩ (encF L).length = some (digC (encF L)) := rdN_Old (o5'.trans o6') hcr
  have q8 : rdN η5 ⟨σ.size, 0, none⟩ 19 = some l := rdb_of q7 Old.refl lR
  simp only [↓eD, eZ, ↓reduceIte, Nat.reduceEqDiff, Nat.reduceAdd, Nat.reduceMul, reduceCtorEq, Nat.reduceLeDiff, Int.reduceLT, Int.reduceLE, Int.reduceToNat, Int.reduceEq, Nat.reduceLT, sx4, hcr5, q8, Option.bind_some, bytesOf_dig, dig_str7, Bool.not_true, undef_eq]
  refine appK_of (rencode_app (VL.Old o6) (by omega) (by omega) (fun e he => by have := nD e he; omega) h.bd h.bs) ?_
  rintro v η6 ⟨o7', wr⟩
  obtain ⟨da, dc, rfl⟩ := wr.slice
  obtain ⟨dk, do_, rfl, hdr⟩ := wr.at hpos
  rw [Nat.mul_one] at hdr
  have hcr6 : rdN η6 ⟨ck, co, none⟩ (encF L).length = some (digC (encF L)) := rdN_Old o7' hcr5
  have q10 : rdN η6 ⟨σ.size, 0, none⟩ 19 = some l := rdb_of q7 o7' lR
  have q11 : rdN η6 ⟨η4.size, 0, none⟩ 19 = some ly := rdb_of q6 o7' ly19
  have bself : decide (bytesS (encF L) = bytesS (encF L)) = true := decide_eq_true rfl
  have dd : decide ((0 : Int) = 0) = true := rfl
  simp only [↓eD, eZ, ↓reduceIte, Nat.reduceEqDiff, Nat.reduceAdd, Nat.reduceMul, reduceCtorEq, Nat.reduceLeDiff, Int.reduceLT, Int.reduceLE, Int.reduceToNat, Int.reduceEq, Nat.reduceLT, sx4, hcr6, hdr, q10, q11, Option.bind_some, bytesOf_dig, dig_str7, bself, dd, Bool.not_true, undef_eq]
  refine appK_at (same_app ((Ry.Old o6').Old o7') ((h.r.Old o6).Old o7') (by omega) (by omega)) ?_
  simp only [↓eD, eZ, ↓reduceIte, Nat.reduceEqDiff, Nat.reduceAdd, Nat.reduceMul, reduceCtorEq, Nat.reduceLeDiff, Int.reduceLT, Int.reduceLE, Int.reduceToNat, Int.reduceEq, Nat.reduceLT, sameL_self, undef_eq]
  first | exact ⟨o6.trans o7', rfl⟩ | exact o6.trans o7'
end Go.Proofs.YtopnlllipkockaaDoor
