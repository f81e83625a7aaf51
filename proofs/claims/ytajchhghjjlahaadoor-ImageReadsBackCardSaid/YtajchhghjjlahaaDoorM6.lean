/- Walks and plain laws. Conditions: none. -/
import Derived.Test.YtajchhghjjlahaaDoorBodiesL6
set_option linter.all false
set_option maxRecDepth 10000
set_option maxHeartbeats 8000000
namespace Go.Proofs.YtajchhghjjlahaaDoor
open Go Go.Cn Go.RowKit
attribute [local irreducible] evL sem onG onI onV
theorem Okay.fit {I : Img} (O : Okay I) : I.fit := by
 have h1 := O.n1
 have h2 := O.n2
 have h3 := O.p2
 exact ⟨by omega, by omega, fun s hs => by
  obtain ⟨q1, q2, q3⟩ := segs_ok O.s (Int.le_refl 0) s hs
  omega⟩
theorem ImgR.again {σ : H} {l : List Value} {I : Img} {a1 a2 : Option Addr} {b1 b2 : Nat} (h : ImgR σ l I a1 b1 a2 b2) (hf : fewI I = true) :
  decI (encI I) = (if checkI I = 0 then (I, 0) else (zeroI, checkI I)) ∧ (encI I).length < 1000000 := by
 obtain ⟨f, n1, n2, n3⟩ := fewI_fit hf
 exact ⟨decI_encI h.d (fun s hs => ⟨(h.s s hs).1, by have := (h.s s hs).2; omega⟩) h.e h.p (by omega) (by omega), encI_small h.d n1 n2 n3⟩
theorem byt_app9 {a b : List Int} (ha : Byt a) (hb : Byt b) : Byt (a ++ b) := fun x hx => (List.mem_append.1 hx).elim (ha x) (hb x)
theorem byt_flat9 {α : Type} {f : α → List Int} {l : List α} (h : ∀ x ∈ l, Byt (f x)) : Byt (l.flatMap f) := fun x hx => by
 obtain ⟨y, hy, hx⟩ := List.mem_flatMap.1 hx
 exact h y hy x hx
theorem encI_byt {I : Img} : Byt (encI I) := by
 unfold encI
 refine byt_app9 ?_ ?_
 ·unfold intsF; exact byt_app9 intF_byt (byt_flat9 fun x _ => intF_byt)
 ·unfold stringsF; exact byt_app9 intF_byt (byt_flat9 fun x _ => byt_app9 intF_byt strI_byt)
theorem law6 {σ : H} {l : List Value} {I : Img} {a1 a2 : Option Addr} {b1 b2 : Nat} {sl : Value} {b : List Int} (h : ImgR σ l I a1 b1 a2 b2) (hb : Byt b) (hw : Whl σ 1 sl b.length (digC b)) (hH : HGlob σ) :
  App Tryd.prog (.func 6) #[] #[.agg l.toArray, sl] σ fun v σ' => Old σ σ' ∧ v = .bool true := by
 refine App.of_sem mixed Tryd.func6 t6 k6 r6 (Nat.le_of_ble_eq_true rfl) ?_
 have hl := h.c0
 subst hl
 have fin : ∀ M : List Blk, Old σ (ap σ M) := fun M => .ap
 obtain ⟨a, c, rfl⟩ := hw.slice
 rw [← ap_nil (σ := σ)]
 unfold s6
 simp only [↓eD, eZ, ↓reduceIte, Nat.reduceEqDiff, Nat.reduceAdd, Nat.reduceMul, reduceCtorEq, Nat.reduceLeDiff, Int.reduceLT, Int.reduceLE, Int.reduceToNat, Int.reduceEq, Nat.reduceLT, undef_eq]
 refine appK_at (few_app (h.Old (fin _))) ?_
 cases hf : fewI I with
 |false =>
  simp only [↓eD, eZ, ↓reduceIte, Nat.reduceEqDiff, Nat.reduceAdd, Nat.reduceMul, reduceCtorEq, Nat.reduceLeDiff, Int.reduceLT, Int.reduceLE, Int.reduceToNat, Int.reduceEq, Nat.reduceLT, Bool.not_false, undef_eq]
  refine appK_at (sanity_app (hH.Old (fin _))) ?_
  simp only [↓eD, eZ, ↓reduceIte, Nat.reduceEqDiff, Nat.reduceAdd, Nat.reduceMul, reduceCtorEq, Nat.reduceLeDiff, Int.reduceLT, Int.reduceLE, Int.reduceToNat, Int.reduceEq, Nat.reduceLT, undef_eq]
  first | exact ⟨fin _, rfl⟩ | exact fin _
 |true =>
 by_cases h3 : 20000 < b.length
 ·have d3 : decide ((20000 : Int) < (b.length : Int)) = true := by rw [decide_eq_true]; omega
  simp only [↓eD, eZ, ↓reduceIte, Nat.reduceEqDiff, Nat.reduceAdd, Nat.reduceMul, reduceCtorEq, Nat.reduceLeDiff, Int.reduceLT, Int.reduceLE, Int.reduceToNat, Int.reduceEq, Nat.reduceLT, d3, Bool.not_true, undef_eq]
  refine appK_at (sanity_app (hH.Old (fin _))) ?_
  simp only [↓eD, eZ, ↓reduceIte, Nat.reduceEqDiff, Nat.reduceAdd, Nat.reduceMul, reduceCtorEq, Nat.reduceLeDiff, Int.reduceLT, Int.reduceLE, Int.reduceToNat, Int.reduceEq, Nat.reduceLT, undef_eq]
  first | exact ⟨fin _, rfl⟩ | exact fin _
 have d3 : decide ((20000 : Int) < (b.length : Int)) = false := by rw [decide_eq_false]; omega
 simp only [↓eD, eZ, ↓reduceIte, Nat.reduceEqDiff, Nat.reduceAdd, Nat.reduceMul, reduceCtorEq, Nat.reduceLeDiff, Int.reduceLT, Int.reduceLE, Int.reduceToNat, Int.reduceEq, Nat.reduceLT, d3, Bool.not_true, undef_eq]
 obtain ⟨fI, n1, n2, n3⟩ := fewI_fit hf
 obtain ⟨hdc, hlen⟩ := h.again hf
 obtain ⟨σ1, hσ1⟩ : ∃ σ1, σ1 = ap σ [.cells 0 [.int .i64 I.e, .int .i64 I.p, .slice a1 I.S.length b1, .slice a2 I.D.length b2] (0, 0)] := ⟨_, rfl⟩
 rw [← hσ1]
 have o1 : Old σ σ1 := by rw [hσ1]; exact .ap
 have p1 : σ1[σ.size]? = some (.cells 0 [.int .i64 I.e, .int .i64 I.p, .slice a1 I.S.length b1, .slice a2 I.D.length b2] (0, 0)) := by rw [hσ1, ap_new0]; rfl
 have s1 : σ1.size = σ.size + 1 := by rw [hσ1]; simp [ap_size]
 clear hσ1
 have r1 : ∀ τ, Old σ1 τ → rdN τ ⟨σ.size, 0, none⟩ 4 = some [.int .i64 I.e, .int .i64 I.p, .slice a1 I.S.length b1, .slice a2 I.D.length b2] := fun τ ho => rdb_of p1 ho rfl
 refine appK_of (lenc_app (h.Old o1) fI) ?_
 rintro v σ2 ⟨o2, hE⟩
 simp only [↓eD, eZ, ↓reduceIte, Nat.reduceEqDiff, Nat.reduceAdd, Nat.reduceMul, reduceCtorEq, Nat.reduceLeDiff, Int.reduceLT, Int.reduceLE, Int.reduceToNat, Int.reduceEq, Nat.reduceLT, undef_eq]
 refine appK_of (ldecI_app hE.whl encI_byt hlen) ?_
 rintro v σ3 ⟨o3, lx, x1, y1, x2, y2, rfl, Rx⟩
 have lxe := Rx.c0
 subst lxe
 have o13 : Old σ1 σ3 := o2.trans o3
 have r3 := r1 σ3 o13
 rw [← ap_nil (σ := σ3)]
 have r3' : ∀ M, rdN (ap σ3 M) ⟨σ.size, 0, none⟩ 4 = some [.int .i64 I.e, .int .i64 I.p, .slice a1 I.S.length b1, .slice a2 I.D.length b2] := fun M => r1 _ (o13.trans .ap)
 simp only [↓eD, eZ, ↓reduceIte, Nat.reduceEqDiff, Nat.reduceAdd, Nat.reduceMul, reduceCtorEq, Nat.reduceLeDiff, Int.reduceLT, Int.reduceLE, Int.reduceToNat, Int.reduceEq, Nat.reduceLT, r3', undef_eq]
 obtain ⟨σ4, hσ4⟩ : ∃ σ4, σ4 = ap σ3 [.cells 1 [.int .i64 (decI (encI I)).1.e, .int .i64 (decI (encI I)).1.p, .slice x1 (decI (encI I)).1.S.length y1, .slice x2 (decI (encI I)).1.D.length y2] (0, 0)] := ⟨_, rfl⟩
 rw [← hσ4]
 have o4 : Old σ3 σ4 := by rw [hσ4]; exact .ap
 have p4 : σ4[σ3.size]? = some (.cells 1 [.int .i64 (decI (encI I)).1.e, .int .i64 (decI (encI I)).1.p, .slice x1 (decI (encI I)).1.S.length y1, .slice x2 (decI (encI I)).1.D.length y2] (0, 0)) := by rw [hσ4, ap_new0]; rfl
 clear hσ4
 have o14 : Old σ1 σ4 := o13.trans o4
 have o04 : Old σ σ4 := o1.trans o14
 have r4 : rdN σ4 ⟨σ3.size, 0, none⟩ 4 = some _ := rdN_all p4 rfl
 refine appK_at (lcheck_app (h.Old o04)) ?_
 have un : ∀ z : Bool, unop .not (.bool z) = some (.bool !z) := fun _ => rfl
 have d00 : decide ((0 : Int) = 0) = true := rfl
 by_cases hc : checkI I = 0
 case' pos =>
  rw [if_pos hc] at hdc
  rw [hdc] at Rx r4 ⊢
  have dS : decide (bytesS (encI I) = bytesS (encI I)) = true := decide_eq_true rfl
  simp only [↓eD, eZ, ↓reduceIte, Nat.reduceEqDiff, Nat.reduceAdd, Nat.reduceMul, reduceCtorEq, Nat.reduceLeDiff, Int.reduceLT, Int.reduceLE, Int.reduceToNat, Int.reduceEq, Nat.reduceLT, hc, d00, r4, r1 σ4 o14, un, undef_eq]
  refine appK_at (rsame_app (Rx.Old o4) fI (h.Old o04) fI) ?_
  rw [dS]
  simp only [↓eD, eZ, ↓reduceIte, Nat.reduceEqDiff, Nat.reduceAdd, Nat.reduceMul, reduceCtorEq, Nat.reduceLeDiff, Int.reduceLT, Int.reduceLE, Int.reduceToNat, Int.reduceEq, Nat.reduceLT, un, Bool.not_true, undef_eq]
 case' neg =>
  rw [if_neg hc] at hdc
  rw [hdc]
  have d1 : decide (checkI I = checkI I) = true := decide_eq_true rfl
  have d2 : decide (checkI I = 0) = false := decide_eq_false hc
  simp only [↓eD, eZ, ↓reduceIte, Nat.reduceEqDiff, Nat.reduceAdd, Nat.reduceMul, reduceCtorEq, Nat.reduceLeDiff, Int.reduceLT, Int.reduceLE, Int.reduceToNat, Int.reduceEq, Nat.reduceLT, d1, d2, undef_eq]
 all_goals
  refine appK_of (ldecI_app (hw.Old o04) hb (by omega)) ?_
  rintro v σ5 ⟨o5, lz, x3, y3, x4, y4, rfl, Rz⟩
  have lze := Rz.c0
  subst lze
  rw [← ap_nil (σ := σ5)]
  simp only [↓eD, eZ, ↓reduceIte, Nat.reduceEqDiff, Nat.reduceAdd, Nat.reduceMul, reduceCtorEq, Nat.reduceLeDiff, Int.reduceLT, Int.reduceLE, Int.reduceToNat, Int.reduceEq, Nat.reduceLT, undef_eq]
  obtain ⟨σ6, hσ6⟩ : ∃ σ6, σ6 = ap σ5 [.cells 1 [.int .i64 (decI b).1.e, .int .i64 (decI b).1.p, .slice x3 (decI b).1.S.length y3, .slice x4 (decI b).1.D.length y4] (0, 0)] := ⟨_, rfl⟩
  rw [← hσ6]
  have o6 : Old σ5 σ6 := by rw [hσ6]; exact .ap
  have p6 : σ6[σ5.size]? = some (.cells 1 [.int .i64 (decI b).1.e, .int .i64 (decI b).1.p, .slice x3 (decI b).1.S.length y3, .slice x4 (decI b).1.D.length y4] (0, 0)) := by rw [hσ6, ap_new0]; rfl
  clear hσ6
  have o06 : Old σ σ6 := (o04.trans o5).trans o6
  have Ry := Rz.Old o6
  refine appK_at (sanity_app (hH.Old o06)) ?_
  by_cases he : (decI b).2 = 0
 all_goals try
  case neg =>
   have d9 : decide ((decI b).2 = 0) = false := decide_eq_false he
   simp only [↓eD, eZ, ↓reduceIte, Nat.reduceEqDiff, Nat.reduceAdd, Nat.reduceMul, reduceCtorEq, Nat.reduceLeDiff, Int.reduceLT, Int.reduceLE, Int.reduceToNat, Int.reduceEq, Nat.reduceLT, d9, undef_eq]
   first | exact ⟨o06, rfl⟩ | exact o06
 all_goals
  have d9 : decide ((decI b).2 = 0) = true := decide_eq_true he
  obtain ⟨K, hK⟩ : ∃ K, K = (decI b).1 := ⟨_, rfl⟩
  have hdb : decI b = (K, 0) := Prod.ext hK.symm he
  obtain ⟨f1, f2⟩ := enc_decI hb hdb
  rw [← hK] at Ry p6
  have OK := okay_iff.1 f2
  have r6 := rdN_all (n := 4) p6 rfl
  have hb0 : 0 < b.length := by rw [← f1]; exact encI_pos
  obtain ⟨bk, bo, rfl, hbr⟩ := hw.at hb0
  rw [Nat.mul_one] at hbr
  have hbr6 := rdN_Old o06 hbr
  have bself : decide (bytesS b = bytesS b) = true := decide_eq_true rfl
  simp only [↓eD, eZ, ↓reduceIte, Nat.reduceEqDiff, Nat.reduceAdd, Nat.reduceMul, reduceCtorEq, Nat.reduceLeDiff, Int.reduceLT, Int.reduceLE, Int.reduceToNat, Int.reduceEq, Nat.reduceLT, d9, r6, hbr6, Option.bind_some, bytesOf_dig, dig_str7, un, Bool.not_true, undef_eq]
  refine appK_of (lenc_app Ry OK.fit) ?_
  rintro v σ7 ⟨o7, hg⟩
  rw [f1] at hg
  obtain ⟨ea, ec, rfl⟩ := hg.slice
  obtain ⟨k, o, rfl, hr⟩ := grown_str hg hb0
  have hbr7 := rdN_Old o7 hbr6
  have r7 := rdN_Old o7 r6
  simp only [↓eD, eZ, ↓reduceIte, Nat.reduceEqDiff, Nat.reduceAdd, Nat.reduceMul, reduceCtorEq, Nat.reduceLeDiff, Int.reduceLT, Int.reduceLE, Int.reduceToNat, Int.reduceEq, Nat.reduceLT, hr, hbr7, r7, bself, Option.bind_some, bytesOf_dig, dig_str7, un, Bool.not_true, undef_eq]
  refine appK_at (lcheck_app (Ry.Old o7)) ?_
  rw [f2]
  simp only [↓eD, eZ, ↓reduceIte, Nat.reduceEqDiff, Nat.reduceAdd, Nat.reduceMul, reduceCtorEq, Nat.reduceLeDiff, Int.reduceLT, Int.reduceLE, Int.reduceToNat, Int.reduceEq, Nat.reduceLT, d00, undef_eq]
  first | exact ⟨o06.trans o7, rfl⟩ | exact o06.trans o7
end Go.Proofs.YtajchhghjjlahaaDoor
