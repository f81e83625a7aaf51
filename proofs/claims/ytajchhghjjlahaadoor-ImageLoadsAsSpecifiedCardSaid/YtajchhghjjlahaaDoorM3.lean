/- Walks and plain laws. Conditions: none. -/
import Derived.Test.YtajchhghjjlahaaDoorIf
set_option linter.all false
set_option maxRecDepth 10000
set_option maxHeartbeats 8000000
namespace Go.Proofs.YtajchhghjjlahaaDoor
open Go Go.Cn Go.RowKit
attribute [local irreducible] evL sem onG onI onV
theorem Okay.fit {I : Img} (O : Okay I) : I.fit := by
 have h1 := O.n1
 have h2 := O.n2
 have h3 := O.p2
 exact ⟨by omega, by omega, fun s hs => by
  obtain ⟨q1, q2, q3⟩ := segs_ok O.s (Int.le_refl 0) s hs
  omega⟩
theorem cpus_row {σ0 σ : H} {a : Option Addr} {c n : Nat} {e : Int} (h : Grown σ0 σ 30 (.slice a n c) (cpusF e n).flatten n) : Row σ 30 (.slice a n c) (cpusF e n) := by
 have : Grown σ0 σ 30 (.slice a n c) (cpusF e n).flatten (cpusF e n).length := by rw [cpusF_len]; exact h
 exact this.Row cpusF_30
theorem grown_n {σ0 σ : H} {s n : Nat} {v : Value} {cs : List Value} (h : Grown σ0 σ s v cs n) : ∃ a c, v = .slice a n c := by
 obtain ⟨h1, h2, ⟨rfl, rfl⟩ | ⟨b, ver, cap, h3, _, rfl, h4⟩⟩ := h
 ·exact ⟨_, _, rfl⟩
 ·exact ⟨_, _, rfl⟩
theorem law3 {σ : H} {l : List Value} {I : Img} {a1 a2 : Option Addr} {b1 b2 : Nat} {n : Int} (h : ImgR σ l I a1 b1 a2 b2) (hn : -9223372036854775808 ≤ n ∧ n < 9223372036854775808) (hH : HGlob σ) (hG : Glob σ) :
  App Tryd.prog (.func 3) #[] #[.agg l.toArray, .int .i64 n] σ fun v σ' => Old σ σ' ∧ v = .bool true := by
 refine App.of_sem mixed Tryd.func3 t3 k3 r3 (Nat.le_of_ble_eq_true rfl) ?_
 have hl := h.c0
 subst hl
 have fin : ∀ M : List Blk, Old σ (ap σ M) := fun M => .ap
 rw [← ap_nil (σ := σ)]
 unfold s3
 simp only [↓eD, eZ, ↓reduceIte, Nat.reduceEqDiff, Nat.reduceAdd, Nat.reduceMul, reduceCtorEq, Nat.reduceLeDiff, Int.reduceLT, Int.reduceLE, Int.reduceToNat, Int.reduceEq, Nat.reduceLT, undef_eq]
 refine appK_at (few_app (h.Old (fin _))) ?_
 cases hf : fewI I with
 |false =>
  simp only [↓eD, eZ, ↓reduceIte, Nat.reduceEqDiff, Nat.reduceAdd, Nat.reduceMul, reduceCtorEq, Nat.reduceLeDiff, Int.reduceLT, Int.reduceLE, Int.reduceToNat, Int.reduceEq, Nat.reduceLT, Bool.not_false, undef_eq]
  refine appK_at (sanity_app (hH.Old (fin _))) ?_
  simp only [↓eD, eZ, ↓reduceIte, Nat.reduceEqDiff, Nat.reduceAdd, Nat.reduceMul, reduceCtorEq, Nat.reduceLeDiff, Int.reduceLT, Int.reduceLE, Int.reduceToNat, Int.reduceEq, Nat.reduceLT, undef_eq]
  first | exact ⟨fin _, rfl⟩ | exact fin _
 |true =>
 obtain ⟨fI, _, _, _⟩ := fewI_fit hf
 obtain ⟨σ1, hσ1⟩ : ∃ σ1, σ1 = ap σ [.cells 0 [.int .i64 I.e, .int .i64 I.p, .slice a1 I.S.length b1, .slice a2 I.D.length b2] (0, 0)] := ⟨_, rfl⟩
 simp only [↓eD, eZ, ↓reduceIte, Nat.reduceEqDiff, Nat.reduceAdd, Nat.reduceMul, reduceCtorEq, Nat.reduceLeDiff, Int.reduceLT, Int.reduceLE, Int.reduceToNat, Int.reduceEq, Nat.reduceLT, Bool.not_true, undef_eq]
 rw [← hσ1]
 have o1 : Old σ σ1 := by rw [hσ1]; exact .ap
 have p1 : σ1[σ.size]? = some (.cells 0 [.int .i64 I.e, .int .i64 I.p, .slice a1 I.S.length b1, .slice a2 I.D.length b2] (0, 0)) := by rw [hσ1, ap_new0]; rfl
 clear hσ1
 have x1 : ∀ τ, Old σ1 τ → rdN τ ⟨σ.size, 0, none⟩ 4 = some [.int .i64 I.e, .int .i64 I.p, .slice a1 I.S.length b1, .slice a2 I.D.length b2] := fun τ ho => rdb_of p1 ho rfl
 refine appK_of (lload_app (h.Old o1)) ?_
 rintro _ σ2 ⟨o2, m, rfl, hM, hone⟩
 obtain ⟨ma, mc, rfl⟩ := hM.w.slice
 rw [← ap_nil (σ := σ2)]
 simp only [↓eD, eZ, ↓reduceIte, Nat.reduceEqDiff, Nat.reduceAdd, Nat.reduceMul, reduceCtorEq, Nat.reduceLeDiff, Int.reduceLT, Int.reduceLE, Int.reduceToNat, Int.reduceEq, Nat.reduceLT, x1 _ (o2.trans .ap), undef_eq]
 obtain ⟨σ3, hσ3⟩ : ∃ σ3, σ3 = ap σ2 [.cells 1 [.slice ma (loadN I) mc] (0, 0)] := ⟨_, rfl⟩
 rw [← hσ3]
 have o3 : Old σ2 σ3 := by rw [hσ3]; exact .ap
 have x3 : ∀ τ, Old σ3 τ → rdN τ ⟨σ2.size, 0, none⟩ 1 = some [.slice ma (loadN I) mc] := fun τ ho => rdb_of (θ := σ3) (by rw [hσ3, ap_new0]; rfl) ho rfl
 clear hσ3
 have o13 := o2.trans o3
 refine appK_of (lcpus_app (n := n) (h.Old (o1.trans o13))) ?_
 rintro _ σ4 ⟨o4, u, rfl, hU⟩
 obtain ⟨ua, uc, rfl⟩ := grown_n hU
 have o14 := o13.trans o4
 simp only [↓eD, eZ, ↓reduceIte, Nat.reduceEqDiff, Nat.reduceAdd, Nat.reduceMul, reduceCtorEq, Nat.reduceLeDiff, Int.reduceLT, Int.reduceLE, Int.reduceToNat, Int.reduceEq, Nat.reduceLT, x1 _ o14, undef_eq]
 refine appK_of (rload_app (h.Old (o1.trans o14))) ?_
 rintro _ σ5 ⟨o5, m5, rfl, hM5⟩
 obtain ⟨mb, md, rfl⟩ := hM5.w.slice
 have o15 := o14.trans o5
 rw [← ap_nil (σ := σ5)]
 simp only [↓eD, eZ, ↓reduceIte, Nat.reduceEqDiff, Nat.reduceAdd, Nat.reduceMul, reduceCtorEq, Nat.reduceLeDiff, Int.reduceLT, Int.reduceLE, Int.reduceToNat, Int.reduceEq, Nat.reduceLT, x1 _ (o15.trans .ap), undef_eq]
 obtain ⟨σ6, hσ6⟩ : ∃ σ6, σ6 = ap σ5 [.cells 1 [.slice mb (loadN I) md, .int .i64 (checkI I)] (0, 0)] := ⟨_, rfl⟩
 rw [← hσ6]
 have o6 : Old σ5 σ6 := by rw [hσ6]; exact .ap
 have p6 : σ6[σ5.size]? = some (.cells 1 [.slice mb (loadN I) md, .int .i64 (checkI I)] (0, 0)) := by rw [hσ6, ap_new0]; rfl
 clear hσ6
 have o16 := o15.trans o6
 refine appK_of (rcpus_app (n := n) (h.Old (o1.trans o16))) ?_
 rintro _ σ7 ⟨o7, w, rfl, hW⟩
 obtain ⟨wa, wc, rfl⟩ := grown_n hW
 have o17 := o16.trans o7
 rw [← ap_nil (σ := σ7)]
 simp only [↓eD, eZ, ↓reduceIte, Nat.reduceEqDiff, Nat.reduceAdd, Nat.reduceMul, reduceCtorEq, Nat.reduceLeDiff, Int.reduceLT, Int.reduceLE, Int.reduceToNat, Int.reduceEq, Nat.reduceLT, x1 _ (o17.trans .ap), undef_eq]
 obtain ⟨σ8, hσ8⟩ : ∃ σ8, σ8 = ap σ7 [.cells 1 [.slice wa (cpuN I n) wc, .int .i64 (cpuE I n)] (0, 0)] := ⟨_, rfl⟩
 rw [← hσ8]
 have o8 : Old σ7 σ8 := by rw [hσ8]; exact .ap
 have p8 : σ8[σ7.size]? = some (.cells 1 [.slice wa (cpuN I n) wc, .int .i64 (cpuE I n)] (0, 0)) := by rw [hσ8, ap_new0]; rfl
 clear hσ8
 have o18 := o17.trans o8
 have o08 := o1.trans o18
 refine appK_at (lcheck_app (h.Old o08)) ?_
 simp only [↓eD, eZ, ↓reduceIte, Nat.reduceEqDiff, Nat.reduceAdd, Nat.reduceMul, reduceCtorEq, Nat.reduceLeDiff, Int.reduceLT, Int.reduceLE, Int.reduceToNat, Int.reduceEq, Nat.reduceLT, x1 _ o18, undef_eq]
 refine appK_at (rcheck_app (h.Old o08)) ?_
 have dcc : decide (checkI I = checkI I) = true := decide_eq_true rfl
 have dee : decide (cpuE I n = cpuE I n) = true := decide_eq_true rfl
 have o68 := o7.trans o8
 have x61 : rd1 σ8 ⟨σ5.size, 1, none⟩ = some (.int .i64 (checkI I)) := rd1_of p6 o68 rfl
 have x60 : rdN σ8 ⟨σ5.size, 0, none⟩ 1 = some [.slice mb (loadN I) md] := rdp_of (cs := [.slice mb (loadN I) md]) (ds := [.int .i64 (checkI I)]) p6 o68 rfl (by omega)
 have x81 : rd1 σ8 ⟨σ7.size, 1, none⟩ = some (.int .i64 (cpuE I n)) := rd1_of p8 Old.refl rfl
 have x80 : rd1 σ8 ⟨σ7.size, 0, none⟩ = some (.slice wa (cpuN I n) wc) := rd1_of p8 Old.refl rfl
 have o38 : Old σ3 σ8 := (o4.trans o5).trans (o6.trans o68)
 have x38 := x3 _ o38
 simp only [↓eD, eZ, ↓reduceIte, Nat.reduceEqDiff, Nat.reduceAdd, Nat.reduceMul, reduceCtorEq, Nat.reduceLeDiff, Int.reduceLT, Int.reduceLE, Int.reduceToNat, Int.reduceEq, Nat.reduceLT, dcc, dee, x61, x81, x38, x60, undef_eq]
 have nL : loadN I ≤ 1000000 := by
  unfold loadN
  split
  ·rename_i hc
   have := (okay_iff.1 hc).p2
   omega
  ·omega
 have nC : cpuN I n ≤ 1000000 := by
  unfold cpuN
  split
  ·rename_i hc
   unfold cpuE at hc
   split at hc
   ·rename_i h9; exact absurd hc h9
   ·split at hc
    ·cases hc
    ·omega
  ·omega
 refine appK_at (rmsame_app (hM.Old (o3.trans o38)) (hM5.Old (o6.trans o68)) nL) ?_
 simp only [↓eD, eZ, ↓reduceIte, Nat.reduceEqDiff, Nat.reduceAdd, Nat.reduceMul, reduceCtorEq, Nat.reduceLeDiff, Int.reduceLT, Int.reduceLE, Int.reduceToNat, Int.reduceEq, Nat.reduceLT, x80, undef_eq]
 have RU := (cpus_row hU).Old ((o5.trans o6).trans o68)
 have RW := (cpus_row hW).Old o8
 refine appK_at (samecpus_app RU RW nC) ?_
 simp only [↓eD, eZ, ↓reduceIte, Nat.reduceEqDiff, Nat.reduceAdd, Nat.reduceMul, reduceCtorEq, Nat.reduceLeDiff, Int.reduceLT, Int.reduceLE, Int.reduceToNat, Int.reduceEq, Nat.reduceLT, undef_eq]
 refine appK_at (sanity_app (hH.Old o08)) ?_
 simp only [↓eD, eZ, ↓reduceIte, Nat.reduceEqDiff, Nat.reduceAdd, Nat.reduceMul, reduceCtorEq, Nat.reduceLeDiff, Int.reduceLT, Int.reduceLE, Int.reduceToNat, Int.reduceEq, Nat.reduceLT, x1 _ o18, undef_eq]
 refine appK_of (lenc_app (h.Old o08) fI) ?_
 rintro v σ9 ⟨o9, hE⟩
 obtain ⟨ea, ec, rfl⟩ := hE.slice
 obtain ⟨ek, eo, rfl, her⟩ := grown_str hE encI_pos
 have o19 := o18.trans o9
 have o09 := o1.trans o19
 simp only [↓eD, eZ, ↓reduceIte, Nat.reduceEqDiff, Nat.reduceAdd, Nat.reduceMul, reduceCtorEq, Nat.reduceLeDiff, Int.reduceLT, Int.reduceLE, Int.reduceToNat, Int.reduceEq, Nat.reduceLT, her, x1 _ o19, Option.bind_some, bytesOf_dig, dig_str7, undef_eq]
 refine appK_of (renc_app (h.Old o09) fI) ?_
 rintro v σa ⟨oa, hF⟩
 obtain ⟨fa, fc, rfl⟩ := hF.slice
 obtain ⟨fk, fo, rfl, hfr⟩ := grown_str hF encI_pos
 have o1a := o19.trans oa
 have o0a := o1.trans o1a
 have hera := rdN_Old oa her
 have dS : decide (bytesS (encI I) = bytesS (encI I)) = true := decide_eq_true rfl
 simp only [↓eD, eZ, ↓reduceIte, Nat.reduceEqDiff, Nat.reduceAdd, Nat.reduceMul, reduceCtorEq, Nat.reduceLeDiff, Int.reduceLT, Int.reduceLE, Int.reduceToNat, Int.reduceEq, Nat.reduceLT, hera, hfr, dS, x1 _ o1a, Option.bind_some, bytesOf_dig, dig_str7, undef_eq]
 refine appK_at (ldig_app (h.Old o0a) fI (hH.Old o0a)) ?_
 simp only [↓eD, eZ, ↓reduceIte, Nat.reduceEqDiff, Nat.reduceAdd, Nat.reduceMul, reduceCtorEq, Nat.reduceLeDiff, Int.reduceLT, Int.reduceLE, Int.reduceToNat, Int.reduceEq, Nat.reduceLT, x1 _ o1a, undef_eq]
 refine appK_at (rdig_app (h.Old o0a) fI (hG.Old o0a)) ?_
 have D16 : (digI I).length = 16 := ofF_len
 have ae := aggEq_byt D16
 have ld : (digC (digI I)).length = 16 := by rw [digC_length, D16]
 have td : (digC (digI I)).take 16 = digC (digI I) := List.take_of_length_le (by omega)
 simp only [↓eD, eZ, ↓reduceIte, Nat.reduceEqDiff, Nat.reduceAdd, Nat.reduceMul, reduceCtorEq, Nat.reduceLeDiff, Int.reduceLT, Int.reduceLE, Int.reduceToNat, Int.reduceEq, Nat.reduceLT, ae, ld, td, undef_eq]
 first | exact ⟨o0a, rfl⟩ | exact o0a
end Go.Proofs.YtajchhghjjlahaaDoor
