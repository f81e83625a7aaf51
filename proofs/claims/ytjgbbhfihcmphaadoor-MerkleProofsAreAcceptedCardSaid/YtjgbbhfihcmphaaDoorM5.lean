/- Walks and plain laws. Conditions: none. -/
import Derived.Test.YtjgbbhfihcmphaaDoorNk
set_option linter.all false
set_option maxRecDepth 10000
set_option maxHeartbeats 8000000
namespace Go.Proofs.YtjgbbhfihcmphaaDoor
open Go Go.Cn Go.RowKit
attribute [local irreducible] evL sem onG onI onV
theorem law5 {σ : H} {v : Value} {L : List (List Int)} {i m ch : Int} {other : List Int} (hL : Ls σ v L) (hi : 0 ≤ i ∧ i ≤ 255) (hm : 0 ≤ m ∧ m ≤ 255) (hc : 0 ≤ ch ∧ ch ≤ 18446744073709551615) (ho : other.length = 16) (hG : HGlob σ) (hR : Glob σ) (hB : BGlob σ) :
  App Tryd.prog (.func 5) #[] #[v, .int .u8 i, .int .u8 m, .int .u64 ch, .agg (digC other).toArray] σ fun w σ' => Old σ σ' ∧ w = .bool true := by
 refine App.of_sem mixed Tryd.func5 t5 k5 r5 (Nat.le_of_ble_eq_true rfl) ?_
 obtain ⟨a, c, rfl⟩ := hL.slice
 obtain ⟨o1, o2, o3, o4⟩ := dig_len ho
 have san : ∀ {τ : H}, Old σ τ → App Tryd.prog (.func 9) #[] #[] τ fun w σ' => Old σ σ' ∧ w = .bool true := fun o =>
  (sanity_app (hG.Old o) (hR.Old o) (hB.Old o)).mono fun w τ h => ⟨o.trans h.1, h.2⟩
 have san2 : ∀ {τ : H}, Old σ τ → App Tryd.prog (.func 9) #[] #[] τ fun w σ' => Old τ σ' ∧ w = .bool true := fun o =>
  (sanity_app (hG.Old o) (hR.Old o) (hB.Old o)).mono fun w τ h => h
 rw [← ap_nil (σ := σ)]
 unfold s5
 by_cases h1 : L.length = 0
 ·have d1 : decide ((L.length : Int) = 0) = true := by rw [decide_eq_true]; omega
  simp only [↓eD, eZ, ↓reduceIte, Nat.reduceEqDiff, Nat.reduceAdd, Nat.reduceMul, reduceCtorEq, Nat.reduceLeDiff, Int.reduceLT, Int.reduceLE, Int.reduceToNat, Int.reduceEq, Nat.reduceLT, o1, o2, d1, undef_eq]
  refine appK_of (san .ap) ?_
  rintro _ τ' ⟨o, rfl⟩
  simp only [↓eD, eZ, ↓reduceIte, Nat.reduceEqDiff, Nat.reduceAdd, Nat.reduceMul, reduceCtorEq, Nat.reduceLeDiff, Int.reduceLT, Int.reduceLE, Int.reduceToNat, Int.reduceEq, Nat.reduceLT, undef_eq]
  rw [ap_nil]
  exact o
 have d1 : decide ((L.length : Int) = 0) = false := by rw [decide_eq_false]; omega
 by_cases h2 : 40 < L.length
 ·have d2 : decide ((40 : Int) < (L.length : Int)) = true := by rw [decide_eq_true]; omega
  simp only [↓eD, eZ, ↓reduceIte, Nat.reduceEqDiff, Nat.reduceAdd, Nat.reduceMul, reduceCtorEq, Nat.reduceLeDiff, Int.reduceLT, Int.reduceLE, Int.reduceToNat, Int.reduceEq, Nat.reduceLT, o1, o2, d1, d2, undef_eq]
  refine appK_of (san .ap) ?_
  rintro _ τ' ⟨o, rfl⟩
  simp only [↓eD, eZ, ↓reduceIte, Nat.reduceEqDiff, Nat.reduceAdd, Nat.reduceMul, reduceCtorEq, Nat.reduceLeDiff, Int.reduceLT, Int.reduceLE, Int.reduceToNat, Int.reduceEq, Nat.reduceLT, undef_eq]
  rw [ap_nil]
  exact o
 have d2 : decide ((40 : Int) < (L.length : Int)) = false := by rw [decide_eq_false]; omega
 have hbig : L.length < big := Nat.lt_of_le_of_lt (show L.length ≤ 40 by omega) (by decide)
 obtain ⟨i', rfl⟩ : ∃ x : Nat, i = (x : Int) := ⟨i.toNat, by omega⟩
 obtain ⟨m', rfl⟩ : ∃ x : Nat, m = (x : Int) := ⟨m.toNat, by omega⟩
 obtain ⟨C, rfl⟩ : ∃ x : Nat, ch = (x : Int) := ⟨ch.toNat, by omega⟩
 obtain ⟨at_, hat⟩ : ∃ x, x = i' % L.length := ⟨_, rfl⟩
 obtain ⟨fst, hfs⟩ : ∃ x, x = m' % (L.length + 1) := ⟨_, rfl⟩
 have hatl : at_ < L.length := by rw [hat]; exact Nat.mod_lt _ (by omega)
 have hfsl' : fst < L.length + 1 := by rw [hfs]; exact Nat.mod_lt _ (by omega)
 have hfsl : fst ≤ L.length := by clear hat hfs; omega
 have wi : IntKind.wrap .i64 (i' : Int) = (i' : Int) := wrap64' (by omega) (by omega)
 have wm : IntKind.wrap .i64 (m' : Int) = (m' : Int) := wrap64' (by omega) (by omega)
 have wn : IntKind.wrap .i64 ((L.length : Int) + 1) = ((L.length + 1 : Nat) : Int) := by rw [wrap64' (by omega) (by omega)]; omega
 have e0 : ((L.length : Int) = 0) = False := eq_false (by omega)
 have e0' : (((L.length + 1 : Nat) : Int) = 0) = False := eq_false (by omega)
 have t1 : Int.tmod (i' : Int) (L.length : Int) = (at_ : Int) := by rw [hat]; rfl
 have t2 : Int.tmod (m' : Int) ((L.length + 1 : Nat) : Int) = (fst : Int) := by rw [hfs]; rfl
 clear hat hfs
 obtain ⟨v1, s1, L1, _⟩ := hL.sub (lo := 0) (hi := fst) (xl := none) (xh := some (.int .i64 (fst : Int))) (xm := none) (by omega) (by omega) (by omega) (.inr ⟨rfl, rfl⟩) (.inl rfl) (.inl rfl)
 rw [List.drop_zero] at L1
 obtain ⟨ie, ia⟩ := incl_acc hatl (by omega)
 obtain ⟨ce, ca, cb, cc⟩ := cons_acc hfsl (by omega) (by omega) other
 have hQr : ∀ q ∈ chQ C L.length, 0 ≤ q ∧ q < (L.length : Int) := fun q hq => by
  obtain ⟨x, hx, rfl⟩ := List.mem_map.1 hq
  have := chN_lt x hx
  omega
 obtain ⟨me, ma⟩ := many_acc (by omega) (by omega) (chQ_asc (ch := C) (k := L.length)) hQr
 have R16 := rootF_len hL.d
 have O16 := rootF_len (L := L.take fst) (fun d hd => hL.d d (List.mem_of_mem_take hd))
 have hroot : ∀ {τ : H}, Old σ τ → App Tryd.prog (.func 15) #[] #[.slice a L.length c] τ fun w σ' => σ' = τ ∧ w = .agg (digC (rootF L)).toArray := fun h => lroot_app (hL.Old h) (by omega) (hG.Old h)
 have oroot : ∀ {τ : H}, Old σ τ → App Tryd.prog (.func 15) #[] #[v1] τ fun w σ' => σ' = τ ∧ w = .agg (digC (rootF (L.take fst))).toArray := fun h => lroot_app (L1.Old h) (by rw [List.length_take]; omega) (hG.Old h)
 generalize rootF L = R at ia ca cb cc ma R16 hroot
 generalize rootF (L.take fst) = O at ca cb cc O16 oroot
 obtain ⟨r1, r2, r3, r4⟩ := dig_len R16
 obtain ⟨p1, p2, p3, p4⟩ := dig_len O16
 simp only [↓eD, eZ, ↓reduceIte, Nat.reduceEqDiff, Nat.reduceAdd, Nat.reduceMul, reduceCtorEq, Nat.reduceLeDiff, Int.reduceLT, Int.reduceLE, Int.reduceToNat, Int.reduceEq, Nat.reduceLT, o1, o2, d1, d2, wi, wm, wn, e0, e0', t1, t2, undef_eq]
 refine appK_at (hroot .ap) ?_
 simp only [↓eD, eZ, ↓reduceIte, Nat.reduceEqDiff, Nat.reduceAdd, Nat.reduceMul, reduceCtorEq, Nat.reduceLeDiff, Int.reduceLT, Int.reduceLE, Int.reduceToNat, Int.reduceEq, Nat.reduceLT, rep16, r1, r2, r3, r4, s1, digC_one, undef_eq]
 refine appK_at (oroot .ap) ?_
 simp only [↓eD, eZ, ↓reduceIte, Nat.reduceEqDiff, Nat.reduceAdd, Nat.reduceMul, reduceCtorEq, Nat.reduceLeDiff, Int.reduceLT, Int.reduceLE, Int.reduceToNat, Int.reduceEq, Nat.reduceLT, rep16, p1, p2, p3, p4, digC_one, undef_eq]
 refine appK_of (linclusion_app (hL.Old .ap) (by omega) (hG.Old .ap)) ?_
 rintro _ τ1 ⟨g1, x, rfl, hx⟩
 rw [ie]
 have z0 : τ1[σ.size]? = some (.cells 0 (digC other) (0, 0)) := (g1.2 _ (by rw [ap_size]; simp)).trans (by rw [ap_new0]; rfl)
 have z1 : τ1[σ.size + 1]? = some (.cells 1 (digC R) (0, 0)) := (g1.2 _ (by rw [ap_size]; simp)).trans (by rw [ap_new]; rfl)
 have z2 : τ1[σ.size + 2]? = some (.cells 1 (digC O) (0, 0)) := (g1.2 _ (by rw [ap_size]; simp)).trans (by rw [ap_new]; rfl)
 have o1' : Old σ τ1 := Old.ap.trans g1
 simp only [↓eD, eZ, ↓reduceIte, Nat.reduceEqDiff, Nat.reduceAdd, Nat.reduceMul, reduceCtorEq, Nat.reduceLeDiff, Int.reduceLT, Int.reduceLE, Int.reduceToNat, Int.reduceEq, Nat.reduceLT, undef_eq]
 refine appK_of (lconsistency_app (hL.Old o1') (by omega) (hG.Old o1')) ?_
 rintro _ τ2 ⟨g2, y, rfl, hy⟩
 rw [ce]
 have oσ : Old σ τ2 := o1'.trans g2
 have hx2 := hx.Old g2
 have y0 := (g2.2 _ (Array.getElem?_eq_some_iff.1 z0).1).trans z0
 have y1 := (g2.2 _ (Array.getElem?_eq_some_iff.1 z1).1).trans z1
 have y2 := (g2.2 _ (Array.getElem?_eq_some_iff.1 z2).1).trans z2
 clear z0 z1 z2 hx g1 g2 o1'
 obtain ⟨xa, xc, rfl⟩ := hx2.slice
 obtain ⟨ya, yc, rfl⟩ := hy.slice
 simp only [↓eD, eZ, ↓reduceIte, Nat.reduceEqDiff, Nat.reduceAdd, Nat.reduceMul, reduceCtorEq, Nat.reduceLeDiff, Int.reduceLT, Int.reduceLE, Int.reduceToNat, Int.reduceEq, Nat.reduceLT, undef_eq]
 refine loop_for (J := fun k e τ => k ≤ L.length ∧ ∃ pv fv, e = [(0, .slice a L.length c), (3, .int .u64 (C : Int)), (9, .pointer (some ⟨σ.size, 0, none⟩)), (11, .int .i64 (L.length : Int)), (12, .int .i64 (at_ : Int)), (13, .int .i64 (fst : Int)), (14, .pointer (some ⟨σ.size + 1, 0, none⟩)), (15, .pointer (some ⟨σ.size + 2, 0, none⟩)), (16, .slice xa (inclP L at_).length xc), (17, .int .i64 0), (18, .slice ya (consP L fst).length yc), (19, .int .i64 0), (20, pv), (21, fv), (22, .int .i64 (k : Int))] ∧
   Two τ2 τ pv fv (chQ C k) ((chQ C k).map fun q => L.getD q.toNat [])) L.length
  ⟨by omega, .slice none 0 0, .slice none 0 0, rfl, Old.refl, Grown.nil, Grown.nil, fun c h => by cases h⟩ ?_
 rintro k e τ _ ⟨hk, pv, fv, rfl, hT⟩
 have oστ := oσ.trans hT.o
 by_cases hlt : k < L.length
 ·have dl : decide ((k : Int) < (L.length : Int)) = true := by rw [decide_eq_true]; omega
  have hw : IntKind.wrap .i64 ((k:Int) + 1) = ((k + 1 : Nat) : Int) := by rw [wrap64' (by omega) (by omega)]; omega
  have n0 : ((k : Int) < 0) = False := eq_false (by omega)
  have sh : (C : Int).fdiv (2 ^ (min k (IntKind.bits .u64))) = ((C >>> k : Nat) : Int) := shr_nat (by show k ≤ 64; omega)
  have hsh : C >>> k < 18446744073709551616 := by rw [Nat.shiftRight_eq_div_pow]; exact Nat.lt_of_le_of_lt (Nat.div_le_self _ _) (by omega)
  have an : IntKind.wrap .u64 (((BitVec.ofInt IntKind.u64.bits ((C >>> k : Nat) : Int) &&& BitVec.ofInt IntKind.u64.bits 1).toNat : Nat) : Int) = ((C >>> k &&& 1 : Nat) : Int) := and_u64 (b := 1) hsh (by decide)
  have hQl : (chQ C k).length < 1000 := by unfold chQ; rw [List.length_map]; have := chN_len (ch := C) (k := k); omega
  rw [← ap_nil (σ := τ)]
  by_cases hb : C >>> k &&& 1 = 1
  ·have db : decide (((C >>> k &&& 1 : Nat) : Int) = 1) = true := by rw [decide_eq_true]; omega
   have hst : chQ C (k + 1) = chQ C k ++ [(k : Int)] := by unfold chQ; rw [chN_succ, if_pos (by unfold bitB; exact decide_eq_true hb), List.map_append]; rfl
   have hgd : L.getD ((k : Int)).toNat [] = L[k] := by rw [Int.toNat_natCast, List.getD_eq_getElem?_getD, List.getElem?_eq_getElem hlt]; rfl
   have hbd : (0:Int) ≤ (k:Int) ∧ (k:Int) < (L.length : Int) := by omega
   obtain ⟨ab, ao, rfl, hr⟩ := (hL.Old oστ).at hlt
   have D16 := hL.d L[k] (List.getElem_mem _)
   obtain ⟨l1, l2, l3, l4⟩ := dig_len D16
   obtain ⟨w, τ3, ha, hT3⟩ := hT.pushP (x := (k : Int)) hQl
   obtain ⟨w', τ4, ha', hT4⟩ := hT3.pushF (D := L[k]) (by rw [List.length_map]; exact hQl) D16
   have hr3 : ∀ M, rdN (Cn.ap τ3 M) ⟨ab, ao + k * 16, none⟩ 16 = some (digC L[k]) := fun M => rdN_old (by
    obtain ⟨ab', ao', e, h9⟩ := (hL.Old (oσ.trans hT3.o)).at hlt
    injection e with e
    injection e with e1 e2
    subst e1 e2
    exact h9)
   simp only [↓eD, eZ, ↓reduceIte, Nat.reduceEqDiff, Nat.reduceAdd, Nat.reduceMul, reduceCtorEq, Nat.reduceLeDiff, Int.reduceLT, Int.reduceLE, Int.reduceToNat, Int.reduceEq, Nat.reduceLT, dl, n0, Int.toNat_natCast, sh, an, db, undef_eq]
   refine onV_of ha ?_
   rw [← ap_nil (σ := τ3)]
   simp only [↓eD, eZ, ↓reduceIte, Nat.reduceEqDiff, Nat.reduceAdd, Nat.reduceMul, reduceCtorEq, Nat.reduceLeDiff, Int.reduceLT, Int.reduceLE, Int.reduceToNat, Int.reduceEq, Nat.reduceLT, hbd, Int.toNat_natCast, hr3, rep16, l1, l2, l3, l4, digC_one, undef_eq]
   refine onV_of ha' ?_
   simp only [↓eD, eZ, ↓reduceIte, Nat.reduceEqDiff, Nat.reduceAdd, Nat.reduceMul, reduceCtorEq, Nat.reduceLeDiff, Int.reduceLT, Int.reduceLE, Int.reduceToNat, Int.reduceEq, Nat.reduceLT, hw, undef_eq]
   refine ⟨hlt, by omega, w, w', rfl, ?_⟩
   rw [hst, List.map_append, List.map_cons, List.map_nil, hgd]
   exact hT4
  ·have db : decide (((C >>> k &&& 1 : Nat) : Int) = 1) = false := by rw [decide_eq_false]; omega
   have hst : chQ C (k + 1) = chQ C k := by unfold chQ; rw [chN_succ, if_neg (by unfold bitB; rw [decide_eq_true_eq]; exact hb)]
   simp only [↓eD, eZ, ↓reduceIte, Nat.reduceEqDiff, Nat.reduceAdd, Nat.reduceMul, reduceCtorEq, Nat.reduceLeDiff, Int.reduceLT, Int.reduceLE, Int.reduceToNat, Int.reduceEq, Nat.reduceLT, dl, n0, Int.toNat_natCast, sh, an, db, hw, undef_eq]
   refine ⟨hlt, by omega, pv, fv, rfl, ?_⟩
   rw [hst, ap_nil]
   exact hT
 have dl : decide ((k : Int) < (L.length : Int)) = false := by rw [decide_eq_false]; omega
 have : k = L.length := by omega
 subst this
 simp only [↓eD, eZ, ↓reduceIte, Nat.reduceEqDiff, Nat.reduceAdd, Nat.reduceMul, reduceCtorEq, Nat.reduceLeDiff, Int.reduceLT, Int.reduceLE, Int.reduceToNat, Int.reduceEq, Nat.reduceLT, dl, undef_eq]
 have hQl : (chQ C L.length).length ≤ 40 := by unfold chQ; rw [List.length_map]; have := chN_len (ch := C) (k := L.length); omega
 refine appK_of (lmany_app (hL.Old oστ) hT.ps (by omega) (by omega) (hG.Old oστ)) ?_
 rintro _ η ⟨g3, u, rfl, hu⟩
 rw [me]
 have hF16 : ∀ d ∈ (chQ C L.length).map fun q => L.getD q.toNat [], d.length = 16 := fun d hd => by
  obtain ⟨q, hq, rfl⟩ := List.mem_map.1 hd
  have hq2 := hQr q hq
  have hlt : q.toNat < L.length := by omega
  rw [List.getD_eq_getElem?_getD, List.getElem?_eq_getElem hlt]
  exact hL.d _ (List.getElem_mem _)
 have oη : Old τ2 η := hT.o.trans g3
 have oση := oσ.trans oη
 have psη := hT.ps.Old g3
 have lsη := (hT.ls hF16).Old g3
 have hxη := hx2.Old oη
 have hyη := hy.Old oη
 have y0η := (oη.2 _ (Array.getElem?_eq_some_iff.1 y0).1).trans y0
 have y1η := (oη.2 _ (Array.getElem?_eq_some_iff.1 y1).1).trans y1
 have y2η := (oη.2 _ (Array.getElem?_eq_some_iff.1 y2).1).trans y2
 have f9 := rdN_all (n := 16) y0η o1
 have f14 := rdN_all (n := 16) y1η r1
 have f15 := rdN_all (n := 16) y2η p1
 obtain ⟨pa, pc, rfl⟩ := psη.slice
 obtain ⟨fa, fc, rfl⟩ := lsη.slice
 obtain ⟨ua, uc, rfl⟩ := hu.slice
 have hbd : (0:Int) ≤ (at_:Int) ∧ (at_:Int) < (L.length : Int) := by omega
 have A16 := hL.d L[at_] (List.getElem_mem _)
 obtain ⟨ab, ao, rfl, hr⟩ := (hL.Old oση).at hatl
 have hin : (inclP L at_).length ≤ 1000 := by
  unfold inclP
  split
  ·simp
  ·have := inclF_len (L := L) (i := ((at_ : Int)).toNat) (Nat.le_refl _); omega
 have hco : (consP L fst).length ≤ 1000 := by
  unfold consP
  split
  ·simp
  ·split
   ·simp
   ·have := consF_len (L := L) (m := ((fst : Int)).toNat) (mark := true) (Nat.le_refl _); omega
 have hmn : (manyP L (chQ C L.length)).length ≤ 1000 := by
  have := manyF_len (L := L) (fr := 0) (P := chQ C L.length) (Nat.le_refl _) (by omega)
  unfold manyP
  rw [if_neg h1]
  split
  ·omega
  ·simp
 have aR := aggEq_dig (a := other) (b := R) ho R16
 have aO := aggEq_dig (a := other) (b := O) ho O16
 generalize L[at_] = A at hr A16 ia
 simp only [↓eD, eZ, ↓reduceIte, Nat.reduceEqDiff, Nat.reduceAdd, Nat.reduceMul, reduceCtorEq, Nat.reduceLeDiff, Int.reduceLT, Int.reduceLE, Int.reduceToNat, Int.reduceEq, Nat.reduceLT, hbd, Int.toNat_natCast, hr, f14, undef_eq]
 refine appK_at (chki_app A16 R16 hxη hin (hG.Old oση)) ?_
 rw [ia]
 simp only [↓eD, eZ, ↓reduceIte, Nat.reduceEqDiff, Nat.reduceAdd, Nat.reduceMul, reduceCtorEq, Nat.reduceLeDiff, Int.reduceLT, Int.reduceLE, Int.reduceToNat, Int.reduceEq, Nat.reduceLT, f14, f15, Bool.not_true, undef_eq]
 refine appK_at (chkc_app O16 R16 hyη hco (hG.Old oση)) ?_
 rw [ca]
 simp only [↓eD, eZ, ↓reduceIte, Nat.reduceEqDiff, Nat.reduceAdd, Nat.reduceMul, reduceCtorEq, Nat.reduceLeDiff, Int.reduceLT, Int.reduceLE, Int.reduceToNat, Int.reduceEq, Nat.reduceLT, f14, f15, Bool.not_true, undef_eq]
 refine appK_at (chkm_app R16 psη lsη hu (by omega) hmn (by rw [List.length_map]; omega) (hG.Old oση)) ?_
 rw [ma]
 simp only [↓eD, eZ, ↓reduceIte, Nat.reduceEqDiff, Nat.reduceAdd, Nat.reduceMul, reduceCtorEq, Nat.reduceLeDiff, Int.reduceLT, Int.reduceLE, Int.reduceToNat, Int.reduceEq, Nat.reduceLT, Bool.not_true, undef_eq]
 refine loop_for (J := fun j e τ' => j ≤ 7 ∧ e = [(9, .pointer (some ⟨σ.size, 0, none⟩)), (11, .int .i64 (L.length : Int)), (13, .int .i64 (fst : Int)), (14, .pointer (some ⟨σ.size + 1, 0, none⟩)), (15, .pointer (some ⟨σ.size + 2, 0, none⟩)), (18, .slice ya (consP L fst).length yc), (25, .int .i64 ((2 ^ j : Nat) : Int))] ∧ η = τ' ∧ (j = 0 ∨ 2 ^ (j - 1) < fst)) 7
  ⟨by omega, rfl, rfl, .inl rfl⟩ ?_
 rintro j e _ _ ⟨hj, rfl, rfl, hjf⟩
 by_cases hpl : 2 ^ j < fst
 ·have dp : decide (((2 ^ j : Nat) : Int) < (fst : Int)) = true := by rw [decide_eq_true]; omega
  have hj7 : j < 7 := by
   apply Nat.lt_of_not_le
   intro h9
   have h8 := Nat.pow_le_pow_right (n := 2) (by omega) h9
   omega
  have key : ∀ pw : Nat, pw < fst → IntKind.wrap .i64 (2 * (pw : Int)) = ((pw * 2 : Nat) : Int) := fun pw h => by rw [wrap64' (by omega) (by omega)]; omega
  have hpw : IntKind.wrap .i64 (2 * ((2 ^ j : Nat) : Int)) = ((2 ^ (j + 1) : Nat) : Int) := by rw [Nat.pow_succ]; exact key _ hpl
  simp only [↓eD, eZ, ↓reduceIte, Nat.reduceEqDiff, Nat.reduceAdd, Nat.reduceMul, reduceCtorEq, Nat.reduceLeDiff, Int.reduceLT, Int.reduceLE, Int.reduceToNat, Int.reduceEq, Nat.reduceLT, dp, hpw, undef_eq]
  exact ⟨hj7, by omega, .inr (by simpa using hpl)⟩
 have dp : decide (((2 ^ j : Nat) : Int) < (fst : Int)) = false := by rw [decide_eq_false]; omega
 have hpow : 2 ^ j ≠ fst → fst = 0 ∨ ∀ a, fst ≠ 2 ^ a := fun hne => by
  rcases Nat.eq_zero_or_pos fst with h | h
  ·exact .inl h
  ·refine .inr fun a ha => hne ?_
   rcases hjf with rfl | hjf
   ·have : 0 < 2 ^ a := Nat.pow_pos (by omega)
    rw [Nat.pow_zero] at hpl ⊢
    omega
   ·have h1 : j - 1 < a := by
     apply Nat.lt_of_not_le
     intro h9
     have := Nat.pow_le_pow_right (n := 2) (by omega) h9
     omega
    have h2 := Nat.pow_le_pow_right (n := 2) (by omega) (show j ≤ a by omega)
    omega
 generalize 2 ^ j = pw at hpl dp hpow
 have hend : (fst = 0 ∨ decide ((fst : Int) = 0) = false) := by
  rcases Nat.eq_zero_or_pos fst with h | h
  ·exact .inl h
  ·exact .inr (by rw [decide_eq_false]; omega)
 rcases Classical.em (pw ≠ fst ∨ fst = L.length) with hcond | hcond
 case' inl =>
  have hcb := cb (by
   rcases hcond with h | h
   ·rcases hpow h with h | h
    ·exact .inl h
    ·exact .inr (.inr h)
   ·exact .inr (.inl h))
  by_cases h9 : pw = fst
  case' neg =>
   have dq : decide ((pw : Int) = (fst : Int)) = false := by rw [decide_eq_false]; omega
   simp only [↓eD, eZ, ↓reduceIte, Nat.reduceEqDiff, Nat.reduceAdd, Nat.reduceMul, reduceCtorEq, Nat.reduceLeDiff, Int.reduceLT, Int.reduceLE, Int.reduceToNat, Int.reduceEq, Nat.reduceLT, dp, dq, f9, f14, f15, aO, Bool.not_false, undef_eq]
  case' pos =>
   have dq : decide ((pw : Int) = (fst : Int)) = true := by rw [decide_eq_true]; omega
   have dl : decide ((fst : Int) = (L.length : Int)) = true := by rw [decide_eq_true]; omega
   simp only [↓eD, eZ, ↓reduceIte, Nat.reduceEqDiff, Nat.reduceAdd, Nat.reduceMul, reduceCtorEq, Nat.reduceLeDiff, Int.reduceLT, Int.reduceLE, Int.reduceToNat, Int.reduceEq, Nat.reduceLT, dp, dq, dl, f9, f14, f15, aO, Bool.not_true, undef_eq]
  all_goals
   refine appK_at (chkc_app ho R16 hyη hco (hG.Old oση)) ?_
   rw [hcb]
   simp only [↓eD, eZ, ↓reduceIte, Nat.reduceEqDiff, Nat.reduceAdd, Nat.reduceMul, reduceCtorEq, Nat.reduceLeDiff, Int.reduceLT, Int.reduceLE, Int.reduceToNat, Int.reduceEq, Nat.reduceLT, f9, f14, f15, aO, undef_eq]
 case' inr =>
  have dq : decide ((pw : Int) = (fst : Int)) = true := by rw [decide_eq_true]; omega
  have dl : decide ((fst : Int) = (L.length : Int)) = false := by rw [decide_eq_false]; omega
  simp only [↓eD, eZ, ↓reduceIte, Nat.reduceEqDiff, Nat.reduceAdd, Nat.reduceMul, reduceCtorEq, Nat.reduceLeDiff, Int.reduceLT, Int.reduceLE, Int.reduceToNat, Int.reduceEq, Nat.reduceLT, dp, dq, dl, Bool.not_true, undef_eq]
 all_goals
  refine appK_of (san2 oση) ?_
  rintro _ ξ ⟨oξ, rfl⟩
  have oσξ := oση.trans oξ
  by_cases hz : fst = 0
  ·have dz : decide ((fst : Int) = 0) = true := by rw [decide_eq_true]; omega
   simp only [↓eD, eZ, ↓reduceIte, Nat.reduceEqDiff, Nat.reduceAdd, Nat.reduceMul, reduceCtorEq, Nat.reduceLeDiff, Int.reduceLT, Int.reduceLE, Int.reduceToNat, Int.reduceEq, Nat.reduceLT, dz, undef_eq]
   rw [ap_nil]
   exact oσξ
  have dz : decide ((fst : Int) = 0) = false := by rw [decide_eq_false]; omega
  have hcc := cc hz
  have f9ξ := rdN_all (n := 16) ((oξ.2 _ (Array.getElem?_eq_some_iff.1 y0η).1).trans y0η) o1
  have f14ξ := rdN_all (n := 16) ((oξ.2 _ (Array.getElem?_eq_some_iff.1 y1η).1).trans y1η) r1
  have f15ξ := rdN_all (n := 16) ((oξ.2 _ (Array.getElem?_eq_some_iff.1 y2η).1).trans y2η) p1
  simp only [↓eD, eZ, ↓reduceIte, Nat.reduceEqDiff, Nat.reduceAdd, Nat.reduceMul, reduceCtorEq, Nat.reduceLeDiff, Int.reduceLT, Int.reduceLE, Int.reduceToNat, Int.reduceEq, Nat.reduceLT, dz, f9ξ, f14ξ, f15ξ, aR, undef_eq]
  refine appK_at (chkc_app O16 ho (hyη.Old oξ) hco (hG.Old oσξ)) ?_
  rw [hcc]
  simp only [↓eD, eZ, ↓reduceIte, Nat.reduceEqDiff, Nat.reduceAdd, Nat.reduceMul, reduceCtorEq, Nat.reduceLeDiff, Int.reduceLT, Int.reduceLE, Int.reduceToNat, Int.reduceEq, Nat.reduceLT, f9ξ, f14ξ, aR, undef_eq]
  rw [ap_nil]
  first | exact ⟨oσξ, by simp⟩ | exact oσξ
end Go.Proofs.YtjgbbhfihcmphaaDoor
