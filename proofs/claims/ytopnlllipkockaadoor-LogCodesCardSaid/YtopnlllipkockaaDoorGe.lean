/- Walks of the functions that the claim reaches. Conditions: none. -/
import Derived.Test.YtopnlllipkockaaDoorGd
set_option linter.all false
set_option maxRecDepth 100000
set_option maxHeartbeats 2000000
namespace Go.Proofs.YtopnlllipkockaaDoor
open Go Go.Cn Go.RowKit
def sD : List Int := [5, 0, 0, 0, 0, 0, 0, 0, 0, 0, 0, 0, 0, 0, 0, 0]
def sE1 : Ent := ⟨1, 0, 0, 10, ⟨#[]⟩⟩
def sE2 : Ent := ⟨3, 0, 10, 0, ⟨#[97]⟩⟩
def sE3 : Ent := ⟨2, 1, 0, 7, ⟨#[]⟩⟩
def sX1 : Ent := ⟨3, 0, 9, 0, ⟨#[98]⟩⟩
def sX2 : Ent := ⟨3, 0, 10, 0, ⟨#[]⟩⟩
def sX3 : Ent := ⟨1, 1, 0, 0, ⟨#[]⟩⟩
def sE2' : Ent := ⟨3, 0, 10, 0, ⟨#[99]⟩⟩
def sKey : ByteArray := ⟨#[107, 101, 121]⟩
def sOther : ByteArray := ⟨#[111, 116, 104, 101, 114]⟩
def sL0 : Lg := ⟨sD, 2, [], []⟩
def sL1 : Lg := ⟨sD, 2, [sE1], []⟩
def sL2 : Lg := ⟨sD, 2, [sE1, sE2], []⟩
def sL3 : Lg := ⟨sD, 2, [sE1, sE2, sE3], []⟩
def sS : Lg := ⟨sD, 2, [sE1, sE2, sE3], [newSeal sL3 sKey]⟩
def sT : Lg := ⟨sD, 2, [sE1, sE2', sE3], [newSeal sL3 sKey]⟩
theorem s_f1 : appF sL0 sE1 = (sL1, 0) := by kernel_rfl
theorem s_f2 : appF sL1 sE2 = (sL2, 0) := by kernel_rfl
theorem s_f3 : appF sL2 sE3 = (sL3, 0) := by kernel_rfl
theorem s_g1 : appF sL3 sX1 = (sL3, 3) := by kernel_rfl
theorem s_g2 : appF sL3 sX2 = (sL3, 3) := by kernel_rfl
theorem s_g3 : appF sL3 sX3 = (sL3, 3) := by kernel_rfl
theorem s_good0 : Good sL0 := ⟨by decide, by decide, by decide, by decide, fun k hk => absurd hk (Nat.not_lt_zero _), rfl, rfl⟩
theorem s_good1 : Good sL1 := by
 have h1 := good_app (e := sE1) s_good0
 rwa [s_f1] at h1
theorem s_good2 : Good sL2 := by
 have h1 := good_app (e := sE2) s_good1
 rwa [s_f2] at h1
theorem s_good3 : Good sL3 := by
 have h1 := good_app (e := sE3) s_good2
 rwa [s_f3] at h1
theorem s_seal : sealS sL3 sKey = (sS, 0) := by
 unfold sealS
 rw [if_neg (by decide), if_neg (by decide)]
 rfl
theorem s_endS : endF sS.S = 3 := rfl
theorem s_seal2 : sealS sS sKey = (.zero, 4) := by
 unfold sealS
 rw [if_pos (by rw [s_endS]; rfl)]
theorem s_goodS : Good sS := good_seal (key := sKey) s_good3 (by decide) (by decide)
theorem s_sealed : lsealedF sS sKey = (3, 0) := by
 unfold lsealedF
 have h : keyOk sKey sS.S = true := keyOk_new (L := sL3) (key := sKey) rfl
 rw [if_pos h, s_endS]
def sDig0 : List Int := [129, 28, 54, 194, 171, 0, 11, 149, 32, 235, 255, 105, 83, 148, 162, 251]
def sDig1 : List Int := [204, 138, 36, 126, 201, 61, 9, 151, 253, 136, 28, 173, 216, 74, 61, 221]
def sDig2 : List Int := [25, 129, 146, 4, 220, 38, 152, 197, 148, 167, 67, 65, 52, 86, 84, 94]
def sDig2' : List Int := [198, 203, 119, 226, 210, 52, 62, 60, 31, 125, 131, 126, 201, 4, 221, 178]
def sDig3 : List Int := [92, 240, 22, 181, 96, 163, 246, 22, 46, 5, 7, 82, 180, 249, 128, 118]
def sDig3' : List Int := [53, 182, 248, 23, 163, 110, 235, 192, 208, 156, 255, 189, 101, 130, 168, 237]
theorem s_d0 : beginF sD 2 = sDig0 := by kernel_rfl
theorem s_d1 : nextF sDig0 sE1 = sDig1 := by kernel_rfl
theorem s_d2 : nextF sDig1 sE2 = sDig2 := by kernel_rfl
theorem s_d2' : nextF sDig1 sE2' = sDig2' := by kernel_rfl
theorem s_d3 : nextF sDig2 sE3 = sDig3 := by kernel_rfl
theorem s_d3' : nextF sDig2' sE3 = sDig3' := by kernel_rfl
theorem s_c3 : chainF sD 2 [sE1, sE2, sE3] 3 = sDig3 := by
 show nextF (nextF (nextF (beginF sD 2) sE1) sE2) sE3 = _
 rw [s_d0, s_d1, s_d2, s_d3]
theorem s_c3' : chainF sD 2 [sE1, sE2', sE3] 3 = sDig3' := by
 show nextF (nextF (nextF (beginF sD 2) sE1) sE2') sE3 = _
 rw [s_d0, s_d1, s_d2', s_d3']
theorem s_k1 : sealF sKey sDig3 3 = [16, 96, 205, 171, 239, 32, 247, 1, 25, 102, 246, 115, 209, 5, 96, 166] := by kernel_rfl
theorem s_k2 : sealF sOther sDig3 3 = [74, 199, 87, 226, 95, 30, 163, 104, 91, 159, 122, 126, 164, 61, 84, 3] := by kernel_rfl
theorem s_new : newSeal sL3 sKey = ⟨3, sDig3, sealF sKey sDig3 3⟩ := by
 unfold newSeal
 show (⟨3, chainF sD 2 [sE1, sE2, sE3] 3, sealF sKey (chainF sD 2 [sE1, sE2, sE3] 3) 3⟩ : Sea) = _
 rw [s_c3]
theorem s_other : lsealedF sS sOther = (0, 8) := by
 unfold lsealedF
 rw [if_neg]
 show ¬keyOk sOther [newSeal sL3 sKey] = true
 rw [s_new, keyOk, if_neg]
 ·decide
 ·show ¬sealF sKey sDig3 3 = sealF sOther sDig3 3
  rw [s_k1, s_k2]
  decide
def sC : Lg := ⟨sD, 2, [sE1, sE2], []⟩
theorem s_cut : lcutF sS 2 = (sC, 0) := by
 unfold lcutF
 rw [if_neg (by decide)]
 have : cutK 2 sS.S = 0 := by
  show cutK 2 [newSeal sL3 sKey] = 0
  rw [s_new]
  rfl
 rw [this]
 rfl
theorem s_fol1 : folF sC sS = true := by unfold folF; rw [decide_eq_true]; exact ⟨rfl, rfl, rfl⟩
theorem s_fol2 : folF sS sC = false := by
 unfold folF
 rw [decide_eq_false]
 rintro ⟨_, _, h⟩
 have := congrArg List.length h
 exact absurd this (by decide)
theorem s_chk : checkF sS = 0 := good_iff.2 s_goodS
theorem s_chkT : checkF sT = 290 := by
 unfold checkF
 rw [if_neg (by decide), if_neg (by decide), if_neg, if_neg, if_pos]
 ·show chkD sT [newSeal sL3 sKey] = false
  rw [s_new, chkD, if_neg]
  show ¬sDig3 = chainF sD 2 [sE1, sE2', sE3] 3
  rw [s_c3']
  decide
 ·have : chkS 3 sS.S 0 = true := s_goodS.s
  show ¬chkS 3 sS.S 0 = false
  rw [this]; decide
 ·have : chkE sT sT.E.length 0 = true := by
   show chkE ⟨sD, 2, [sE1, sE2', sE3], [newSeal sL3 sKey]⟩ 3 0 = true
   generalize newSeal sL3 sKey = s
   kernel_rfl
  rw [this]; decide
set_option maxRecDepth 10000
set_option maxHeartbeats 4000000
attribute [local irreducible] evL sem onG onI onV
structure SR (σ τ : H) (b : Nat) (l : List Value) (L : Lg) (a1 : Option Addr) (b1 : Nat) (a2 : Option Addr) (b2 : Nat) : Prop where
 old : Old σ τ
 box : ∃ ver, τ[b]? = some (.cells ver l (0, 0))
 v : LgV τ l L a1 b1 a2 b2
structure SB (σ τ : H) (b : Nat) (l : List Value) (L : Lg) (a1 : Option Addr) (b1 : Nat) (a2 : Option Addr) (b2 : Nat) : Prop extends SR σ τ b l L a1 b1 a2 b2 where
 hb : σ.size ≤ b
 w1 : Away b a1
 w2 : Away b a2
 u1 : Below τ.size a1
 u2 : Below τ.size a2
section
variable {σ τ τ' : H} {b : Nat} {l l' : List Value} {L L' : Lg} {a1 a2 a1' a2' : Option Addr} {b1 b2 b1' b2' : Nat}
theorem LgV.len (h : LgV τ l L a1 b1 a2 b2) : l.length = 19 := by rw [h.l]; exact rec_len h.fit.d
theorem LgV.one (h : LgV τ l L a1 b1 a2 b2) : l.all Value.oneCell' = true := by rw [h.l]; exact rec_one
theorem LgV.ne (h : LgV τ l L a1 b1 a2 b2) : (l = []) = False := eq_false fun hh => by have := h.len; rw [hh] at this; cases this
theorem LgV.c16 (h : LgV τ l L a1 b1 a2 b2) : l[16]? = some (.int .i64 L.c) := by rw [h.l]; exact rec16 h.fit.d
theorem LgV.c17 (h : LgV τ l L a1 b1 a2 b2) : l[17]? = some (.slice a1 L.E.length b1) := by rw [h.l]; exact rec17 h.fit.d
theorem LgV.c18 (h : LgV τ l L a1 b1 a2 b2) : l[18]? = some (.slice a2 L.S.length b2) := by rw [h.l]; exact rec18 h.fit.d
theorem LgV.take (h : LgV τ l L a1 b1 a2 b2) : l.take 19 = l := List.take_of_length_le (by rw [h.len]; omega)
theorem LgV.sets (h : LgV τ l L a1 b1 a2 b2) : ∀ z : List Value, z.length = 19 → sets z 0 l = l := fun z hz => by rw [h.l]; exact rec_sets h.fit.d hz
theorem LgR.len (h : LgR τ l L a1 b1 a2 b2) : l.length = 19 := by rw [h.l]; exact rec_len h.d
theorem LgR.one (h : LgR τ l L a1 b1 a2 b2) : l.all Value.oneCell' = true := by rw [h.l]; exact rec_one
theorem LgR.ne (h : LgR τ l L a1 b1 a2 b2) : (l = []) = False := eq_false fun hh => by have := h.len; rw [hh] at this; cases this
theorem LgR.take (h : LgR τ l L a1 b1 a2 b2) : l.take 19 = l := List.take_of_length_le (by rw [h.len]; omega)
theorem LgR.sets (h : LgR τ l L a1 b1 a2 b2) : ∀ z : List Value, z.length = 19 → sets z 0 l = l := fun z hz => by rw [h.l]; exact rec_sets h.d hz
theorem LgV.away {k : Blk} (h : LgV τ l L a1 b1 a2 b2) (h1 : Away b a1) (h2 : Away b a2) : LgV (τ.setIfInBounds b k) l L a1 b1 a2 b2 :=
 ⟨h.l, Row.away h.E h1, Row.away h.S h2, h.cE, h.cS, h.fit, h.ok, h.nS⟩
theorem SR.lt (h : SR σ τ b l L a1 b1 a2 b2) : b < τ.size := by obtain ⟨ver, h⟩ := h.box; exact (Array.getElem?_eq_some_iff.1 h).1
theorem SR.rd (h : SR σ τ b l L a1 b1 a2 b2) : rdN τ ⟨b, 0, none⟩ 19 = some l := by obtain ⟨ver, hb⟩ := h.box; exact rdN_all hb h.v.len
theorem SR.rd17 (h : SR σ τ b l L a1 b1 a2 b2) : rd1 τ ⟨b, 17, none⟩ = some (.slice a1 L.E.length b1) := by obtain ⟨ver, hb⟩ := h.box; rw [rd1_eq, hb]; exact h.v.c17
theorem SR.rd18 (h : SR σ τ b l L a1 b1 a2 b2) : rd1 τ ⟨b, 18, none⟩ = some (.slice a2 L.S.length b2) := by obtain ⟨ver, hb⟩ := h.box; rw [rd1_eq, hb]; exact h.v.c18
theorem SR.Old' (h : SR σ τ b l L a1 b1 a2 b2) (ho : Old τ τ') : SR σ τ' b l L a1 b1 a2 b2 :=
 ⟨h.old.trans ho, let ⟨ver, hv⟩ := h.box; ⟨ver, (ho.2 _ h.lt).trans hv⟩, h.v.Old ho⟩
theorem SB.Old' (h : SB σ τ b l L a1 b1 a2 b2) (ho : Old τ τ') : SB σ τ' b l L a1 b1 a2 b2 := ⟨h.toSR.Old' ho, h.hb, h.w1, h.w2, h.u1.mono ho.1, h.u2.mono ho.1⟩
theorem SR.new (ho : Old σ τ) (hv : LgV τ l L a1 b1 a2 b2) {ver : Nat} (hb : τ'[τ.size]? = some (.cells ver l (0, 0))) (ho' : Old τ τ') : SR σ τ' τ.size l L a1 b1 a2 b2 :=
 ⟨ho.trans ho', ⟨ver, hb⟩, hv.Old ho'⟩
theorem SB.new (ho : Old σ τ) (hv : LgV τ l L a1 b1 a2 b2) (h1 : Below τ.size a1) (h2 : Below τ.size a2) {ver : Nat} (hb : τ'[τ.size]? = some (.cells ver l (0, 0))) (ho' : Old τ τ') : SB σ τ' τ.size l L a1 b1 a2 b2 :=
 ⟨SR.new ho hv hb ho', ho.1, h1.away (Nat.le_refl _), h2.away (Nat.le_refl _), h1.mono ho'.1, h2.mono ho'.1⟩
theorem SB.next (h : SB σ τ b l L a1 b1 a2 b2) (ho : Old τ τ') (hv : LgV τ' l' L' a1' b1' a2' b2') (h1 : Fr τ.size τ'.size a1 a1') (h2 : Fr τ.size τ'.size a2 a2') :
  ∃ τ'', wrN τ' ⟨b, 0, none⟩ l' = some τ'' ∧ SB σ τ'' b l' L' a1' b1' a2' b2' ∧ τ'.size = τ''.size ∧ ∀ c, c ≠ b → τ''[c]? = τ'[c]? := by
 obtain ⟨ver, hb⟩ := h.box
 have hb' := (ho.2 _ h.lt).trans hb
 have w1 := h.w1.fr h1 h.lt
 have w2 := h.w2.fr h2 h.lt
 refine ⟨τ'.setIfInBounds b (.cells (ver + 1) l' (0, 0)), ?_, ⟨⟨(h.old.trans ho).set h.hb, ⟨ver + 1, get_set hb'⟩, hv.away w1 w2⟩, h.hb, w1, w2, (h.u1.fr h1 ho.1).mono (by simp), (h.u2.fr h2 ho.1).mono (by simp)⟩, by simp, fun c hc => get_set_ne (Ne.symm hc)⟩
 rw [wrN_eq, if_neg (by rw [hv.ne]; exact id), hb', wrc_cells, if_pos ⟨by rw [hv.len, h.v.len]; show 0 + 19 ≤ 19; omega, hv.one⟩]
 rw [show sets l (⟨b, 0, none⟩ : Addr).off l' = l' from hv.sets _ h.v.len]
 rfl
end
theorem new_v {θ : H} {d : List Int} {c : Int} (hd : d.length = 16) (hc : I64 c) : LgV θ (recC d c (.slice none 0 0) (.slice none 0 0)) ⟨d, c, [], []⟩ none 0 none 0 :=
 ⟨rfl, ⟨none, 0, rfl, fun i x h => by simp at h⟩, ⟨none, 0, rfl, fun i x h => by simp at h⟩, ⟨_, _, _, rfl, Nat.zero_le _, .inl rfl⟩, ⟨_, _, _, rfl, Nat.zero_le _, .inl rfl⟩, ⟨hd, hc, fun e he => by simp at he, by simp⟩, fun s hs => by simp at hs, by simp⟩
theorem sanity_app {σ : H} (hG : HGlob σ) : App Tryd.prog (.func 10) #[] #[] σ fun v σ' => σ' = σ ∧ v = .bool true := by
 refine App.forget (App.of_sem mixed Tryd.func10 t10 k10 r10 (Nat.le_of_ble_eq_true rfl) ?_)
 rw [← ap_nil (σ := σ)]
 unfold s10
 have lD : sD.length = 16 := rfl
 have cD : digC sD = [.int .u8 5, .int .u8 0, .int .u8 0, .int .u8 0, .int .u8 0, .int .u8 0, .int .u8 0, .int .u8 0, .int .u8 0, .int .u8 0, .int .u8 0, .int .u8 0, .int .u8 0, .int .u8 0, .int .u8 0, .int .u8 0] := rfl
 have rp : (List.replicate 16 (Value.int .u8 0)).length = 16 := rfl
 have rs : (List.replicate 16 (Value.int .u8 0)).set 0 (.int .u8 5) = digC sD := rfl
 have rt : (digC sD).take 16 = digC sD := rfl
 simp only [↓eD, eZ, ↓reduceIte, Nat.reduceEqDiff, Nat.reduceAdd, Nat.reduceMul, reduceCtorEq, Nat.reduceLeDiff, Int.reduceLT, Int.reduceLE, Int.reduceToNat, Int.reduceEq, Nat.reduceLT, rp, rs, rt]
 refine appK_of (lnew_app (c := 2) lD) ?_
 rintro v τ ⟨ho, rfl⟩
 have hn : newV sD 2 = .tuple #[.agg (recC sD 2 (.slice none 0 0) (.slice none 0 0)).toArray, .int .i64 0] := rfl
 have rs19 : ∀ z : List Value, z.length = 19 → sets z 0 (recC sD 2 (.slice none 0 0) (.slice none 0 0)) = recC sD 2 (.slice none 0 0) (.slice none 0 0) := fun z hz => rec_sets lD hz
 have ln : (recC sD 2 (.slice none 0 0) (.slice none 0 0)).length = 19 := rfl
 have tn : (recC sD 2 (.slice none 0 0) (.slice none 0 0)).take 19 = recC sD 2 (.slice none 0 0) (.slice none 0 0) := rfl
 rw [hn, ← ap_nil (σ := τ)]
 simp only [↓eD, eZ, ↓reduceIte, Nat.reduceEqDiff, Nat.reduceAdd, Nat.reduceMul, reduceCtorEq, Nat.reduceLeDiff, Int.reduceLT, Int.reduceLE, Int.reduceToNat, Int.reduceEq, Nat.reduceLT, ln, rs19, tn, rec_one, rec_ne]
 have B0 : SB σ (ap τ [.cells 1 (recC sD 2 (.slice none 0 0) (.slice none 0 0)) (0, 0)]) τ.size (recC sD 2 (.slice none 0 0) (.slice none 0 0)) sL0 none 0 none 0 :=
  SB.new (by rwa [ap_nil] at ho) (new_v lD ⟨by decide, by decide⟩) (fun q hq => by cases hq) (fun q hq => by cases hq) (ver := 1) (by rw [ap_new0]; rfl) .ap
 generalize ap τ [.cells 1 (recC sD 2 (.slice none 0 0) (.slice none 0 0)) (0, 0)] = τ0 at B0 ⊢
 have fit : ∀ e : Ent, e ∈ [sE1, sE2, sE3, sX1, sX2, sX3, sE2'] → e.fit := by
  intro e he
  simp only [List.mem_cons, List.not_mem_nil, or_false] at he
  unfold Ent.fit I64
  rcases he with rfl | rfl | rfl | rfl | rfl | rfl | rfl <;> exact ⟨by decide, by decide, by decide, by decide, by decide⟩
 refine appK_of (lappend_app (e := sE1) B0.v (fit _ (by simp)) s_good0.c4 s_good0.r) ?_
 rintro v τ1 ⟨ho1, l1, a1, c1, rfl, v1, f1⟩
 simp only [s_f1] at v1 ⊢
 obtain ⟨τ1', w1, B1, -, -⟩ := B0.next ho1 v1 f1 .same
 clear B0 ho1 v1 f1
 simp only [↓eD, eZ, ↓reduceIte, Nat.reduceEqDiff, Nat.reduceAdd, Nat.reduceMul, reduceCtorEq, Nat.reduceLeDiff, Int.reduceLT, Int.reduceLE, Int.reduceToNat, Int.reduceEq, Nat.reduceLT, B1.v.len, w1, B1.rd]
 refine appK_of (lappend_app (e := sE2) B1.v (fit _ (by simp)) s_good1.c4 s_good1.r) ?_
 rintro v τ2 ⟨ho2, l2, a2, c2, rfl, v2, f2⟩
 simp only [s_f2] at v2 ⊢
 obtain ⟨τ2', w2, B2, -, -⟩ := B1.next ho2 v2 f2 .same
 clear B1 ho2 v2 f2 w1
 simp only [↓eD, eZ, ↓reduceIte, Nat.reduceEqDiff, Nat.reduceAdd, Nat.reduceMul, reduceCtorEq, Nat.reduceLeDiff, Int.reduceLT, Int.reduceLE, Int.reduceToNat, Int.reduceEq, Nat.reduceLT, B2.v.len, w2, B2.rd]
 refine appK_of (lappend_app (e := sE3) B2.v (fit _ (by simp)) s_good2.c4 s_good2.r) ?_
 rintro v τ3 ⟨ho3, l3, a3, c3, rfl, v3, f3⟩
 simp only [s_f3] at v3 ⊢
 obtain ⟨τ3', w3, B3, -, -⟩ := B2.next ho3 v3 f3 .same
 clear B2 ho3 v3 f3 w2
 simp only [↓eD, eZ, ↓reduceIte, Nat.reduceEqDiff, Nat.reduceAdd, Nat.reduceMul, reduceCtorEq, Nat.reduceLeDiff, Int.reduceLT, Int.reduceLE, Int.reduceToNat, Int.reduceEq, Nat.reduceLT, B3.v.len, w3, B3.rd]
 refine appK_of (lappend_app (e := sX1) B3.v (fit _ (by simp)) s_good3.c4 s_good3.r) ?_
 rintro v τ4 ⟨ho4, l4, a4, c4, rfl, v4, f4⟩
 simp only [s_g1] at v4 ⊢
 have B4 := B3.Old' ho4
 have q4 := fun L => (B4.Old' (Old.ap (l := L))).rd
 rw [← ap_nil (σ := τ4)]
 simp only [↓eD, eZ, ↓reduceIte, Nat.reduceEqDiff, Nat.reduceAdd, Nat.reduceMul, reduceCtorEq, Nat.reduceLeDiff, Int.reduceLT, Int.reduceLE, Int.reduceToNat, Int.reduceEq, Nat.reduceLT, v4.len, v4.sets, v4.take, v4.one, v4.ne, q4]
 refine appK_of (lappend_app (e := sX2) (B4.Old' .ap).v (fit _ (by simp)) s_good3.c4 s_good3.r) ?_
 rintro v τ5 ⟨ho5, l5, a5, c5, rfl, v5, f5⟩
 simp only [s_g2] at v5 ⊢
 have B5 := B4.Old' (Old.trans .ap ho5)
 have q5 := fun L => (B5.Old' (Old.ap (l := L))).rd
 clear B3 q4 B4 ho4 ho5 v4 f4 f5
 rw [← ap_nil (σ := τ5)]
 simp only [↓eD, eZ, ↓reduceIte, Nat.reduceEqDiff, Nat.reduceAdd, Nat.reduceMul, reduceCtorEq, Nat.reduceLeDiff, Int.reduceLT, Int.reduceLE, Int.reduceToNat, Int.reduceEq, Nat.reduceLT, v5.len, v5.sets, v5.take, v5.one, v5.ne, q5]
 refine appK_of (lappend_app (e := sX3) (B5.Old' .ap).v (fit _ (by simp)) s_good3.c4 s_good3.r) ?_
 rintro v τ6 ⟨ho6, l6, a6, c6, rfl, v6, f6⟩
 simp only [s_g3] at v6 ⊢
 have B6 := B5.Old' (Old.trans .ap ho6)
 have q6 := fun L => (B6.Old' (Old.ap (l := L))).rd
 have p6 := fun L => (B6.Old' (Old.ap (l := L))).rd17
 clear q5 B5 v5 ho6 f6
 have n3 : sL3.E.length = 3 := rfl
 rw [← ap_nil (σ := τ6)]
 simp only [↓eD, eZ, ↓reduceIte, Nat.reduceEqDiff, Nat.reduceAdd, Nat.reduceMul, reduceCtorEq, Nat.reduceLeDiff, Int.reduceLT, Int.reduceLE, Int.reduceToNat, Int.reduceEq, Nat.reduceLT, v6.len, v6.sets, v6.take, v6.one, v6.ne, q6, p6, n3, undef_eq]
 have d33 : decide (((3 : Nat) : Int) = 3) = true := rfl
 have k1 : sKey.size < 100000000000 := by decide
 have k2 : sOther.size < 100000000000 := by decide
 simp only [↓eD, eZ, ↓reduceIte, Nat.reduceEqDiff, Nat.reduceAdd, Nat.reduceMul, reduceCtorEq, Nat.reduceLeDiff, Int.reduceLT, Int.reduceLE, Int.reduceToNat, Int.reduceEq, Nat.reduceLT, d33, Bool.not_true, q6, undef_eq]
 refine appK_of (lseal_app (key := sKey) (B6.Old' .ap).v k1 (hG.Old (B6.Old' .ap).old)) ?_
 rintro v τ7 ⟨ho7, l7, a7, c7, a7', c7', rfl, -, v7, -, -⟩
 rw [s_seal] at v7 ⊢
 have v7 := v7 rfl
 have o7 : Old σ τ7 := B6.old.trans (Old.trans .ap ho7)
 have S7 : SR σ (ap τ7 [.cells 1 l7 (0, 0)]) τ7.size l7 sS a7 c7 a7' c7' := SR.new o7 v7 (ver := 1) (by rw [ap_new0]; rfl) .ap
 clear B6 ho7 q6 p6 w3
 have t0 : ap τ7 [] = τ7 := ap_nil
 rw [← t0]
 simp only [↓eD, eZ, ↓reduceIte, Nat.reduceEqDiff, Nat.reduceAdd, Nat.reduceMul, reduceCtorEq, Nat.reduceLeDiff, Int.reduceLT, Int.reduceLE, Int.reduceToNat, Int.reduceEq, Nat.reduceLT, v7.len, v7.sets, v7.take, v7.one, v7.ne, undef_eq]
 generalize ap τ7 [.cells 1 l7 (0, 0)] = θ at S7 ⊢
 refine appK_of (lseal_app (key := sKey) S7.v k1 (hG.Old S7.old)) ?_
 rintro v τ8 ⟨ho8, l8, a8, c8, a8', c8', rfl, v8, -, -, -⟩
 rw [s_seal2] at v8 ⊢
 have S8 := S7.Old' ho8
 have q8 := fun L => (S8.Old' (Old.ap (l := L))).rd
 rw [← ap_nil (σ := τ8)]
 simp only [↓eD, eZ, ↓reduceIte, Nat.reduceEqDiff, Nat.reduceAdd, Nat.reduceMul, reduceCtorEq, Nat.reduceLeDiff, Int.reduceLT, Int.reduceLE, Int.reduceToNat, Int.reduceEq, Nat.reduceLT, v8.len, v8.sets, v8.take, v8.one, v8.ne, q8, undef_eq]
 refine appK_of (lsealed_app (key := sKey) (S8.Old' .ap).v k1 (hG.Old (S8.Old' .ap).old)) ?_
 rintro _ _ ⟨e2, rfl⟩
 rw [e2, s_sealed]
 clear e2
 simp only [↓eD, eZ, ↓reduceIte, Nat.reduceEqDiff, Nat.reduceAdd, Nat.reduceMul, reduceCtorEq, Nat.reduceLeDiff, Int.reduceLT, Int.reduceLE, Int.reduceToNat, Int.reduceEq, Nat.reduceLT, q8, undef_eq]
 refine appK_of (lsealed_app (key := sOther) (S8.Old' .ap).v k2 (hG.Old (S8.Old' .ap).old)) ?_
 rintro _ _ ⟨e2, rfl⟩
 rw [e2, s_other]
 clear e2
 simp only [↓eD, eZ, ↓reduceIte, Nat.reduceEqDiff, Nat.reduceAdd, Nat.reduceMul, reduceCtorEq, Nat.reduceLeDiff, Int.reduceLT, Int.reduceLE, Int.reduceToNat, Int.reduceEq, Nat.reduceLT, q8, undef_eq]
 refine appK_of (lcut_app (n := 2) (S8.Old' .ap).v) ?_
 rintro v τ9 ⟨ho9, l9, a9, c9, a9', c9', rfl, -, v9, -, -⟩
 have v9 := v9 (by decide)
 rw [s_cut] at v9 ⊢
 have S9 := (S8.Old' .ap).Old' ho9
 have C9 : SR σ (ap τ9 [.cells 1 l9 (0, 0)]) τ9.size l9 sC a9 c9 a9' c9' := SR.new S9.old v9 (ver := 1) (by rw [ap_new0]; rfl) .ap
 have S9 := S9.Old' (Old.ap (l := [.cells 1 l9 (0, 0)]))
 clear S8 q8 v8 S7 v7 ho8 ho9
 have t0 : ap τ9 [] = τ9 := ap_nil
 rw [← t0]
 have nC : sC.E.length = 2 := rfl
 have mC : sC.S.length = 0 := rfl
 have d22 : decide (((2 : Nat) : Int) = 2) = true := rfl
 have d00 : decide (((0 : Nat) : Int) = 0) = true := rfl
 have u17 : l9[17]? = some (.slice a9 2 c9) := v9.c17
 have u18 : l9[18]? = some (.slice a9' 0 c9') := v9.c18
 have r9 := S9.rd
 have r9' := C9.rd
 simp only [↓eD, eZ, ↓reduceIte, Nat.reduceEqDiff, Nat.reduceAdd, Nat.reduceMul, reduceCtorEq, Nat.reduceLeDiff, Int.reduceLT, Int.reduceLE, Int.reduceToNat, Int.reduceEq, Nat.reduceLT, v9.len, v9.sets, v9.take, v9.one, v9.ne, u17, u18, d22, d00, r9, r9', Bool.not_true, undef_eq]
 generalize ap τ9 [.cells 1 l9 (0, 0)] = θ9 at C9 S9 r9 r9' ⊢
 refine appK_of (lfollows_app C9.v.r S9.v.r (by decide)) ?_
 rintro _ _ ⟨e2, rfl⟩
 rw [e2, s_fol1]
 clear e2
 simp only [↓eD, eZ, ↓reduceIte, Nat.reduceEqDiff, Nat.reduceAdd, Nat.reduceMul, reduceCtorEq, Nat.reduceLeDiff, Int.reduceLT, Int.reduceLE, Int.reduceToNat, Int.reduceEq, Nat.reduceLT, r9, r9', Bool.not_true, undef_eq]
 refine appK_of (lfollows_app S9.v.r C9.v.r (by decide)) ?_
 rintro _ _ ⟨e2, rfl⟩
 rw [e2, s_fol2]
 clear e2
 have R9 := S9.rd
 rw [← ap_nil (σ := θ9)]
 have R9' := fun L => (S9.Old' (Old.ap (l := L))).rd
 have R17 := fun L => (S9.Old' (Old.ap (l := L))).rd17
 have R18 := fun L => (S9.Old' (Old.ap (l := L))).rd18
 have nS : sS.E.length = 3 := rfl
 rw [nS] at R17
 simp only [↓eD, eZ, ↓reduceIte, Nat.reduceEqDiff, Nat.reduceAdd, Nat.reduceMul, reduceCtorEq, Nat.reduceLeDiff, Int.reduceLT, Int.reduceLE, Int.reduceToNat, Int.reduceEq, Nat.reduceLT, R9', R17, S9.v.len, S9.v.sets, S9.v.take, S9.v.one, S9.v.ne, undef_eq]
 have hoT : Old θ9 (ap θ9 [.cells 1 l7 (0, 0), .cells 0 [] (0, 0)]) := .ap
 have hsT : (ap θ9 [.cells 1 l7 (0, 0), .cells 0 [] (0, 0)]).size = θ9.size + 2 := by simp [ap_size]
 have q0 : (ap θ9 [.cells 1 l7 (0, 0), .cells 0 [] (0, 0)])[θ9.size]? = some (.cells 1 l7 (0, 0)) := by rw [ap_new0]; rfl
 have q1 : (ap θ9 [.cells 1 l7 (0, 0), .cells 0 [] (0, 0)])[θ9.size + 1]? = some (.cells 0 [] (0, 0)) := by rw [ap_new]; rfl
 generalize ap θ9 [.cells 1 l7 (0, 0), .cells 0 [] (0, 0)] = T at hoT hsT q0 q1 ⊢
 have hss : (sized (θ9.size + 1)).size = θ9.size + 1 := sized_size
 have g0 : Grown (sized (θ9.size + 1)) T 5 (.slice (some ⟨θ9.size + 1, 0, none⟩) 0 0) [] 0 := Grown.lit rfl (by decide) (by rw [hss]; omega) q1
 have x1 := row_xcells (S9.v.E.Old hoT)
 rw [List.length_map, nS] at x1
 obtain ⟨vA, τA, ha, A⟩ := append_grown (bytes := 48) g0 (by omega) (by rw [hss]; omega) x1 (by rw [flatten_length entV_rows]; rfl) entV_ones (by omega) (by omega)
 have oA : Old θ9 τA := A.Old' g0 (by rw [hss]; omega) hoT
 have p0 := A.low g0 (by rw [hss]; omega) q0
 refine onV_of ha ?_
 obtain ⟨gl, gb, gg⟩ := A.grown
 rcases gg with ⟨gg, _⟩ | ⟨bE, ver, cap, hbE, hcap, rfl, hcE⟩
 ·cases gg
 have l7e : l7 = recC sD 2 (.slice a7 3 c7) (.slice a7' 1 c7') := S9.v.l
 obtain ⟨l10, hl10⟩ : ∃ l10, l10 = recC sD 2 (.slice (some ⟨bE, 0, none⟩) 3 cap) (.slice a7' 1 c7') := ⟨_, rfl⟩
 have w17 : wrN τA ⟨θ9.size, 17, none⟩ [.slice (some ⟨bE, 0, none⟩) 3 cap] = some (τA.setIfInBounds θ9.size (.cells 2 l10 (0, 0))) := by
  rw [wrN_eq, if_neg (by simp), p0, wrc_cells, if_pos ⟨by rw [S9.v.len]; show 17 + 1 ≤ 19; omega, rfl⟩]
  show some (τA.setIfInBounds θ9.size (.cells 2 (l7.set 17 _) (0, 0))) = _
  rw [l7e, hl10, rec_s17 lD]
 have hne : bE ≠ θ9.size := by rw [hss] at hbE; omega
 have j0 := get_set (k := .cells 2 l10 (0, 0)) p0
 have jE : (τA.setIfInBounds θ9.size (.cells 2 l10 (0, 0)))[bE]? = some (.cells ver ([] ++ (sS.E.map entV).flatten) (0, 0)) := (get_set_ne (Ne.symm hne)).trans hcE
 have oB : Old θ9 (τA.setIfInBounds θ9.size (.cells 2 l10 (0, 0))) := oA.set (Nat.le_refl _)
 have s17 : l10[17]? = some (.slice (some ⟨bE, 0, none⟩) 3 cap) := by rw [hl10]; exact rec17 lD
 have j17 : rd1 (τA.setIfInBounds θ9.size (.cells 2 l10 (0, 0))) ⟨θ9.size, 17, none⟩ = some (.slice (some ⟨bE, 0, none⟩) 3 cap) := by rw [rd1_eq, j0]; exact s17
 generalize τA.setIfInBounds θ9.size (.cells 2 l10 (0, 0)) = τB at w17 j0 jE oB j17
 have wE : wrN τB ⟨bE, 9, none⟩ [.string ⟨#[99]⟩] = some (τB.setIfInBounds bE (.cells (ver + 1) (sT.E.map entV).flatten (0, 0))) := by
  rw [wrN_eq, if_neg (by simp), jE, wrc_cells, if_pos ⟨by show 9 + 1 ≤ 15; omega, rfl⟩]
  rfl
 have oC : Old θ9 (τB.setIfInBounds bE (.cells (ver + 1) (sT.E.map entV).flatten (0, 0))) := oB.set (by rw [hss] at hbE; omega)
 have jE' := get_set (k := .cells (ver + 1) (sT.E.map entV).flatten (0, 0)) jE
 have j0' : (τB.setIfInBounds bE (.cells (ver + 1) (sT.E.map entV).flatten (0, 0)))[θ9.size]? = some (.cells 2 l10 (0, 0)) := (get_set_ne hne).trans j0
 generalize τB.setIfInBounds bE (.cells (ver + 1) (sT.E.map entV).flatten (0, 0)) = τC at wE oC jE' j0'
 have l10l : l10.length = 19 := by rw [hl10]; exact rec_len lD
 have r10 := rdN_all j0' l10l
 have S10 := S9.Old' oC
 have VT : LgV τC l10 sT (some ⟨bE, 0, none⟩) cap a7' c7' := by
  refine ⟨hl10, ?_, S10.v.S, ?_, S10.v.cS, ⟨lD, S10.v.fit.c, ?_, by decide⟩, S10.v.ok, S10.v.nS⟩
  ·have : Grown (sized (θ9.size + 1)) τC 5 (.slice (some ⟨bE, 0, none⟩) 3 cap) (sT.E.map entV).flatten (sT.E.map entV).length := ⟨rfl, by decide, .inr ⟨bE, ver + 1, cap, hbE, hcap, rfl, jE'⟩⟩
   exact this.Row entV_rows
  ·refine ⟨_, _, _, rfl, ?_, ?_⟩
   ·rcases hcap with rfl | rfl
    ·rw [capLow_inex (by decide)]; exact Nat.le_refl _
    ·rw [capLow_small (by decide)]; exact Nat.le_refl _
   ·rcases hcap with rfl | rfl
    ·exact .inr (csz_inex (by decide))
    ·exact .inl (csz_small (by decide))
  ·intro e he
   have : e = sE1 ∨ e = sE2' ∨ e = sE3 := by simpa [sT] using he
   rcases this with rfl | rfl | rfl <;> exact fit _ (by simp)
 have bd : (0 : Int) ≤ 1 ∧ (1 : Int) < ((3 : Nat) : Int) := by decide
 simp only [↓eD, eZ, ↓reduceIte, Nat.reduceEqDiff, Nat.reduceAdd, Nat.reduceMul, reduceCtorEq, Nat.reduceLeDiff, Int.reduceLT, Int.reduceLE, Int.reduceToNat, Int.reduceEq, Nat.reduceLT, w17, j17, d33, bd, Int.toNat_one, Nat.one_mul, wE, r10, undef_eq]
 refine appK_of (lcheck_app VT (hG.Old S10.old)) ?_
 rintro _ _ ⟨e2, rfl⟩
 rw [e2, s_chkT]
 clear e2
 have r11 := S10.rd
 simp only [↓eD, eZ, ↓reduceIte, Nat.reduceEqDiff, Nat.reduceAdd, Nat.reduceMul, reduceCtorEq, Nat.reduceLeDiff, Int.reduceLT, Int.reduceLE, Int.reduceToNat, Int.reduceEq, Nat.reduceLT, r11, undef_eq]
 refine appK_of (lcheck_app S10.v (hG.Old S10.old)) ?_
 rintro _ _ ⟨e2, rfl⟩
 rw [e2, s_chk]
 clear e2
 simp only [↓eD, eZ, ↓reduceIte, Nat.reduceEqDiff, Nat.reduceAdd, Nat.reduceMul, reduceCtorEq, Nat.reduceLeDiff, Int.reduceLT, Int.reduceLE, Int.reduceToNat, Int.reduceEq, Nat.reduceLT, undef_eq]
 first
 |exact ⟨S10.old, rfl⟩
 |exact S10.old
theorem few_data {L : Lg} (hf : lfewF L = true) : L.E.length ≤ 60 ∧ L.S.length ≤ 20 ∧ ∀ e ∈ L.E, e.data.size ≤ 600 := of_decide_eq_true hf
theorem LgA.v {σ : H} {l : List Value} {L : Lg} {a1 a2 : Option Addr} {b1 b2 : Nat} (h : LgA σ l L a1 b1 a2 b2) (hf : lfewF L = true) : LgV σ l L a1 b1 a2 b2 := by
 obtain ⟨f1, f2, f3⟩ := few_data hf
 exact ⟨h.r.l, h.r.E, h.r.S, h.cE, h.cS, ⟨h.r.d, h.c, fun e he => ⟨(h.e e he).1, (h.e e he).2.1, (h.e e he).2.2.1, (h.e e he).2.2.2, by have := f3 e he; omega⟩, by omega⟩, fun s hs => ⟨h.r.ok s hs, h.s s hs⟩, by omega⟩
theorem IsLg.r {σ : H} {l : List Value} {L : Lg} (h : IsLg σ l L) : ∃ a b a' b', LgR σ l L a b a' b' := by
 obtain ⟨a, b, a', b', h1, h2, h3, _⟩ := h.recs
 exact ⟨a, b, a', b', h1, h.log.d16, h2, h3, h.ok⟩
theorem rdb_of {θ θ' : H} {b n ver : Nat} {cs : List Value} (h : θ[b]? = some (.cells ver cs (0, 0))) (ho : Old θ θ') (hn : cs.length = n) : rdN θ' ⟨b, 0, none⟩ n = some cs :=
 rdN_all ((ho.2 _ (Array.getElem?_eq_some_iff.1 h).1).trans h) hn
theorem rd1_of {θ θ' : H} {b ver k : Nat} {cs : List Value} {x : Value} (h : θ[b]? = some (.cells ver cs (0, 0))) (ho : Old θ θ') (hn : cs[k]? = some x) : rd1 θ' ⟨b, k, none⟩ = some x := by
 rw [rd1_eq, (ho.2 _ (Array.getElem?_eq_some_iff.1 h).1).trans h]; exact hn
theorem did_sets {l z : List Value} {x y : Value} (h : l.length = 19) (hz : z.length = 21) : sets z 0 (l ++ [x, y]) = l ++ [x, y] := by
 rw [sets_all (by simp [h, hz]), List.take_zero, List.drop_of_length_le (by simp [h, hz])]; simp
section
variable {l : List Value} {x y : Value} (h : l.length = 19)
include h
theorem did_len : (l ++ [x, y]).length = 21 := by simp [h]
theorem did_take : (l ++ [x, y]).take 21 = l ++ [x, y] := List.take_of_length_le (by simp [h])
theorem did_20 : (l ++ [x, y])[20]? = some y := by rw [List.getElem?_append_right (by omega), h]; rfl
end
theorem did_ne {l : List Value} {x y : Value} : (l ++ [x, y] = []) = False := eq_false (by simp)
theorem did_one {l : List Value} {i j : Int} (h : l.all Value.oneCell' = true) : (l ++ [Value.int .i64 i, .int .i64 j]).all Value.oneCell' = true := by rw [List.all_append, h]; rfl
end Go.Proofs.YtopnlllipkockaaDoor
