/- Walks of the functions that the claim reaches. Conditions: none. -/
import Derived.Test.YtajchhghjjlahaaDoorIa
set_option linter.all false
set_option maxRecDepth 10000
set_option maxHeartbeats 8000000
namespace Go.Proofs.YtajchhghjjlahaaDoor
open Go Go.Cn Go.RowKit
attribute [local irreducible] evL sem onG onI onV
def digI (I : Img) : List Int := ofF 90 [bytesS (encI I)]
theorem ldig_app {σ : H} {l : List Value} {I : Img} {a1 a2 : Option Addr} {b1 b2 : Nat} (h : ImgR σ l I a1 b1 a2 b2) (hf : I.fit) (hG : HGlob σ) :
  App Tryd.prog (.func 21) #[] #[.agg l.toArray] σ fun v σ' => σ' = σ ∧ v = .agg (digC (digI I)).toArray := by
 refine App.forget (App.of_sem mixed Tryd.func21 t21 k21 r21 (Nat.le_of_ble_eq_true rfl) ?_)
 have ll : l.length = 4 := by rw [h.l]; rfl
 have tl : l.take 4 = l := List.take_of_length_le (by omega)
 rw [← ap_nil (σ := σ)]
 unfold s21
 simp only [↓eD, eZ, ↓reduceIte, Nat.reduceEqDiff, Nat.reduceAdd, Nat.reduceMul, reduceCtorEq, Nat.reduceLeDiff, Int.reduceLT, Int.reduceLE, Int.reduceToNat, Int.reduceEq, Nat.reduceLT, ll, tl, undef_eq]
 refine appK_of (lenc_app (h.Old .ap) hf) ?_
 rintro v σ1 ⟨o1, g1⟩
 have x2 : σ1[σ.size + 1]? = some (.cells 0 (List.replicate 16 (.int .u8 0)) (0, 0)) := (o1.2 _ (by rw [ap_size]; simp)).trans (by rw [ap_new]; rfl)
 obtain ⟨ka, kc, rfl⟩ := g1.slice
 obtain ⟨k, o, rfl, hr⟩ := grown_str g1 encI_pos
 have oS : Old σ σ1 := Old.ap.trans o1
 have hr' := fun M => rdN_old (l := M) hr
 rw [← ap_nil (σ := σ1)]
 simp only [↓eD, eZ, ↓reduceIte, Nat.reduceEqDiff, Nat.reduceAdd, Nat.reduceMul, reduceCtorEq, Nat.reduceLeDiff, Int.reduceLT, Int.reduceLE, Int.reduceToNat, Int.reduceEq, Nat.reduceLT, hr', Option.bind_some, bytesOf_dig, dig_str7, undef_eq]
 have hlen : (encI I).length < 100000000000 := by
  obtain ⟨p1, p2⟩ := enc_parts hf h.d
  unfold encI; rw [List.length_append]; omega
 have hw : Whl (ap σ1 [.cells 0 [.string (bytesS (encI I))] (0, 0)]) 1 (.slice (some ⟨σ1.size, 0, none⟩) 1 1) [bytesS (encI I)].length ([bytesS (encI I)].map .string) :=
  (Grown.lit (σ0 := σ1) (ver := 0) (s := 1) (n := 1) rfl (by decide) (Nat.le_refl _) (by rw [ap_new0]; rfl)).whl
 refine appK_at (hof_app (tag := 90) (l := [bytesS (encI I)]) hw (by simp) (fun s hs => by
  rw [List.mem_singleton] at hs
  rw [hs, bytesS_size']; exact hlen) (hG.Old (oS.trans .ap))) ?_
 have D16 : (digI I).length = 16 := ofF_len
 have hof : ofF 90 [bytesS (encI I)] = digI I := rfl
 rw [hof]
 obtain ⟨T, hT⟩ : ∃ T, T = ap σ1 [.cells 0 [.string (bytesS (encI I))] (0, 0)] := ⟨_, rfl⟩
 rw [← hT]
 have oT : Old σ T := by rw [hT]; exact oS.trans .ap
 have z2 : T[σ.size + 1]? = some (.cells 0 (List.replicate 16 (.int .u8 0)) (0, 0)) := by rw [hT]; exact (ap_old (Array.getElem?_eq_some_iff.1 x2).1).trans x2
 clear hT
 generalize digI I = D at D16
 have lD : (digC D).length = 16 := by rw [digC_length, D16]
 have w16 : wrN T ⟨σ.size + 1, 0, none⟩ (digC D) = some (T.setIfInBounds (σ.size + 1) (.cells 1 (digC D) (0, 0))) := by
  rw [wrN_eq, if_neg (by intro h9; rw [h9] at lD; cases lD), z2, wrc_cells, if_pos ⟨by rw [lD, List.length_replicate]; show 0 + 16 ≤ 16; omega, digC_one⟩, sets_all (by rw [lD, List.length_replicate]; show 0 + 16 ≤ 16; omega)]
  simp [lD]
 have r16 := rdN_all (get_set (k := .cells 1 (digC D) (0, 0)) z2) lD
 simp only [↓eD, eZ, ↓reduceIte, Nat.reduceEqDiff, Nat.reduceAdd, Nat.reduceMul, reduceCtorEq, Nat.reduceLeDiff, Int.reduceLT, Int.reduceLE, Int.reduceToNat, Int.reduceEq, Nat.reduceLT, lD, w16, r16, undef_eq]
 first | exact ⟨oT.set (by omega), flat_dig, rfl⟩ | exact ⟨oT.set (by omega), flat_dig⟩
def thereF (n : Nat) (at_ size : Int) : Bool := decide (0 ≤ at_ ∧ at_.tmod size = 0 ∧ at_ ≤ ((n * 128 : Nat) : Int) - size)
theorem there_app {σ : H} {a : Option Addr} {n c : Nat} {at_ size : Int} (hs : size = 1 ∨ size = 4) (hn : n ≤ 1000000) :
  App Tryd.prog (.func 55) #[] #[.agg #[.slice a n c], .int .i64 at_, .int .i64 size] σ fun v σ' => σ' = σ ∧ v = .bool (thereF n at_ size) := by
 refine App.forget (App.of_sem mixed Tryd.func55 t55 k55 r55 (Nat.le_of_ble_eq_true rfl) ?_)
 rw [← ap_nil (σ := σ)]
 unfold s55
 have fin : ∀ M : List Blk, Old σ (ap σ M) := fun M => .ap
 have hz : (size = 0) = False := eq_false (by omega)
 have hcs : decide (size = 1) = true ∨ (decide (size = 1) = false ∧ decide (size = 4) = true) := by
  rcases hs with rfl | rfl
  ·exact .inl rfl
  ·exact .inr ⟨rfl, rfl⟩
 by_cases g1 : 0 ≤ at_
 case' neg =>
  have d1 : decide (0 ≤ at_) = false := decide_eq_false g1
  have f : thereF n at_ size = false := decide_eq_false fun hh => g1 hh.1
  rcases hcs with e1 | ⟨e1, e2⟩
  case' inl => simp only [↓eD, eZ, ↓reduceIte, Nat.reduceEqDiff, Nat.reduceAdd, Nat.reduceMul, reduceCtorEq, Nat.reduceLeDiff, Int.reduceLT, Int.reduceLE, Int.reduceToNat, Int.reduceEq, Nat.reduceLT, e1, d1, f, undef_eq]
  case' inr => simp only [↓eD, eZ, ↓reduceIte, Nat.reduceEqDiff, Nat.reduceAdd, Nat.reduceMul, reduceCtorEq, Nat.reduceLeDiff, Int.reduceLT, Int.reduceLE, Int.reduceToNat, Int.reduceEq, Nat.reduceLT, e1, e2, d1, f, undef_eq]
  all_goals first | exact ⟨fin _, rfl, rfl⟩ | exact ⟨fin _, rfl⟩ | exact fin _
 have d1 : decide (0 ≤ at_) = true := decide_eq_true g1
 by_cases g2 : at_.tmod size = 0
 case' neg =>
  have d2 : decide (at_.tmod size = 0) = false := decide_eq_false g2
  have f : thereF n at_ size = false := decide_eq_false fun hh => g2 hh.2.1
  rcases hcs with e1 | ⟨e1, e2⟩
  case' inl => simp only [↓eD, eZ, ↓reduceIte, Nat.reduceEqDiff, Nat.reduceAdd, Nat.reduceMul, reduceCtorEq, Nat.reduceLeDiff, Int.reduceLT, Int.reduceLE, Int.reduceToNat, Int.reduceEq, Nat.reduceLT, e1, d1, d2, hz, f, undef_eq]
  case' inr => simp only [↓eD, eZ, ↓reduceIte, Nat.reduceEqDiff, Nat.reduceAdd, Nat.reduceMul, reduceCtorEq, Nat.reduceLeDiff, Int.reduceLT, Int.reduceLE, Int.reduceToNat, Int.reduceEq, Nat.reduceLT, e1, e2, d1, d2, hz, f, undef_eq]
  all_goals first | exact ⟨fin _, rfl, rfl⟩ | exact ⟨fin _, rfl⟩ | exact fin _
 have d2 : decide (at_.tmod size = 0) = true := decide_eq_true g2
 have f : thereF n at_ size = decide (at_ ≤ ((n * 128 : Nat) : Int) - size) := decide_eq_decide.2 ⟨fun hh => hh.2.2, fun hh => ⟨g1, g2, hh⟩⟩
 have ws : IntKind.wrap .i64 (((n * 128 : Nat) : Int) - size) = ((n * 128 : Nat) : Int) - size := wrap64' (by omega) (by omega)
 rcases hcs with e1 | ⟨e1, e2⟩
 case' inl => simp only [↓eD, eZ, ↓reduceIte, Nat.reduceEqDiff, Nat.reduceAdd, Nat.reduceMul, reduceCtorEq, Nat.reduceLeDiff, Int.reduceLT, Int.reduceLE, Int.reduceToNat, Int.reduceEq, Nat.reduceLT, e1, d1, d2, hz, undef_eq]
 case' inr => simp only [↓eD, eZ, ↓reduceIte, Nat.reduceEqDiff, Nat.reduceAdd, Nat.reduceMul, reduceCtorEq, Nat.reduceLeDiff, Int.reduceLT, Int.reduceLE, Int.reduceToNat, Int.reduceEq, Nat.reduceLT, e1, e2, d1, d2, hz, undef_eq]
 all_goals
  refine appK_at (size_app hn) ?_
  simp only [↓eD, eZ, ↓reduceIte, Nat.reduceEqDiff, Nat.reduceAdd, Nat.reduceMul, reduceCtorEq, Nat.reduceLeDiff, Int.reduceLT, Int.reduceLE, Int.reduceToNat, Int.reduceEq, Nat.reduceLT, ws, f, undef_eq]
  first | exact ⟨fin _, rfl, rfl⟩ | exact ⟨fin _, rfl⟩ | exact fin _
def le4 (a b c d : Int) : Int := orW (orW (orW a (shlW b 8)) (shlW c 16)) (shlW d 24)
theorem MemV.byte {σ : H} {bk bo n c : Nat} {B : List Int} (h : MemV σ (.slice (some ⟨bk, bo, none⟩) n c) n B) {k : Nat} (hk : k < 128 * n) : rd1 σ ⟨bk, bo + k, none⟩ = some (.int .u8 (B.getD k 0)) := by
 obtain ⟨_, _, hh, hr⟩ := h.w.at (by omega)
 injection hh with hh
 injection hh with q1 q2
 subst q1 q2
 refine rd1_row hr ?_
 have hB := h.l
 rw [← List.getElem_eq_getD (l := B) (i := k) 0 (h := by omega)]
 simp [digC, hB, hk]
theorem load4_app {σ : H} {v : Value} {n k : Nat} {B : List Int} (h : MemV σ v n B) (hn : n ≤ 1000000) (hk : k + 4 ≤ 128 * n) (h4 : k % 4 = 0) :
  App Tryd.prog (.func 28) #[] #[.agg #[v], .int .i64 (k : Int), .int .i64 4] σ fun w σ' => σ' = σ ∧ w = .tuple #[.int .u32 (le4 (B.getD k 0) (B.getD (k + 1) 0) (B.getD (k + 2) 0) (B.getD (k + 3) 0)), .bool true] := by
 refine App.forget (App.of_sem mixed Tryd.func28 t28 k28 r28 (Nat.le_of_ble_eq_true rfl) ?_)
 obtain ⟨a, c, rfl⟩ := h.w.slice
 obtain ⟨bk, bo, rfl, _⟩ := h.w.at (by omega)
 rw [← ap_nil (σ := σ)]
 unfold s28
 have fin : ∀ M : List Blk, Old σ (ap σ M) := fun M => .ap
 have f : thereF n (k : Int) 4 = true := decide_eq_true ⟨by omega, by rw [show ((k : Int)).tmod 4 = ((k % 4 : Nat) : Int) from (Int.ofNat_tmod _ _).symm, h4]; rfl, by omega⟩
 simp only [↓eD, eZ, ↓reduceIte, Nat.reduceEqDiff, Nat.reduceAdd, Nat.reduceMul, reduceCtorEq, Nat.reduceLeDiff, Int.reduceLT, Int.reduceLE, Int.reduceToNat, Int.reduceEq, Nat.reduceLT, undef_eq]
 refine appK_at (there_app (.inr rfl) hn) ?_
 rw [f]
 obtain ⟨P, hP⟩ : ∃ P, P = k / 128 := ⟨_, rfl⟩
 obtain ⟨O, hO⟩ : ∃ O, O = k % 128 := ⟨_, rfl⟩
 have hPO : 128 * P + O = k := by rw [hP, hO]; exact Nat.div_add_mod _ _
 have hO1 : O < 128 := by rw [hO]; exact Nat.mod_lt _ (by omega)
 have tq : ((k : Int)).tdiv 128 = (P : Int) := by rw [hP]; exact (Int.ofNat_tdiv _ _).symm
 have tr : ((k : Int)).tmod 128 = (O : Int) := by rw [hO]; exact (Int.ofNat_tmod _ _).symm
 have wq : IntKind.wrap .i64 (P : Int) = (P : Int) := wrap64' (by omega) (by omega)
 have hz : ((128 : Int) = 0) = False := by simp
 have hbd : (0:Int) ≤ (P:Int) ∧ (P:Int) < (n : Int) := by omega
 have hsa : sliceArr 128 1 (.pointer (some ⟨bk, bo + P * 128, none⟩)) (some (.int .i64 (O : Int))) none none = some (.slice (some ⟨bk, bo + P * 128 + O, none⟩) (128 - O) (128 - O)) := sliceArr_from (by omega) (by decide)
 have hO4 : O + 4 ≤ 128 := by omega
 have hb0 : (0:Int) ≤ 0 ∧ (0:Int) < ((128 - O : Nat) : Int) := by omega
 have hb1 : (0:Int) ≤ 1 ∧ (1:Int) < ((128 - O : Nat) : Int) := by omega
 have hb2 : (0:Int) ≤ 2 ∧ (2:Int) < ((128 - O : Nat) : Int) := by omega
 have hb3 : (0:Int) ≤ 3 ∧ (3:Int) < ((128 - O : Nat) : Int) := by omega
 have hbyt := h.b
 have hB := h.l
 have hr : ∀ j, j < 4 → ∀ M, rd1 (ap σ M) ⟨bk, bo + P * 128 + O + j, none⟩ = some (.int .u8 (B.getD (k + j) 0)) := fun j hj M => by
  have := rd1_old (l := M) (h.byte (k := k + j) (by omega))
  rw [show bo + P * 128 + O + j = bo + (k + j) by omega]
  exact this
 have hg : ∀ j, j < 4 → IntKind.wrap .u32 (B.getD (k + j) 0) = B.getD (k + j) 0 := fun j hj => by
  rw [← List.getElem_eq_getD (l := B) (i := k + j) 0 (h := by omega)]
  have := hbyt _ (List.getElem_mem (l := B) (n := k + j) (by omega))
  exact wrap_u32 this.1 (by omega)
 have r0 : ∀ M, rd1 (ap σ M) ⟨bk, bo + P * 128 + O, none⟩ = some (.int .u8 (B.getD k 0)) := hr 0 (by omega)
 have r1 := hr 1 (by omega)
 have r2 := hr 2 (by omega)
 have r3 := hr 3 (by omega)
 have g0 : IntKind.wrap .u32 (B.getD k 0) = B.getD k 0 := hg 0 (by omega)
 have g1 := hg 1 (by omega)
 have g2 := hg 2 (by omega)
 have g3 := hg 3 (by omega)
 have tn0 : Int.toNat 0 = 0 := rfl
 have tn1 : Int.toNat 1 = 1 := rfl
 have tn2 : Int.toNat 2 = 2 := rfl
 have tn3 : Int.toNat 3 = 3 := rfl
 have tn8 : Int.toNat 8 = 8 := rfl
 have tn16 : Int.toNat 16 = 16 := rfl
 have tn24 : Int.toNat 24 = 24 := rfl
 have n8 : ((8 : Int) < 0) = False := by simp
 have n16 : ((16 : Int) < 0) = False := by simp
 have n24 : ((24 : Int) < 0) = False := by simp
 have d11 : decide ((4 : Int) = 1) = false := rfl
 simp only [↓eD, eZ, ↓reduceIte, Nat.reduceEqDiff, Nat.reduceAdd, Nat.reduceMul, reduceCtorEq, Nat.reduceLeDiff, Int.reduceLT, Int.reduceLE, Int.reduceToNat, Int.reduceEq, Nat.reduceLT, tq, tr, wq, hz, hbd, Int.toNat_natCast, hsa, hb0, hb1, hb2, hb3, tn0, tn1, tn2, tn3, tn8, tn16, tn24, n8, n16, n24, d11, r0, r1, r2, r3, g0, g1, g2, g3, or_W, shl_W, Bool.not_true, undef_eq]
 exact ⟨fin _, by simp [flat, flat.flat1], rfl⟩
theorem segs_ok {size : Int} : ∀ {S : List Seg} {d : Int}, segsF size d S = 0 → 0 ≤ d → ∀ s ∈ S, d ≤ s.at_ ∧ 0 < s.data.size ∧ s.at_ + s.data.size ≤ size
 |[], _, _, _, s, hs => by cases hs
 |x :: S, d, h, hd, s, hs => by
  rw [segsF] at h
  split at h
  ·cases h
  ·rename_i hh
   have h1 : ¬x.data.size = 0 := fun q => hh (.inl q)
   have h2 : ¬x.at_ < d := fun q => hh (.inr (.inl q))
   have h3 : ¬x.at_ > size := fun q => hh (.inr (.inr (.inl q)))
   have h4 : ¬(x.data.size : Int) > size - x.at_ := fun q => hh (.inr (.inr (.inr q)))
   rcases List.mem_cons.1 hs with rfl | hs
   ·exact ⟨by omega, by omega, by omega⟩
   ·obtain ⟨g1, g2, g3⟩ := segs_ok h (by omega) s hs
    exact ⟨by omega, g2, g3⟩
structure Okay (I : Img) : Prop where
 p1 : 1 ≤ I.p
 p2 : I.p ≤ 64
 ent : entF I.e I.p = true
 n1 : I.S.length ≤ 64
 n2 : I.D.length ≤ 64
 s : segsF (I.p * 128) 0 I.S = 0
theorem okay_iff {I : Img} : checkI I = 0 ↔ Okay I := by
  unfold checkI
  constructor
  · intro h
    split at h
    · cases h
    rename_i h1
    split at h
    · cases h
    rename_i h2
    have h3 : ¬entF I.e I.p = false := fun q => h1 (.inr (.inr q))
    exact ⟨by have : ¬I.p < 1 := fun q => h1 (.inl q)
              omega, by have : ¬I.p > 64 := fun q => h1 (.inr (.inl q))
                        omega, by simpa using h3, by omega, by omega, h⟩
  · intro h
    have h1 := h.p1
    have h2 := h.p2
    have h3 := h.ent
    have h4 := h.n1
    have h5 := h.n2
    rw [if_neg (by rw [h3]; simp; omega), if_neg (by omega), h.s]
def loadN (I : Img) : Nat := if checkI I = 0 then I.p.toNat else 0
def stepB (n : Nat) (B : List Int) (s : Seg) : List Int := wrB n B s.at_ s.data
def loadB (I : Img) : List Int := if checkI I = 0 then I.S.foldl (stepB I.p.toNat) (List.replicate (128 * I.p.toNat) 0) else []
theorem lload_app {σ : H} {l : List Value} {I : Img} {a1 a2 : Option Addr} {b1 b2 : Nat} (h : ImgR σ l I a1 b1 a2 b2) :
  App Tryd.prog (.func 11) #[] #[.agg l.toArray] σ fun w σ' => Old σ σ' ∧ ∃ v, w = .tuple #[.agg #[v], .int .i64 (checkI I)] ∧ MemV σ' v (loadN I) (loadB I) ∧ v.oneCell' = true := by
 refine App.of_sem mixed Tryd.func11 t11 k11 r11 (Nat.le_of_ble_eq_true rfl) ?_
 have ll : l.length = 4 := by rw [h.l]; rfl
 have tl : l.take 4 = l := List.take_of_length_le (by omega)
 have l1 : l[1]? = some (.int .i64 I.p) := by rw [h.l]; rfl
 have l2 : l[2]? = some (.slice a1 I.S.length b1) := by rw [h.l]; rfl
 rw [← ap_nil (σ := σ)]
 unfold s11
 simp only [↓eD, eZ, ↓reduceIte, Nat.reduceEqDiff, Nat.reduceAdd, Nat.reduceMul, reduceCtorEq, Nat.reduceLeDiff, Int.reduceLT, Int.reduceLE, Int.reduceToNat, Int.reduceEq, Nat.reduceLT, ll, tl, undef_eq]
 refine appK_at (lcheck_app (h.Old .ap)) ?_
 by_cases hc : checkI I = 0
 case neg =>
  have d1 : decide (checkI I = 0) = false := decide_eq_false hc
  have fB : loadB I = [] := if_neg hc
  have fN : loadN I = 0 := if_neg hc
  simp only [↓eD, eZ, ↓reduceIte, Nat.reduceEqDiff, Nat.reduceAdd, Nat.reduceMul, reduceCtorEq, Nat.reduceLeDiff, Int.reduceLT, Int.reduceLE, Int.reduceToNat, Int.reduceEq, Nat.reduceLT, d1, undef_eq]
  rw [fB, fN]
  exact ⟨.ap, _, rfl, ⟨⟨by simp [digC], .inl ⟨rfl, none, 0, rfl, by decide⟩⟩, by simp, fun x hx => by simp at hx⟩, rfl⟩
 have d1 : decide (checkI I = 0) = true := decide_eq_true hc
 have O := okay_iff.1 hc
 have hp1 := O.p1
 have hp2 := O.p2
 have fN : loadN I = I.p.toNat := if_pos hc
 obtain ⟨n, hn⟩ : ∃ n, n = I.p.toNat := ⟨_, rfl⟩
 have fB : loadB I = I.S.foldl (stepB n) (List.replicate (128 * n) 0) := by rw [hn]; exact if_pos hc
 have hnn : newN I.p = n := by unfold newN; rw [if_pos (by omega), hn]
 rw [fB, fN, ← hn, hc]
 simp only [↓eD, eZ, ↓reduceIte, Nat.reduceEqDiff, Nat.reduceAdd, Nat.reduceMul, reduceCtorEq, Nat.reduceLeDiff, Int.reduceLT, Int.reduceLE, Int.reduceToNat, Int.reduceEq, Nat.reduceLT, d1, l1, undef_eq]
 refine appK_of new_app ?_
 rintro _ η ⟨oη, v, rfl, hM, hone, hbase⟩
 rw [hnn] at hM
 rw [if_pos (by omega)]
 have s1 : (ap σ [.cells 0 l (0, 0), .cells 0 [.slice none 0 0] (0, 0)]).size = σ.size + 2 := by simp [ap_size]
 have q0 : η[σ.size]? = some (.cells 0 l (0, 0)) := (oη.2 _ (by omega)).trans (by rw [ap_new0]; rfl)
 have q1 : η[σ.size + 1]? = some (.cells 0 [.slice none 0 0] (0, 0)) := (oη.2 _ (by omega)).trans (by rw [ap_new]; rfl)
 have hη : σ.size + 2 ≤ η.size := by have := oη.1; omega
 have oS : Old σ η := Old.ap.trans oη
 obtain ⟨va, vc, rfl⟩ := hM.w.slice
 obtain ⟨vk, vo, rfl, hvr⟩ := hM.w.at (by omega)
 have hvk : vk < η.size := rdN_lt hvr (by omega)
 have g2 : ∀ M, rd1 (ap η M) ⟨σ.size, 2, none⟩ = some (.slice a1 I.S.length b1) := fun M => rd1_of q0 .ap l2
 rw [← ap_nil (σ := η)]
 simp only [↓eD, eZ, ↓reduceIte, Nat.reduceEqDiff, Nat.reduceAdd, Nat.reduceMul, reduceCtorEq, Nat.reduceLeDiff, Int.reduceLT, Int.reduceLE, Int.reduceToNat, Int.reduceEq, Nat.reduceLT, g2, undef_eq]
 obtain ⟨T, hT⟩ : ∃ T, T = ap η [.cells 1 [.slice (some ⟨vk, vo, none⟩) n vc] (0, 0)] := ⟨_, rfl⟩
 rw [← hT]
 have oT : Old η T := by rw [hT]; exact .ap
 have sT : T.size = η.size + 1 := by rw [hT]; simp [ap_size]
 have b5 : T[η.size]? = some (.cells 1 [.slice (some ⟨vk, vo, none⟩) n vc] (0, 0)) := by rw [hT, ap_new0]; rfl
 clear hT
 have segs : ∀ s ∈ I.S, 0 ≤ s.at_ ∧ s.at_ + s.data.size ≤ I.p * 128 := fun s hs => by
  obtain ⟨h1, _, h3⟩ := segs_ok O.s (Int.le_refl 0) s hs
  exact ⟨h1, h3⟩
 have n1 := O.n1
 refine loop_for (J := fun i e τ => i ≤ I.S.length ∧ e = [(2, .pointer (some ⟨σ.size + 1, 0, none⟩)), (5, .pointer (some ⟨η.size, 0, none⟩)), (6, .int .i64 0), (22, .slice a1 I.S.length b1), (23, .int .i64 (I.S.length : Int)), (24, .int .i64 (i : Int))] ∧ Old η τ ∧ ∃ (u : Value) (ver : Nat), τ[η.size]? = some (.cells ver [u] (0, 0)) ∧ MemV τ u n ((I.S.take i).foldl (stepB n) (List.replicate (128 * n) 0)) ∧ ∀ q, baseOf u = some q → σ.size + 2 ≤ q ∧ q ≠ η.size) I.S.length
  ⟨by omega, rfl, oT, _, 1, b5, hM.Old oT, fun q hq => by have h8 := hbase q hq; have h9 : some vk = some q := hq; injection h9 with h9; omega⟩ ?_
 rintro i e τ hi ⟨_, rfl, oτ, u, ver, bτ, hMτ, hu⟩
 have hτ : η.size < τ.size := (Array.getElem?_eq_some_iff.1 bτ).1
 by_cases hlt : i < I.S.length
 ·have dl : decide ((i : Int) < (I.S.length : Int)) = true := by rw [decide_eq_true]; omega
  have hbd : (0:Int) ≤ (i:Int) ∧ (i:Int) < (I.S.length : Int) := by omega
  have hw1 : IntKind.wrap .i64 ((i:Int) + 1) = ((i + 1 : Nat) : Int) := by rw [wrap64' (by omega) (by omega)]; omega
  have hx : (I.S.map segV)[i]? = some (segV I.S[i]) := by simp [hlt]
  obtain ⟨b', off, rfl, h1⟩ := (h.S.Old (oS.trans oτ)).at hx
  have hsg := segs I.S[i] (by simp)
  have ht := List.take_succ_eq_append_getElem hlt
  generalize hEi : I.S[i] = s at h1 hsg ht
  have hr : ∀ M, rdN (ap τ M) ⟨b', off + i * 2, none⟩ 2 = some (segV s) := fun M => rdN_old h1
  have g5 : ∀ M, rdN (ap τ M) ⟨η.size, 0, none⟩ 1 = some [u] := fun M => rdb_of bτ .ap rfl
  obtain ⟨ua, uc, rfl⟩ := hMτ.w.slice
  rw [← ap_nil (σ := τ)]
  simp only [↓eD, eZ, ↓reduceIte, Nat.reduceEqDiff, Nat.reduceAdd, Nat.reduceMul, reduceCtorEq, Nat.reduceLeDiff, Int.reduceLT, Int.reduceLE, Int.reduceToNat, Int.reduceEq, Nat.reduceLT, dl, hbd, Int.toNat_natCast, hr, segV, g5, undef_eq]
  refine appK_of (write_app (hMτ.Old .ap) (by omega) (by omega) (by omega) (by omega)) ?_
  rintro _ τ2 ⟨o2, v', rfl, hM2, hb2⟩
  have hsz : (ap τ [.cells 1 [.int .i64 s.at_, .string s.data] (0, 0)]).size = τ.size + 1 := by simp [ap_size]
  have b2 : τ2[η.size]? = some (.cells ver [.slice ua n uc] (0, 0)) := (o2.2 _ (by omega)).trans ((ap_old hτ).trans bτ)
  obtain ⟨ua2, uc2, rfl⟩ := hM2.w.slice
  have k5 : wrN τ2 ⟨η.size, 0, none⟩ [.slice ua2 n uc2] = some (τ2.setIfInBounds η.size (.cells (ver + 1) [.slice ua2 n uc2] (0, 0))) := by
   rw [wrN_eq, if_neg (by simp), b2, wrc_cells, if_pos ⟨by simp, rfl⟩]
   rfl
  have hne : ∀ q, baseOf (.slice ua2 n uc2) = some q → σ.size + 2 ≤ q ∧ q ≠ η.size := fun q hq => by
   rcases hb2 q hq with h9 | h9
   ·omega
   ·exact hu q h9
  simp only [↓eD, eZ, ↓reduceIte, Nat.reduceEqDiff, Nat.reduceAdd, Nat.reduceMul, reduceCtorEq, Nat.reduceLeDiff, Int.reduceLT, Int.reduceLE, Int.reduceToNat, Int.reduceEq, Nat.reduceLT, k5, hw1, undef_eq]
  have OB : OldB η.size τ2 (τ2.setIfInBounds η.size (.cells (ver + 1) [.slice ua2 n uc2] (0, 0))) := ⟨by simp, fun q h1 h2 => get_set_ne (Ne.symm h2)⟩
  refine ⟨hlt, by omega, (((oτ.trans .ap).trans o2).set (Nat.le_refl _)), _, ver + 1, get_set b2, ⟨?_, ?_, ?_⟩, hne⟩
  ·rw [ht, List.foldl_append]
   exact Whl.oldB hM2.w (fun q hq => (hne q hq).2) OB (by omega)
  ·rw [ht, List.foldl_append]
   exact hM2.l
  ·rw [ht, List.foldl_append]
   exact hM2.b
 have : i = I.S.length := by omega
 subst this
 have dl : decide ((I.S.length : Int) < (I.S.length : Int)) = false := by rw [decide_eq_false]; omega
 rw [List.take_length] at hMτ
 obtain ⟨ua, uc, rfl⟩ := hMτ.w.slice
 have g5 := rdN_all (n := 1) bτ rfl
 have r1 : τ[σ.size + 1]? = some (.cells 0 [.slice none 0 0] (0, 0)) := (oτ.2 _ (by omega)).trans q1
 have k1 : wrN τ ⟨σ.size + 1, 0, none⟩ [.slice ua n uc] = some (τ.setIfInBounds (σ.size + 1) (.cells 1 [.slice ua n uc] (0, 0))) := by
  rw [wrN_eq, if_neg (by simp), r1, wrc_cells, if_pos ⟨by simp, rfl⟩]
  rfl
 have rf := rdN_all (n := 1) (get_set (k := .cells 1 [.slice ua n uc] (0, 0)) r1) rfl
 simp only [↓eD, eZ, ↓reduceIte, Nat.reduceEqDiff, Nat.reduceAdd, Nat.reduceMul, reduceCtorEq, Nat.reduceLeDiff, Int.reduceLT, Int.reduceLE, Int.reduceToNat, Int.reduceEq, Nat.reduceLT, dl, g5, k1, rf, undef_eq]
 have OB : OldB (σ.size + 1) τ (τ.setIfInBounds (σ.size + 1) (.cells 1 [.slice ua n uc] (0, 0))) := ⟨by simp, fun q h1 h2 => get_set_ne (Ne.symm h2)⟩
 exact ⟨(oS.trans oτ).set (by omega), _, rfl, ⟨Whl.oldB hMτ.w (fun q hq => by have := (hu q hq).1; omega) OB (by omega), hMτ.l, hMτ.b⟩, rfl⟩
def cpuV (pc k : Int) (w : Bool) : List Value := [.int .u32 pc, .int .u32 0, .int .u32 0, .int .u32 0, .int .u32 0, .int .u32 0, .int .u32 0, .int .u32 0, .int .u32 0, .int .u32 0, .int .u32 0, .int .u32 0, .int .u32 0, .int .u32 0, .int .u32 0, .int .u32 0, .int .u32 0, .int .u32 0, .int .u32 0, .int .u32 0, .int .u32 0, .int .u32 0, .int .u32 0, .int .u32 0, .int .u32 0, .int .u32 k, .bool false, .bool w, .bool false, .int .i64 0]
def cpusF (e : Int) (n : Nat) : List (List Value) := (List.range n).map fun (k : Nat) => cpuV (IntKind.wrap .u32 e) (k : Int) (decide (0 < k))
theorem cpusF_succ {e : Int} {n : Nat} : cpusF e (n + 1) = cpusF e n ++ [cpuV (IntKind.wrap .u32 e) (n : Int) (decide (0 < n))] := by simp [cpusF, List.range_succ]
def cpuE (I : Img) (n : Int) : Int := if checkI I ≠ 0 then checkI I else if n < 1 ∨ n > 4 then 1 else 0
def cpuN (I : Img) (n : Int) : Nat := if cpuE I n = 0 then n.toNat else 0
theorem lcpus_app {σ : H} {l : List Value} {I : Img} {a1 a2 : Option Addr} {b1 b2 : Nat} {n : Int} (h : ImgR σ l I a1 b1 a2 b2) :
  App Tryd.prog (.func 12) #[] #[.agg l.toArray, .int .i64 n] σ fun w σ' => Old σ σ' ∧ ∃ u, w = .tuple #[u, .int .i64 (cpuE I n)] ∧ Grown σ σ' 30 u (cpusF I.e (cpuN I n)).flatten (cpuN I n) := by
 refine App.of_sem mixed Tryd.func12 t12 k12 r12 (Nat.le_of_ble_eq_true rfl) ?_
 have ll : l.length = 4 := by rw [h.l]; rfl
 have tl : l.take 4 = l := List.take_of_length_le (by omega)
 have l0 : l[0]? = some (.int .i64 I.e) := by rw [h.l]; rfl
 rw [← ap_nil (σ := σ)]
 unfold s12
 simp only [↓eD, eZ, ↓reduceIte, Nat.reduceEqDiff, Nat.reduceAdd, Nat.reduceMul, reduceCtorEq, Nat.reduceLeDiff, Int.reduceLT, Int.reduceLE, Int.reduceToNat, Int.reduceEq, Nat.reduceLT, ll, tl, undef_eq]
 refine appK_at (lcheck_app (h.Old .ap)) ?_
 by_cases hc : checkI I = 0
 case neg =>
  have d1 : decide (checkI I = 0) = false := decide_eq_false hc
  have fE : cpuE I n = checkI I := if_pos hc
  have fN : cpuN I n = 0 := if_neg (by rw [fE]; exact hc)
  simp only [↓eD, eZ, ↓reduceIte, Nat.reduceEqDiff, Nat.reduceAdd, Nat.reduceMul, reduceCtorEq, Nat.reduceLeDiff, Int.reduceLT, Int.reduceLE, Int.reduceToNat, Int.reduceEq, Nat.reduceLT, d1, fE, undef_eq]
  refine ⟨.ap, _, rfl, ?_⟩
  rw [fN]
  exact .nil
 have d1 : decide (checkI I = 0) = true := decide_eq_true hc
 have f0 : cpuE I n = if n < 1 ∨ n > 4 then 1 else 0 := if_neg (fun q => q hc)
 by_cases g1 : n < 1
 ·have e1 : decide (n < 1) = true := decide_eq_true g1
  have fE : cpuE I n = 1 := by rw [f0, if_pos (.inl g1)]
  have fN : cpuN I n = 0 := if_neg (by rw [fE]; decide)
  simp only [↓eD, eZ, ↓reduceIte, Nat.reduceEqDiff, Nat.reduceAdd, Nat.reduceMul, reduceCtorEq, Nat.reduceLeDiff, Int.reduceLT, Int.reduceLE, Int.reduceToNat, Int.reduceEq, Nat.reduceLT, d1, e1, fE, undef_eq]
  refine ⟨.ap, _, rfl, ?_⟩
  rw [fN]
  exact .nil
 have e1 : decide (n < 1) = false := decide_eq_false g1
 by_cases g2 : 4 < n
 ·have e2 : decide (4 < n) = true := decide_eq_true g2
  have fE : cpuE I n = 1 := by rw [f0, if_pos (.inr g2)]
  have fN : cpuN I n = 0 := if_neg (by rw [fE]; decide)
  simp only [↓eD, eZ, ↓reduceIte, Nat.reduceEqDiff, Nat.reduceAdd, Nat.reduceMul, reduceCtorEq, Nat.reduceLeDiff, Int.reduceLT, Int.reduceLE, Int.reduceToNat, Int.reduceEq, Nat.reduceLT, d1, e1, e2, fE, undef_eq]
  refine ⟨.ap, _, rfl, ?_⟩
  rw [fN]
  exact .nil
 have e2 : decide (4 < n) = false := decide_eq_false g2
 have fE : cpuE I n = 0 := by rw [f0, if_neg (by omega)]
 obtain ⟨N, rfl⟩ : ∃ N : Nat, n = (N : Int) := ⟨n.toNat, by omega⟩
 have fN : cpuN I (N : Int) = N := by unfold cpuN; rw [fE]; simp
 rw [fE, fN]
 simp only [↓eD, eZ, ↓reduceIte, Nat.reduceEqDiff, Nat.reduceAdd, Nat.reduceMul, reduceCtorEq, Nat.reduceLeDiff, Int.reduceLT, Int.reduceLE, Int.reduceToNat, Int.reduceEq, Nat.reduceLT, d1, e1, e2, undef_eq]
 obtain ⟨T, hT⟩ : ∃ T, T = ap σ [.cells 0 l (0, 0)] := ⟨_, rfl⟩
 rw [← hT]
 have oT : Old σ T := by rw [hT]; exact .ap
 have sT : T.size = σ.size + 1 := by rw [hT]; simp [ap_size]
 have q0 : T[σ.size]? = some (.cells 0 l (0, 0)) := by rw [hT, ap_new0]; rfl
 clear hT
 refine loop_for (J := fun i e τ => i ≤ N ∧ ∃ u, e = [(2, .pointer (some ⟨σ.size, 0, none⟩)), (7, u), (21, .int .i64 (N : Int)), (22, .int .i64 (i : Int))] ∧ Old T τ ∧ Grown T τ 30 u (cpusF I.e i).flatten i) N ⟨by omega, _, rfl, .refl, .nil⟩ ?_
 rintro i e τ hi ⟨_, u, rfl, oτ, hg⟩
 have hTτ := oτ.1
 by_cases hlt : i < N
 ·have dl : decide ((i : Int) < (N : Int)) = true := by rw [decide_eq_true]; omega
  have hw1 : IntKind.wrap .i64 ((i:Int) + 1) = ((i + 1 : Nat) : Int) := by rw [wrap64' (by omega) (by omega)]; omega
  have wi : IntKind.wrap .u32 (i : Int) = (i : Int) := wrap_u32 (by omega) (by omega)
  have g0 : ∀ M, rd1 (ap τ M) ⟨σ.size, 0, none⟩ = some (.int .i64 I.e) := fun M => rd1_of q0 (oτ.trans .ap) l0
  have dw : decide ((0 : Int) < (i : Int)) = decide (0 < i) := decide_eq_decide.2 (by omega)
  have n9 : ((9 : Nat) : Int) = 9 := rfl
  have tn8 : Int.toNat 8 = 8 := rfl
  obtain ⟨E, hE⟩ : ∃ E, E = IntKind.wrap .u32 I.e := ⟨_, rfl⟩
  rw [← ap_nil (σ := τ)]
  simp only [↓eD, eZ, ↓reduceIte, Nat.reduceEqDiff, Nat.reduceAdd, Nat.reduceMul, reduceCtorEq, Nat.reduceLeDiff, Int.reduceLT, Int.reduceLE, Int.reduceToNat, Int.reduceEq, Nat.reduceLT, dl, g0, wi, dw, ← hE, n9, tn8, undef_eq]
  have hg1 := hg.old (Old.ap (l := [.cells 2 (cpuV E (i : Int) (decide (0 < i))) (0, 0), .cells 0 (cpuV E (i : Int) (decide (0 < i))) (0, 0)]))
  have xc : xcells (ap τ [.cells 2 (cpuV E (i : Int) (decide (0 < i))) (0, 0), .cells 0 (cpuV E (i : Int) (decide (0 < i))) (0, 0)]) 30 (.slice (some ⟨τ.size + 1, 0, none⟩) 1 1) = some (1, cpuV E (i : Int) (decide (0 < i))) := by
   show (rdN (ap τ _) ⟨τ.size + 1, 0, none⟩ (1 * 30)).map (1, ·) = _
   rw [rdN_all (n := 1 * 30) (by rw [ap_new]; rfl) rfl]
   rfl
  obtain ⟨v6, τ2, ha, A⟩ := append_grown (bytes := 120) hg1 (by omega) (by rw [ap_size]; omega) xc rfl rfl (by omega) (by omega)
  refine onV_of ha ?_
  simp only [↓eD, eZ, ↓reduceIte, Nat.reduceEqDiff, Nat.reduceAdd, Nat.reduceMul, reduceCtorEq, Nat.reduceLeDiff, Int.reduceLT, Int.reduceLE, Int.reduceToNat, Int.reduceEq, Nat.reduceLT, hw1, undef_eq]
  refine ⟨hlt, by omega, v6, rfl, A.Old hg1 (oτ.trans .ap), ?_⟩
  have := A.grown
  rw [cpusF_succ, List.flatten_append, ← hE]
  simpa using this
 have : i = N := by omega
 subst this
 have dl : decide ((i : Int) < (i : Int)) = false := by rw [decide_eq_false]; omega
 simp only [↓eD, eZ, ↓reduceIte, Nat.reduceEqDiff, Nat.reduceAdd, Nat.reduceMul, reduceCtorEq, Nat.reduceLeDiff, Int.reduceLT, Int.reduceLE, Int.reduceToNat, Int.reduceEq, Nat.reduceLT, dl, undef_eq]
 exact ⟨oT.trans oτ, _, rfl, hg.from oT.1⟩
end Go.Proofs.YtajchhghjjlahaaDoor
