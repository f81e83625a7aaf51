/- Walks and plain laws. Conditions: none. -/
import Derived.Test.YtjgbbhfihcmphaaDoorBodiesL8
set_option linter.all false
set_option maxRecDepth 10000
set_option maxHeartbeats 4000000
namespace Go.Proofs.YtjgbbhfihcmphaaDoor
open Go Go.Cn Go.RowKit
inductive Tr where
 |lf (i : Nat)
 |nd (a b : Tr)
def Tr.same : Tr → Tr → Bool
 |.lf i, .lf j => i == j
 |.nd a b, .nd c d => Tr.same a c && Tr.same b d
 |_, _ => false
theorem Tr.same_eq : ∀ {a b : Tr}, Tr.same a b = true → a = b
 |.lf i, .lf j, h => by simp [Tr.same] at h; rw [h]
 |.nd a b, .nd c d, h => by
  simp only [Tr.same, Bool.and_eq_true] at h
  rw [Tr.same_eq h.1, Tr.same_eq h.2]
 |.lf _, .nd _ _, h => by simp [Tr.same] at h
 |.nd _ _, .lf _, h => by simp [Tr.same] at h
def sameL : List Tr → List Tr → Bool
 |[], [] => true
 |a :: r, b :: q => Tr.same a b && sameL r q
 |_, _ => false
theorem sameL_eq : ∀ {a b : List Tr}, sameL a b = true → a = b
 |[], [], _ => rfl
 |a :: r, b :: q, h => by
  simp only [sameL, Bool.and_eq_true] at h
  rw [Tr.same_eq h.1, sameL_eq h.2]
 |[], _ :: _, h => by simp [sameL] at h
 |_ :: _, [], h => by simp [sameL] at h
def Tr.ev (L : List (List Int)) : Tr → List Int
 |.lf i => L.getD i []
 |.nd a b => nodeF (a.ev L) (b.ev L)
def rootT : Nat → Nat → Nat → Tr
 |0, off, _ => .lf off
 |f + 1, off, n => if n ≤ 1 then .lf off else .nd (rootT f off (splitN n)) (rootT f (off + splitN n) (n - splitN n))
def pkT : Nat → Nat → Nat → List Tr
 |0, _, _ => []
 |f + 1, off, n => if n = 0 then [] else rootT 41 off (splitN (n + 1)) :: pkT f (off + splitN (n + 1)) (n - splitN (n + 1))
def stepT (T : List Tr) (n : Nat) : List Tr := T.take (T.length - tz1 n) ++ [(T.drop (T.length - tz1 n)).foldr .nd (.lf n)]
def topT : List Tr → Tr
 |[] => .lf 0
 |a :: r => (a :: r).dropLast.foldr .nd ((a :: r).getLast (by simp))
theorem grow_ok : ∀ k : Fin 41, sameL (stepT (pkT 41 0 k.val) k.val) (pkT 41 0 (k.val + 1)) = true ∧ (pkT 41 0 k.val).length = onesF k.val ∧ (k.val = 0 ∨ ((pkT 41 0 k.val).isEmpty = false ∧ Tr.same (topT (pkT 41 0 k.val)) (rootT 41 0 k.val) = true)) := by decide +kernel
theorem root_ev {L : List (List Int)} : ∀ (f : Nat) (M : List (List Int)) (off : Nat), M.length ≤ f → 0 < M.length → (∀ i, i < M.length → M.getD i [] = L.getD (off + i) []) → rootF M = (rootT f off M.length).ev L
 |0, M, off, h, h0, _ => by omega
 |f + 1, M, off, h, h0, hM => by
  rw [rootF, dif_neg (by omega), rootT]
  by_cases h1 : M.length = 1
  ·rw [dif_pos h1, if_pos (by omega)]
   exact hM 0 (by omega)
  ·rw [dif_neg h1, if_neg (by omega)]
   have hs := splitN_spec (n := M.length) (by omega)
   show _ = nodeF _ _
   have e1 := root_ev f (M.take (splitN M.length)) off (by rw [List.length_take]; omega) (by rw [List.length_take]; omega) (fun i hi => by
    rw [List.length_take] at hi
    rw [← hM i (by omega), List.getD_eq_getElem?_getD, List.getElem?_take, if_pos (by omega), List.getD_eq_getElem?_getD])
   have e2 := root_ev f (M.drop (splitN M.length)) (off + splitN M.length) (by rw [List.length_drop]; omega) (by rw [List.length_drop]; omega) (fun i hi => by
    rw [List.length_drop] at hi
    rw [Nat.add_assoc, ← hM (splitN M.length + i) (by omega), List.getD_eq_getElem?_getD, List.getElem?_drop, List.getD_eq_getElem?_getD])
   rw [List.length_take, Nat.min_eq_left (by omega)] at e1
   rw [List.length_drop] at e2
   rw [e1, e2]
def pkL (L : List (List Int)) (k : Nat) : List (List Int) := (pkT 41 0 k).map (Tr.ev L)
theorem foldr_ev {L : List (List Int)} {t : Tr} : ∀ {T : List Tr}, (T.map (Tr.ev L)).foldr nodeF (t.ev L) = (T.foldr .nd t).ev L
 |[] => rfl
 |a :: r => by
  rw [List.map_cons, List.foldr_cons, foldr_ev]
  rfl
theorem pkL_len {L : List (List Int)} {k : Nat} (h : k ≤ 40) : (pkL L k).length = onesF k := by
 unfold pkL
 rw [List.length_map]
 exact (grow_ok ⟨k, by omega⟩).2.1
theorem pkL_step {L : List (List Int)} {k : Nat} (h : k < 40) (hk : k < L.length) : appE (k : Int) (pkL L k) = 0 ∧ appN (k : Int) (pkL L k) = ((k + 1 : Nat) : Int) ∧ appT (k : Int) (pkL L k) (L[k]) = pkL L (k + 1) := by
 have hf : formedF (k : Int) (pkL L k) = true := by
  unfold formedF
  rw [Int.toNat_natCast, pkL_len (by omega)]
  exact decide_eq_true ⟨by omega, by omega, rfl⟩
 have hE : appE (k : Int) (pkL L k) = 0 := by unfold appE; rw [hf, if_pos rfl, if_neg (by omega)]
 refine ⟨hE, by unfold appN; rw [hE]; simp, ?_⟩
 unfold appT keepF
 rw [hE, if_pos rfl, Int.toNat_natCast]
 have hst := sameL_eq (grow_ok ⟨k, by omega⟩).1
 simp only at hst
 unfold pkL
 rw [← hst, stepT, List.length_map, List.map_append, List.map_take, ← List.map_drop, List.map_cons, List.map_nil, ← foldr_ev]
 congr 3
 show L[k] = L.getD k []
 rw [List.getD_eq_getElem?_getD, List.getElem?_eq_getElem hk]
 rfl
theorem pkL_top {L : List (List Int)} {k : Nat} (h : k ≤ 40) (hk : k ≤ L.length) : topE (k : Int) (pkL L k) = 0 ∧ topD (k : Int) (pkL L k) = rootF (L.take k) := by
 have hf : formedF (k : Int) (pkL L k) = true := by
  unfold formedF
  rw [Int.toNat_natCast, pkL_len h]
  exact decide_eq_true ⟨by omega, by omega, rfl⟩
 refine ⟨by unfold topE; rw [hf]; rfl, ?_⟩
 unfold topD
 rw [hf, if_pos rfl]
 by_cases h0 : k = 0
 ·subst h0
  have e1 : rootF ([] : List (List Int)) = emptyF := by rw [rootF]; rfl
  have e2 : topF (pkL L 0) = emptyF := by unfold topF; rfl
  rw [List.take_zero, e1, e2]
 ·obtain ⟨hne, ht⟩ := (grow_ok ⟨k, by omega⟩).2.2.resolve_left h0
  replace ht := Tr.same_eq ht
  simp only at ht hne
  have hl : (L.take k).length = k := by rw [List.length_take]; omega
  have hr := root_ev (L := L) 41 (L.take k) 0 (by omega) (by omega) (fun i hi => by
   rw [hl] at hi
   rw [Nat.zero_add, List.getD_eq_getElem?_getD, List.getElem?_take, if_pos hi, List.getD_eq_getElem?_getD])
  rw [hr, hl, ← ht]
  unfold pkL
  cases hT : pkT 41 0 k with
  |nil => rw [hT] at hne; cases hne
  |cons a r =>
   rw [topF, dif_neg (by simp), topT]
   rw [List.getLast_map (by simp), ← List.map_dropLast]
   exact foldr_ev
theorem pkL_dig {L : List (List Int)} (hL : ∀ d ∈ L, d.length = 16) : ∀ {k : Nat}, k ≤ 40 → k ≤ L.length → ∀ d ∈ pkL L k, d.length = 16
 |0, _, _, d, h => by cases h
 |k + 1, h, hk, d, hd => by
  have hst := (pkL_step (L := L) (k := k) (by omega) (by omega)).2.2
  rw [← hst] at hd
  unfold appT at hd
  rw [(pkL_step (L := L) (k := k) (by omega) (by omega)).1, if_pos rfl] at hd
  rcases List.mem_append.1 hd with hd | hd
  ·exact pkL_dig hL (k := k) (by omega) (by omega) d (List.mem_of_mem_take hd)
  ·rw [List.mem_singleton] at hd
   rw [hd]
   exact fold_len (fun x hx => pkL_dig hL (k := k) (by omega) (by omega) x (List.mem_of_mem_drop hx)) (hL _ (List.getElem_mem _))
set_option maxHeartbeats 8000000
attribute [local irreducible] evL sem onG onI onV
theorem onesF_41 {k : Nat} (h : k ≤ 40) : onesF k ≤ 6 := onesF_le (k := 6) (by omega)
theorem law8 {σ : H} {v : Value} {L : List (List Int)} (hL : Ls σ v L) (hG : HGlob σ) (hR : Glob σ) (hB : BGlob σ) :
  App Tryd.prog (.func 8) #[] #[v] σ fun w σ' => Old σ σ' ∧ w = .bool true := by
 refine App.of_sem mixed Tryd.func8 t8 k8 r8 (Nat.le_of_ble_eq_true rfl) ?_
 obtain ⟨a, c, rfl⟩ := hL.slice
 unfold s8
 by_cases h1 : 40 < L.length
 ·have e1 : decide ((40 : Int) < (L.length : Int)) = true := by rw [decide_eq_true]; omega
  simp only [↓eD, eZ, ↓reduceIte, Nat.reduceEqDiff, Nat.reduceAdd, Nat.reduceMul, reduceCtorEq, Nat.reduceLeDiff, Int.reduceLT, Int.reduceLE, Int.reduceToNat, Int.reduceEq, Nat.reduceLT, e1, undef_eq]
  refine appK_of (sanity_app hG hR hB) ?_
  rintro _ τ ⟨o, rfl⟩
  simp only [↓eD, eZ, ↓reduceIte, Nat.reduceEqDiff, Nat.reduceAdd, Nat.reduceMul, reduceCtorEq, Nat.reduceLeDiff, Int.reduceLT, Int.reduceLE, Int.reduceToNat, Int.reduceEq, Nat.reduceLT, undef_eq]
  exact o
 have e1 : decide ((40 : Int) < (L.length : Int)) = false := by rw [decide_eq_false]; omega
 have hbig : L.length < big := Nat.lt_of_le_of_lt (show L.length ≤ 40 by omega) (by decide)
 rw [← ap_nil (σ := σ)]
 simp only [↓eD, eZ, ↓reduceIte, Nat.reduceEqDiff, Nat.reduceAdd, Nat.reduceMul, reduceCtorEq, Nat.reduceLeDiff, Int.reduceLT, Int.reduceLE, Int.reduceToNat, Int.reduceEq, Nat.reduceLT, e1, undef_eq]
 refine loop_for (J := fun i e η => i ≤ L.length ∧ e = [(0, .slice a L.length c), (3, .pointer (some ⟨σ.size, 0, none⟩)), (4, .int .i64 (i : Int))] ∧ Old σ η ∧
   ∃ ver u, η[σ.size]? = some (.cells ver [.int .i64 (i : Int), u] (0, 0)) ∧ Grown (sized (σ.size + 1)) η 16 u ((pkL L i).map digC).flatten (pkL L i).length) (L.length + 1)
  ⟨by omega, rfl, .ap, 0, _, by rw [ap_new0]; rfl, Grown.nil⟩ ?_
 rintro i e η _ ⟨hi, rfl, oη, ver, u, hp, hg⟩
 have lη := (Array.getElem?_eq_some_iff.1 hp).1
 have dl : decide ((i : Int) ≤ (L.length : Int)) = true := by rw [decide_eq_true]; omega
 have hdg := pkL_dig hL.d (k := i) (by omega) hi
 have hlen := pkL_len (L := L) (k := i) (by omega)
 have h6 := onesF_41 (k := i) (by omega)
 obtain ⟨tp1, tp2⟩ := pkL_top (L := L) (k := i) (by omega) hi
 have hlsu := grown_ls hg hdg
 obtain ⟨ua, uc, rfl⟩ := hg.slice
 have r3 : ∀ M, rdN (ap η M) ⟨σ.size, 0, none⟩ 2 = some [.int .i64 (i : Int), .slice ua (pkL L i).length uc] := fun M => rdb_of hp .ap rfl
 have r30 : ∀ M, rd1 (ap η M) ⟨σ.size, 0, none⟩ = some (.int .i64 (i : Int)) := fun M => rd1_of hp .ap rfl
 have r31 : ∀ M, rd1 (ap η M) ⟨σ.size, 1, none⟩ = some (.slice ua (pkL L i).length uc) := fun M => rd1_of hp .ap rfl
 have D16 := rootF_len (L := L.take i) (fun d hd => hL.d d (List.mem_of_mem_take hd))
 obtain ⟨v1, s1, L1, _⟩ := hL.sub (lo := 0) (hi := i) (xl := none) (xh := some (.int .i64 (i : Int))) (xm := none) (by omega) (by omega) (by omega) (.inr ⟨rfl, rfl⟩) (.inl rfl) (.inl rfl)
 rw [List.drop_zero] at L1
 have hroot : ∀ {τ : H}, Old σ τ → App Tryd.prog (.func 15) #[] #[v1] τ fun w σ' => σ' = τ ∧ w = .agg (digC (rootF (L.take i))).toArray := fun h => lroot_app (L1.Old h) (by rw [List.length_take]; omega) (hG.Old h)
 have htop : ∀ {τ : H}, Old η τ → App Tryd.prog (.func 29) #[] #[.agg #[.int .i64 (i : Int), .slice ua (pkL L i).length uc]] τ fun w σ' => σ' = τ ∧ w = .tuple #[.agg (digC (rootF (L.take i))).toArray, .int .i64 0] := fun h => by
  have := ltop_app (n := (i : Int)) (hlsu.Old h) (by omega) (hG.Old (oη.trans h))
  rw [tp1, tp2] at this
  exact this
 generalize rootF (L.take i) = D at D16 hroot htop
 obtain ⟨d1, d2, d3, d4⟩ := dig_len D16
 have q1 : aggEq (List.replicate 16 (.int .u8)) (digC D) (digC D) = some true := by rw [aggEq_dig D16 D16, decide_eq_true rfl]
 have ei : decide ((i : Int) = (i : Int)) = true := decide_eq_true rfl
 rw [← ap_nil (σ := η)]
 simp only [↓eD, eZ, ↓reduceIte, Nat.reduceEqDiff, Nat.reduceAdd, Nat.reduceMul, reduceCtorEq, Nat.reduceLeDiff, Int.reduceLT, Int.reduceLE, Int.reduceToNat, Int.reduceEq, Nat.reduceLT, dl, r3, undef_eq]
 refine appK_at (htop .ap) ?_
 simp only [↓eD, eZ, ↓reduceIte, Nat.reduceEqDiff, Nat.reduceAdd, Nat.reduceMul, reduceCtorEq, Nat.reduceLeDiff, Int.reduceLT, Int.reduceLE, Int.reduceToNat, Int.reduceEq, Nat.reduceLT, rep16, d1, d2, d3, d4, digC_one, s1, Bool.not_true, undef_eq]
 refine appK_at (hroot (oη.trans .ap)) ?_
 simp only [↓eD, eZ, ↓reduceIte, Nat.reduceEqDiff, Nat.reduceAdd, Nat.reduceMul, reduceCtorEq, Nat.reduceLeDiff, Int.reduceLT, Int.reduceLE, Int.reduceToNat, Int.reduceEq, Nat.reduceLT, d1, d2, q1, r30, ei, Bool.not_true, undef_eq]
 by_cases hlt : i = L.length
 ·have e2 : decide ((i : Int) = (L.length : Int)) = true := by rw [decide_eq_true]; omega
  simp only [↓eD, eZ, ↓reduceIte, Nat.reduceEqDiff, Nat.reduceAdd, Nat.reduceMul, reduceCtorEq, Nat.reduceLeDiff, Int.reduceLT, Int.reduceLE, Int.reduceToNat, Int.reduceEq, Nat.reduceLT, e2, undef_eq]
  refine appK_of (sanity_app (hG.Old (oη.trans .ap)) (hR.Old (oη.trans .ap)) (hB.Old (oη.trans .ap))) ?_
  rintro _ τ ⟨o, rfl⟩
  simp only [↓eD, eZ, ↓reduceIte, Nat.reduceEqDiff, Nat.reduceAdd, Nat.reduceMul, reduceCtorEq, Nat.reduceLeDiff, Int.reduceLT, Int.reduceLE, Int.reduceToNat, Int.reduceEq, Nat.reduceLT, undef_eq]
  rw [ap_nil]
  exact oη.trans (Old.ap.trans o)
 have e2 : decide ((i : Int) = (L.length : Int)) = false := by rw [decide_eq_false]; omega
 simp only [↓eD, eZ, ↓reduceIte, Nat.reduceEqDiff, Nat.reduceAdd, Nat.reduceMul, reduceCtorEq, Nat.reduceLeDiff, Int.reduceLT, Int.reduceLE, Int.reduceToNat, Int.reduceEq, Nat.reduceLT, e2, r31, undef_eq]
 have hs1 : (sized (η.size + 1)).size = η.size + 1 := sized_size
 have hfl : ((pkL L i).map digC).flatten.length = (pkL L i).length * 16 := by rw [flatten_length (dig_rows hdg), List.length_map]
 have g0 : Grown (sized (η.size + 1)) (ap η [.cells 1 (digC D) (0, 0), .cells 0 [] (0, 0)]) 16 (.slice (some ⟨η.size + 1, 0, none⟩) 0 0) [] 0 := Grown.lit (ver := 0) rfl (by decide) (by omega) (by rw [ap_new]; rfl)
 obtain ⟨w, Y, ha, A⟩ := append_grown (bytes := 16) g0 (by omega) (by rw [hs1, ap_size]; simp) (hlsu.Old .ap).x hfl dig_ones (by omega) (by omega)
 refine onV_of ha ?_
 have oY : Old η Y := A.Old' g0 (by omega) .ap
 have gk := A.grown
 rw [List.nil_append, Nat.zero_add] at gk
 have lsk := grown_ls gk hdg
 have hpY := (oY.2 _ lη).trans hp
 obtain ⟨wa, wc, rfl⟩ := gk.slice
 obtain ⟨st1, st2, st3⟩ := pkL_step (L := L) (k := i) (by omega) (by omega)
 obtain ⟨ab, ao, rfl, hr⟩ := ((hL.Old oη).Old oY).at (i := i) (by omega)
 have hbd : (0:Int) ≤ (i:Int) ∧ (i:Int) < (L.length : Int) := by omega
 have L16 := hL.d (L[i]'(by omega)) (List.getElem_mem _)
 generalize L[i]'(by omega) = d at hr L16 st3
 have hr' : ∀ M, rdN (ap Y M) ⟨ab, ao + i * 16, none⟩ 16 = some (digC d) := fun M => rdN_old hr
 have rY : ∀ M, rdN (ap Y M) ⟨σ.size, 0, none⟩ 2 = some [.int .i64 (i : Int), .slice ua (pkL L i).length uc] := fun M => rdb_of hpY .ap rfl
 rw [← ap_nil (σ := Y)]
 simp only [↓eD, eZ, ↓reduceIte, Nat.reduceEqDiff, Nat.reduceAdd, Nat.reduceMul, reduceCtorEq, Nat.reduceLeDiff, Int.reduceLT, Int.reduceLE, Int.reduceToNat, Int.reduceEq, Nat.reduceLT, rY, hbd, Int.toNat_natCast, hr', undef_eq]
 have oσY := oη.trans oY
 refine appK_of (lappend_app ((hlsu.Old oY).Old .ap) L16 (by omega) (hG.Old (oσY.trans .ap)) (hB.Old (oσY.trans .ap))) ?_
 rintro _ η2 ⟨o2, v, rfl, hg2, _⟩
 rw [st3] at hg2
 rw [st1, st2]
 have lY := (Array.getElem?_eq_some_iff.1 hpY).1
 have sX : (ap Y [.cells 0 [.int .i64 0, .slice none 0 0] (0, 0)]).size = Y.size + 1 := by simp [ap_size]
 have s2' := o2.1
 have h19 : η2[Y.size]? = some (.cells 0 [.int .i64 0, .slice none 0 0] (0, 0)) := (o2.2 _ (by omega)).trans (by rw [ap_new0]; rfl)
 have h17 : η2[σ.size]? = some (.cells ver [.int .i64 (i : Int), .slice ua (pkL L i).length uc] (0, 0)) := (o2.2 _ (by omega)).trans ((ap_old lY).trans hpY)
 obtain ⟨va, vc, rfl⟩ := hg2.slice
 have k1 : wrN η2 ⟨Y.size, 0, none⟩ [.int .i64 ((i + 1 : Nat) : Int), .slice va (pkL L (i + 1)).length vc] = some (η2.setIfInBounds Y.size (.cells 1 [.int .i64 ((i + 1 : Nat) : Int), .slice va (pkL L (i + 1)).length vc] (0, 0))) := by
  rw [wrN_eq, if_neg (by simp), h19, wrc_cells, if_pos ⟨by simp, rfl⟩]
  rfl
 have hne : Y.size ≠ σ.size := by omega
 have z0 := get_set (k := .cells 1 [.int .i64 ((i + 1 : Nat) : Int), .slice va (pkL L (i + 1)).length vc] (0, 0)) h19
 have z1 := (get_set_ne (k := .cells 1 [.int .i64 ((i + 1 : Nat) : Int), .slice va (pkL L (i + 1)).length vc] (0, 0)) hne).trans h17
 have oZ : Old η (η2.setIfInBounds Y.size (.cells 1 [.int .i64 ((i + 1 : Nat) : Int), .slice va (pkL L (i + 1)).length vc] (0, 0))) := (((oY.trans .ap).trans o2)).set oY.1
 have oYZ : Old Y (η2.setIfInBounds Y.size (.cells 1 [.int .i64 ((i + 1 : Nat) : Int), .slice va (pkL L (i + 1)).length vc] (0, 0))) := (Old.ap.trans o2).set (Nat.le_refl _)
 have gZ := hg2.set (b := Y.size) (k := .cells 1 [.int .i64 ((i + 1 : Nat) : Int), .slice va (pkL L (i + 1)).length vc] (0, 0)) (by omega)
 have sZ : (η2.setIfInBounds Y.size (.cells 1 [.int .i64 ((i + 1 : Nat) : Int), .slice va (pkL L (i + 1)).length vc] (0, 0))).size = η2.size := by simp
 simp only [↓eD, eZ, ↓reduceIte, Nat.reduceEqDiff, Nat.reduceAdd, Nat.reduceMul, reduceCtorEq, Nat.reduceLeDiff, Int.reduceLT, Int.reduceLE, Int.reduceToNat, Int.reduceEq, Nat.reduceLT, k1, Bool.not_true, undef_eq]
 generalize η2.setIfInBounds Y.size (.cells 1 [.int .i64 ((i + 1 : Nat) : Int), .slice va (pkL L (i + 1)).length vc] (0, 0)) = Z at z0 z1 oZ oYZ gZ sZ
 have y0 : rd1 Z ⟨σ.size, 0, none⟩ = some (.int .i64 (i : Int)) := rd1_of z1 .refl rfl
 have y1 : rd1 Z ⟨σ.size, 1, none⟩ = some (.slice ua (pkL L i).length uc) := rd1_of z1 .refl rfl
 have y2 := rdN_all (n := 2) z0 rfl
 have hw : IntKind.wrap .i64 ((i:Int) + 1) = ((i + 1 : Nat) : Int) := by rw [wrap64' (by omega) (by omega)]; omega
 have k3 : wrN Z ⟨σ.size, 0, none⟩ [.int .i64 ((i + 1 : Nat) : Int), .slice va (pkL L (i + 1)).length vc] = some (Z.setIfInBounds σ.size (.cells (ver + 1) [.int .i64 ((i + 1 : Nat) : Int), .slice va (pkL L (i + 1)).length vc] (0, 0))) := by
  rw [wrN_eq, if_neg (by simp), z1, wrc_cells, if_pos ⟨by simp, rfl⟩]
  rfl
 simp only [↓eD, eZ, ↓reduceIte, Nat.reduceEqDiff, Nat.reduceAdd, Nat.reduceMul, reduceCtorEq, Nat.reduceLeDiff, Int.reduceLT, Int.reduceLE, Int.reduceToNat, Int.reduceEq, Nat.reduceLT, y1, undef_eq]
 refine appK_at (same_app (hlsu.Old oZ) (lsk.Old oYZ) (by omega)) ?_
 rw [decide_eq_true rfl]
 simp only [↓eD, eZ, ↓reduceIte, Nat.reduceEqDiff, Nat.reduceAdd, Nat.reduceMul, reduceCtorEq, Nat.reduceLeDiff, Int.reduceLT, Int.reduceLE, Int.reduceToNat, Int.reduceEq, Nat.reduceLT, y0, ei, y2, k3, hw, Bool.not_true, undef_eq]
 refine ⟨by omega, by omega, (oη.trans oZ).set (Nat.le_refl _), ver + 1, _, get_set z1, ?_⟩
 exact (gZ.set (by omega)).from (by rw [sized_size]; omega)
end Go.Proofs.YtjgbbhfihcmphaaDoor
