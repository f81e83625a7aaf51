/- Walks of the functions that the claim reaches. Conditions: none. -/
import Derived.Test.YtjgbbhfihcmphaaDoorNh
set_option linter.all false
set_option maxRecDepth 10000
set_option maxHeartbeats 4000000
namespace Go.Proofs.YtjgbbhfihcmphaaDoor
open Go Go.Cn Go.RowKit
theorem sp2 : splitN 2 = 1 := by decide +kernel
theorem sp3 : splitN 3 = 2 := by decide +kernel
section
variable {A B C : List Int}
theorem root1 : rootF [A] = A := by rw [rootF]; rfl
theorem root2 : rootF [A, B] = nodeF A B := by
 rw [rootF, dif_neg (by simp), dif_neg (by simp)]
 simp only [List.length_cons, List.length_nil, Nat.zero_add, Nat.reduceAdd, sp2, List.take_succ_cons, List.take_zero, List.drop_succ_cons, List.drop_zero, root1]
theorem root3 : rootF [A, B, C] = nodeF (nodeF A B) C := by
 rw [rootF, dif_neg (by simp), dif_neg (by simp)]
 simp only [List.length_cons, List.length_nil, Nat.zero_add, Nat.reduceAdd, sp3, List.take_succ_cons, List.take_zero, List.drop_succ_cons, List.drop_zero, root1, root2]
theorem incl1 : inclF [A] 0 = [] := by rw [inclF]; rfl
theorem incl20 : inclF [A, B] 0 = [B] := by
 rw [inclF, dif_neg (by simp)]
 simp only [List.length_cons, List.length_nil, Nat.zero_add, Nat.reduceAdd, sp2, List.take_succ_cons, List.take_zero, List.drop_succ_cons, List.drop_zero, root1, incl1]
 rfl
theorem incl30 : inclF [A, B, C] 0 = [B, C] := by
 rw [inclF, dif_neg (by simp)]
 simp only [List.length_cons, List.length_nil, Nat.zero_add, Nat.reduceAdd, sp3, List.take_succ_cons, List.take_zero, List.drop_succ_cons, List.drop_zero, root1, incl20]
 rfl
theorem incl32 : inclF [A, B, C] 2 = [nodeF A B] := by
 rw [inclF, dif_neg (by simp)]
 simp only [List.length_cons, List.length_nil, Nat.zero_add, Nat.reduceAdd, sp3, List.take_succ_cons, List.take_zero, List.drop_succ_cons, List.drop_zero, root2, incl1, Nat.lt_irrefl, if_false, Nat.sub_self]
 rfl
theorem cons11 : consF [A] 1 true = [] := by rw [consF]; rfl
theorem cons21 : consF [A, B] 1 true = [B] := by
 rw [consF, dif_neg (by simp)]
 simp only [List.length_cons, List.length_nil, Nat.zero_add, Nat.reduceAdd, sp2, List.take_succ_cons, List.take_zero, List.drop_succ_cons, List.drop_zero, root1, cons11]
 rfl
theorem cons22 : consF [A, B] 2 true = [] := by rw [consF]; rfl
theorem cons31 : consF [A, B, C] 1 true = [B, C] := by
 rw [consF, dif_neg (by simp)]
 simp only [List.length_cons, List.length_nil, Nat.zero_add, Nat.reduceAdd, sp3, List.take_succ_cons, List.take_zero, List.drop_succ_cons, List.drop_zero, root1, cons21]
 rfl
theorem cons32 : consF [A, B, C] 2 true = [C] := by
 rw [consF, dif_neg (by simp)]
 simp only [List.length_cons, List.length_nil, Nat.zero_add, Nat.reduceAdd, sp3, List.take_succ_cons, List.take_zero, List.drop_succ_cons, List.drop_zero, root1, cons22]
 rfl
theorem many10 : manyF [A] 0 [0] = [] := by rw [manyF]; rfl
theorem many12 : manyF [A] 2 [2] = [] := by rw [manyF]; rfl
theorem many1n {x : Int} : manyF [A] x [] = [A] := by rw [manyF, if_pos rfl, root1]
theorem many20 : manyF [A, B] 0 [0] = [B] := by
 rw [manyF, if_neg (by simp), dif_neg (by simp)]
 simp only [List.length_cons, List.length_nil, Nat.zero_add, Nat.reduceAdd, sp2, List.take_succ_cons, List.take_zero, List.drop_succ_cons, List.drop_zero]
 rw [show cutK [0] (0 + ((1 : Nat) : Int)) = 1 from rfl]
 simp only [List.take_succ_cons, List.take_zero, List.drop_succ_cons, List.drop_zero, many10, many1n]
 rfl
theorem many302 : manyF [A, B, C] 0 [0, 2] = [B] := by
 rw [manyF, if_neg (by simp), dif_neg (by simp)]
 simp only [List.length_cons, List.length_nil, Nat.zero_add, Nat.reduceAdd, sp3, List.take_succ_cons, List.take_zero, List.drop_succ_cons, List.drop_zero]
 rw [show cutK [0, 2] (0 + ((2 : Nat) : Int)) = 1 from rfl]
 simp only [List.take_succ_cons, List.take_zero, List.drop_succ_cons, List.drop_zero, many20]
 rw [show (0 : Int) + ((2 : Nat) : Int) = 2 from rfl, many12]
 rfl
theorem inclE30 : inclE [A, B, C] 0 = 0 ∧ inclP [A, B, C] 0 = [B, C] := by
 refine ⟨rfl, ?_⟩
 unfold inclP
 rw [if_neg (by simp)]
 exact incl30
theorem inclE32 : inclE [A, B, C] 2 = 0 ∧ inclP [A, B, C] 2 = [nodeF A B] := by
 refine ⟨rfl, ?_⟩
 unfold inclP
 rw [if_neg (by simp)]
 exact incl32
theorem consE31 : consE [A, B, C] 1 = 0 ∧ consP [A, B, C] 1 = [B, C] := by
 refine ⟨rfl, ?_⟩
 unfold consP
 rw [if_neg (by simp), if_neg (by simp)]
 exact cons31
theorem consE32 : consE [A, B, C] 2 = 0 ∧ consP [A, B, C] 2 = [C] := by
 refine ⟨rfl, ?_⟩
 unfold consP
 rw [if_neg (by simp), if_neg (by simp)]
 exact cons32
theorem asc302 : ascF 3 (-1) [0, 2] = true := by decide
theorem manyE302 : manyE [A, B, C] [0, 2] = 0 ∧ manyP [A, B, C] [0, 2] = [B] := by
 have h : ascF (([A, B, C].length : Nat) : Int) (-1) [0, 2] = true := asc302
 refine ⟨by unfold manyE; rw [if_pos h], ?_⟩
 unfold manyP
 rw [if_pos h, if_neg (by simp)]
 exact many302
theorem app0 : appE 0 [] = 0 ∧ appN 0 [] = 1 ∧ appT 0 [] A = [A] := by
 have h : appE 0 [] = 0 := by decide +kernel
 refine ⟨h, by unfold appN; rw [h]; rfl, ?_⟩
 unfold appT
 rw [h, if_pos rfl]
 simp
theorem app1 : appE 1 [A] = 0 ∧ appN 1 [A] = 2 ∧ appT 1 [A] B = [nodeF A B] := by
 have h9 : formedF 1 [A] = true := by
  unfold formedF
  rw [show onesF (Int.toNat 1) = 1 by decide +kernel]
  rfl
 have h : appE 1 [A] = 0 := by unfold appE; rw [h9]; rfl
 refine ⟨h, by unfold appN; rw [h]; rfl, ?_⟩
 unfold appT
 rw [h, if_pos rfl]
 have : keepF 1 [A] = 0 := by unfold keepF; rw [show tz1 (Int.toNat 1) = 1 by decide +kernel]; rfl
 rw [this]
 rfl
theorem app2 : appE 2 [A] = 0 ∧ appN 2 [A] = 3 ∧ appT 2 [A] B = [A, B] := by
 have h9 : formedF 2 [A] = true := by
  unfold formedF
  rw [show onesF (Int.toNat 2) = 1 by decide +kernel]
  rfl
 have h : appE 2 [A] = 0 := by unfold appE; rw [h9]; rfl
 refine ⟨h, by unfold appN; rw [h]; rfl, ?_⟩
 unfold appT
 rw [h, if_pos rfl]
 have : keepF 2 [A] = 1 := by unfold keepF; rw [show tz1 (Int.toNat 2) = 0 by decide +kernel]; rfl
 rw [this]
 rfl
theorem cl1 {L : List (List Int)} {s : Bool} : clF A 0 1 L s = (A, L, s) := by rw [clF]; rfl
theorem chki3 : chkI A 0 3 [B, C] (nodeF (nodeF A B) C) = true := by
 unfold chkI
 rw [if_neg (by simp)]
 have h : clF A (Int.toNat 0) (Int.toNat 3) [B, C] false = (nodeF (nodeF A B) C, [], false) := by
  rw [show Int.toNat 0 = 0 from rfl, show Int.toNat 3 = 3 from rfl, clF, dif_neg (by omega), sp3, if_pos (by omega), show [B, C].dropLast = [B] from rfl, show lastD [B, C] = C from rfl, clF, dif_neg (by omega), sp2, if_pos (by omega), show [B].dropLast = [] from rfl, show lastD [B] = B from rfl, cl1]
  rfl
 rw [h]
 simp
theorem chki3' : chkI A 0 3 [B] C = false := by
 unfold chkI
 rw [if_neg (by simp)]
 have h : (clF A (Int.toNat 0) (Int.toNat 3) [B] false).2.2 = true := by
  rw [show Int.toNat 0 = 0 from rfl, show Int.toNat 3 = 3 from rfl, clF, dif_neg (by omega), sp3, if_pos (by omega), show [B].dropLast = [] from rfl, clF, dif_neg (by omega), sp2, if_pos (by omega), show ([] : List (List Int)).dropLast = [] from rfl, cl1]
  rfl
 rw [h]
 simp
theorem chkc3 : chkC 1 3 A (nodeF (nodeF A B) C) [B, C] = true := by
 unfold chkC
 rw [if_neg (by simp), if_neg (by simp)]
 have h : ccF A (Int.toNat 1) (Int.toNat 3) true [B, C] false = ((A, nodeF (nodeF A B) C), [], false) := by
  rw [show Int.toNat 1 = 1 from rfl, show Int.toNat 3 = 3 from rfl, ccF, dif_neg (by omega), sp3, if_pos (by omega), show [B, C].dropLast = [B] from rfl, show lastD [B, C] = C from rfl, ccF, dif_neg (by omega), sp2, if_pos (by omega), show [B].dropLast = [] from rfl, show lastD [B] = B from rfl, ccF, dif_pos (.inl rfl), if_pos rfl]
  rfl
 rw [h]
 simp
theorem chkm3 : chkM 3 [0, 2] [A, C] [B] (nodeF (nodeF A B) C) = true := by
 unfold chkM
 rw [if_neg (by simp [asc302]), if_neg (by simp)]
 have h : cmF 0 (Int.toNat 3) [0, 2] ⟨[B], false, [A, C], false⟩ = (nodeF (nodeF A B) C, ⟨[], false, [], false⟩) := by
  have c1 : cmF 0 1 [0] ⟨[B], false, [A, C], false⟩ = (A, ⟨[B], false, [C], false⟩) := by rw [cmF]; rfl
  have c2 : cmF (0 + ((1 : Nat) : Int)) 1 [] ⟨[B], false, [C], false⟩ = (B, ⟨[], false, [C], false⟩) := by rw [cmF]; rfl
  have c3 : cmF (0 + ((2 : Nat) : Int)) 1 [2] ⟨[], false, [C], false⟩ = (C, ⟨[], false, [], false⟩) := by rw [cmF]; rfl
  have c4 : cmF 0 2 [0] ⟨[B], false, [A, C], false⟩ = (nodeF A B, ⟨[], false, [C], false⟩) := by
   rw [cmF, if_neg (by simp), dif_neg (by omega), sp2, show cutK [0] (0 + ((1 : Nat) : Int)) = 1 from rfl, show List.take 1 [(0 : Int)] = [0] from rfl, show List.drop 1 [(0 : Int)] = [] from rfl, show 2 - 1 = 1 from rfl, c1, c2]
  rw [show Int.toNat 3 = 3 from rfl, cmF, if_neg (by simp), dif_neg (by omega), sp3, show cutK [0, 2] (0 + ((2 : Nat) : Int)) = 1 from rfl, show List.take 1 [(0 : Int), 2] = [0] from rfl, show List.drop 1 [(0 : Int), 2] = [2] from rfl, show 3 - 2 = 1 from rfl, c4, c3]
 rw [h]
 simp
end
set_option maxHeartbeats 8000000
attribute [local irreducible] evL sem onG onI onV
structure SB (σ τ : H) (A B C : List Int) : Prop where
 old : Old σ τ
 b0 : τ[σ.size]? = some (.cells 1 (digC A) (0, 0))
 b1 : τ[σ.size + 1]? = some (.cells 1 (digC B) (0, 0))
 b2 : τ[σ.size + 2]? = some (.cells 1 (digC C) (0, 0))
 b3 : τ[σ.size + 3]? = some (.cells 0 (digC A ++ digC B ++ digC C) (0, 0))
 b4 : τ[σ.size + 4]? = some (.cells 1 (digC (nodeF A B)) (0, 0))
 b5 : τ[σ.size + 5]? = some (.cells 1 (digC (nodeF (nodeF A B) C)) (0, 0))
theorem SB.Old {σ τ τ' : H} {A B C : List Int} (h : SB σ τ A B C) (ho : Cn.Old τ τ') : SB σ τ' A B C :=
 ⟨h.old.trans ho, (ho.2 _ (Array.getElem?_eq_some_iff.1 h.b0).1).trans h.b0, (ho.2 _ (Array.getElem?_eq_some_iff.1 h.b1).1).trans h.b1, (ho.2 _ (Array.getElem?_eq_some_iff.1 h.b2).1).trans h.b2, (ho.2 _ (Array.getElem?_eq_some_iff.1 h.b3).1).trans h.b3, (ho.2 _ (Array.getElem?_eq_some_iff.1 h.b4).1).trans h.b4, (ho.2 _ (Array.getElem?_eq_some_iff.1 h.b5).1).trans h.b5⟩
theorem ls_lit {τ : H} {b ver : Nat} {L : List (List Int)} (hL : ∀ d ∈ L, d.length = 16) (hn : L.length < big) (h : τ[b]? = some (.cells ver (L.map digC).flatten (0, 0))) : Ls τ (.slice (some ⟨b, 0, none⟩) L.length L.length) L :=
 grown_ls (σ0 := sized b) (Grown.lit (ver := ver) (by rw [flatten_length (dig_rows hL), List.length_map]) hn (by rw [sized_size]; exact Nat.le_refl _) h) hL
theorem ps_lit {τ : H} {b ver : Nat} {Q : List Int} (hn : Q.length < big) (h : τ[b]? = some (.cells ver (Q.map (.int .i64)) (0, 0))) : Ps τ (.slice (some ⟨b, 0, none⟩) Q.length Q.length) Q := by
 have hf : (Q.map intC).flatten = Q.map (.int .i64) := by
  clear h hn
  induction Q with
  |nil => rfl
  |cons p r ih => rw [List.map_cons, List.flatten_cons, ih]; rfl
 have g : Grown (sized b) τ 1 (.slice (some ⟨b, 0, none⟩) Q.length Q.length) (Q.map intC).flatten (Q.map intC).length := by
  rw [List.length_map]
  exact Grown.lit (ver := ver) (by rw [hf]; simp) hn (by rw [sized_size]; exact Nat.le_refl _) (by rw [hf]; exact h)
 exact ⟨by simpa using g.Row (fun r hr => by obtain ⟨x, _, rfl⟩ := List.mem_map.1 hr; rfl), g.cap⟩
def tpF (A B C : List Int) : Nat → List (List Int)
 |0 => []
 |1 => [A]
 |2 => [nodeF A B]
 |_ => [nodeF A B, C]
theorem tp_step {A B C : List Int} : ∀ (i : Nat) (h : i < 3), appE (i : Int) (tpF A B C i) = 0 ∧ appN (i : Int) (tpF A B C i) = ((i + 1 : Nat) : Int) ∧ appT (i : Int) (tpF A B C i) ([A, B, C][i]'h) = tpF A B C (i + 1)
 |0, _ => app0
 |1, _ => app1
 |2, _ => app2
theorem tp_len {A B C : List Int} : ∀ i, (tpF A B C i).length ≤ 2
 |0 => by simp [tpF]
 |1 => by simp [tpF]
 |2 => by simp [tpF]
 |_ + 3 => by simp [tpF]
theorem tp_dig {A B C : List Int} (hA : A.length = 16) (hC : C.length = 16) : ∀ i, ∀ d ∈ tpF A B C i, d.length = 16
 |0, d, h => by cases h
 |1, d, h => by simp [tpF] at h; rw [h]; exact hA
 |2, d, h => by simp [tpF] at h; rw [h]; exact nodeF_len
 |_ + 3, d, h => by
  simp [tpF] at h
  rcases h with rfl | rfl
  ·exact nodeF_len
  ·exact hC
section
variable {X Y Z : List Value} {z : Value}
theorem set_mid {Q : List Value} {o : Nat} (hX : X.length = o) (hY : Y.length ≤ Q.length) : sets (X ++ Q) o Y = X ++ Y ++ Q.drop Y.length := by
 rw [sets_all (by rw [List.length_append]; omega), List.take_left' hX, List.drop_append, List.drop_of_length_le (by omega), List.nil_append, hX, Nat.add_sub_cancel_left]
theorem set48a (hX : X.length = 16) : sets (List.replicate 48 z) 0 X = X ++ List.replicate 32 z := by
 have h := set_mid (X := []) (Y := X) (Q := List.replicate 48 z) (o := 0) rfl (by rw [List.length_replicate]; omega)
 rw [List.nil_append, List.nil_append, hX, List.drop_replicate] at h
 exact h
theorem set48b (hX : X.length = 16) (hY : Y.length = 16) : sets (X ++ List.replicate 32 z) 16 Y = X ++ Y ++ List.replicate 16 z := by
 have h := set_mid (X := X) (Y := Y) (Q := List.replicate 32 z) (o := 16) hX (by rw [List.length_replicate]; omega)
 rw [hY, List.drop_replicate] at h
 exact h
theorem set48c (hX : X.length = 16) (hY : Y.length = 16) (hZ : Z.length = 16) : sets (X ++ Y ++ List.replicate 16 z) 32 Z = X ++ Y ++ Z := by
 have h := set_mid (X := X ++ Y) (Y := Z) (Q := List.replicate 16 z) (o := 32) (by rw [List.length_append]; omega) (by rw [List.length_replicate]; omega)
 rw [hZ, List.drop_replicate, Nat.sub_self, List.replicate_zero, List.append_nil] at h
 exact h
theorem set32a (hX : X.length = 16) : sets (List.replicate 32 z) 0 X = X ++ List.replicate 16 z := by
 have h := set_mid (X := []) (Y := X) (Q := List.replicate 32 z) (o := 0) rfl (by rw [List.length_replicate]; omega)
 rw [List.nil_append, List.nil_append, hX, List.drop_replicate] at h
 exact h
theorem set32b (hX : X.length = 16) (hY : Y.length = 16) : sets (X ++ List.replicate 16 z) 16 Y = X ++ Y := by
 have h := set_mid (X := X) (Y := Y) (Q := List.replicate 16 z) (o := 16) hX (by rw [List.length_replicate]; omega)
 rw [hY, List.drop_replicate, Nat.sub_self, List.replicate_zero, List.append_nil] at h
 exact h
end
theorem sanity_app {σ : H} (hG : HGlob σ) (hR : Glob σ) (hB : BGlob σ) : App Tryd.prog (.func 9) #[] #[] σ fun w σ' => Old σ σ' ∧ w = .bool true := by
 refine App.of_sem mixed Tryd.func9 t9 k9 r9 (Nat.le_of_ble_eq_true rfl) ?_
 obtain ⟨A, hA⟩ : ∃ A, A = leafF ⟨#[97]⟩ := ⟨_, rfl⟩
 obtain ⟨B, hB'⟩ : ∃ A, A = leafF ⟨#[98]⟩ := ⟨_, rfl⟩
 obtain ⟨C, hC⟩ : ∃ A, A = leafF ⟨#[99]⟩ := ⟨_, rfl⟩
 have cA : ∀ {τ : H}, HGlob τ → App Tryd.prog (.func 14) #[] #[.string ⟨#[97]⟩] τ fun v σ' => σ' = τ ∧ v = .agg (digC A).toArray := fun h => by rw [hA]; exact lleaf_app (by decide) h
 have cB : ∀ {τ : H}, HGlob τ → App Tryd.prog (.func 14) #[] #[.string ⟨#[98]⟩] τ fun v σ' => σ' = τ ∧ v = .agg (digC B).toArray := fun h => by rw [hB']; exact lleaf_app (by decide) h
 have cC : ∀ {τ : H}, HGlob τ → App Tryd.prog (.func 14) #[] #[.string ⟨#[99]⟩] τ fun v σ' => σ' = τ ∧ v = .agg (digC C).toArray := fun h => by rw [hC]; exact lleaf_app (by decide) h
 have rA : ∀ {τ : H}, Glob τ → App Tryd.prog (.func 18) #[] #[.string ⟨#[97]⟩] τ fun v σ' => σ' = τ ∧ v = .agg (digC A).toArray := fun h => by rw [hA]; exact rleaf_app (by decide) h
 have A16 : A.length = 16 := by rw [hA]; exact leafF_len
 have B16 : B.length = 16 := by rw [hB']; exact leafF_len
 have C16 : C.length = 16 := by rw [hC]; exact leafF_len
 clear hA hB' hC
 obtain ⟨a1, a2, a3, a4⟩ := dig_len A16
 obtain ⟨b1, b2, b3, b4⟩ := dig_len B16
 obtain ⟨c1, c2, c3, c4⟩ := dig_len C16
 have AB16 : (nodeF A B).length = 16 := nodeF_len
 have R16 : (nodeF (nodeF A B) C).length = 16 := nodeF_len
 obtain ⟨d1, d2, d3, d4⟩ := dig_len AB16
 obtain ⟨e1, e2, e3, e4⟩ := dig_len R16
 have r48 : (List.replicate 48 (Value.int .u8 0)).length = 48 := List.length_replicate
 have hn0 : App Tryd.prog (.func 14) #[] #[.string ⟨#[97]⟩] σ _ := cA hG
 rw [← ap_nil (σ := σ)]
 unfold s9
 simp only [↓eD, eZ, ↓reduceIte, Nat.reduceEqDiff, Nat.reduceAdd, Nat.reduceMul, reduceCtorEq, Nat.reduceLeDiff, Int.reduceLT, Int.reduceLE, Int.reduceToNat, Int.reduceEq, Nat.reduceLT, undef_eq]
 refine appK_at (cA (hG.Old .ap)) ?_
 simp only [↓eD, eZ, ↓reduceIte, Nat.reduceEqDiff, Nat.reduceAdd, Nat.reduceMul, reduceCtorEq, Nat.reduceLeDiff, Int.reduceLT, Int.reduceLE, Int.reduceToNat, Int.reduceEq, Nat.reduceLT, rep16, a1, a2, a3, a4, digC_one, undef_eq]
 refine appK_at (cB (hG.Old .ap)) ?_
 simp only [↓eD, eZ, ↓reduceIte, Nat.reduceEqDiff, Nat.reduceAdd, Nat.reduceMul, reduceCtorEq, Nat.reduceLeDiff, Int.reduceLT, Int.reduceLE, Int.reduceToNat, Int.reduceEq, Nat.reduceLT, rep16, b1, b2, b3, b4, digC_one, undef_eq]
 refine appK_at (cC (hG.Old .ap)) ?_
 have s1 := set48a (z := .int .u8 0) a1
 have s2 := set48b (z := .int .u8 0) a1 b1
 have s3 := set48c (z := .int .u8 0) a1 b1 c1
 have m1 : (digC A ++ List.replicate 32 (Value.int .u8 0)).length = 48 := by simp [a1]
 have m2 : (digC A ++ digC B ++ List.replicate 16 (Value.int .u8 0)).length = 48 := by simp [a1, b1]
 have m3 : (digC A ++ digC B ++ digC C).length = 48 := by simp [a1, b1, c1]
 simp only [↓eD, eZ, ↓reduceIte, Nat.reduceEqDiff, Nat.reduceAdd, Nat.reduceMul, reduceCtorEq, Nat.reduceLeDiff, Int.reduceLT, Int.reduceLE, Int.reduceToNat, Int.reduceEq, Nat.reduceLT, rep16, r48, a1, a2, b1, b2, c1, c2, c3, c4, s1, s2, s3, m1, m2, m3, digC_one, undef_eq]
 refine appK_at (lnode_app A16 B16 (hG.Old .ap)) ?_
 simp only [↓eD, eZ, ↓reduceIte, Nat.reduceEqDiff, Nat.reduceAdd, Nat.reduceMul, reduceCtorEq, Nat.reduceLeDiff, Int.reduceLT, Int.reduceLE, Int.reduceToNat, Int.reduceEq, Nat.reduceLT, rep16, c1, c2, d1, d2, d3, d4, digC_one, undef_eq]
 refine appK_at (lnode_app AB16 C16 (hG.Old .ap)) ?_
 simp only [↓eD, eZ, ↓reduceIte, Nat.reduceEqDiff, Nat.reduceAdd, Nat.reduceMul, reduceCtorEq, Nat.reduceLeDiff, Int.reduceLT, Int.reduceLE, Int.reduceToNat, Int.reduceEq, Nat.reduceLT, rep16, e1, e2, e3, e4, digC_one, undef_eq]
 obtain ⟨T, hT⟩ : ∃ T, T = ap σ [.cells 1 (digC A) (0, 0), .cells 1 (digC B) (0, 0), .cells 1 (digC C) (0, 0), .cells 0 (digC A ++ digC B ++ digC C) (0, 0), .cells 1 (digC (nodeF A B)) (0, 0), .cells 1 (digC (nodeF (nodeF A B) C)) (0, 0)] := ⟨_, rfl⟩
 rw [← hT]
 have hS : SB σ T A B C := by rw [hT]; exact ⟨.ap, ap_new0, ap_new, ap_new, ap_new, ap_new, ap_new⟩
 clear hT
 have hG0 := hG.Old hS.old
 have d3l : ∀ d ∈ [A, B, C], d.length = 16 := by intro d hd; simp only [List.mem_cons, List.not_mem_nil, or_false] at hd; rcases hd with rfl | rfl | rfl <;> assumption
 have hL : Ls T (.slice (some ⟨σ.size + 3, 0, none⟩) 3 3) [A, B, C] := ls_lit (ver := 0) (L := [A, B, C]) d3l (show 3 < big by decide) (by rw [hS.b3]; simp)
 refine appK_of (linclusion_app hL (by simp) hG0) ?_
 rintro _ τ1 ⟨o1, x, rfl, hx⟩
 rw [inclE30.2] at hx
 rw [inclE30.1]
 simp only [↓eD, eZ, ↓reduceIte, Nat.reduceEqDiff, Nat.reduceAdd, Nat.reduceMul, reduceCtorEq, Nat.reduceLeDiff, Int.reduceLT, Int.reduceLE, Int.reduceToNat, Int.reduceEq, Nat.reduceLT, undef_eq]
 refine appK_of (linclusion_app (hL.Old o1) (by simp) (hG0.Old o1)) ?_
 rintro _ τ2 ⟨p2, y, rfl, hy⟩
 rw [inclE32.2] at hy
 rw [inclE32.1]
 have o2 := o1.trans p2
 have hx2 := hx.Old p2
 simp only [↓eD, eZ, ↓reduceIte, Nat.reduceEqDiff, Nat.reduceAdd, Nat.reduceMul, reduceCtorEq, Nat.reduceLeDiff, Int.reduceLT, Int.reduceLE, Int.reduceToNat, Int.reduceEq, Nat.reduceLT, undef_eq]
 refine appK_of (lconsistency_app (hL.Old o2) (by simp) (hG0.Old o2)) ?_
 rintro _ τ3 ⟨p3, z, rfl, hz⟩
 rw [consE31.2] at hz
 rw [consE31.1]
 have o3 := o2.trans p3
 have hx3 := hx2.Old p3
 have hy3 := hy.Old p3
 simp only [↓eD, eZ, ↓reduceIte, Nat.reduceEqDiff, Nat.reduceAdd, Nat.reduceMul, reduceCtorEq, Nat.reduceLeDiff, Int.reduceLT, Int.reduceLE, Int.reduceToNat, Int.reduceEq, Nat.reduceLT, undef_eq]
 refine appK_of (lconsistency_app (hL.Old o3) (by simp) (hG0.Old o3)) ?_
 rintro _ τ4 ⟨p4, w, rfl, hw⟩
 rw [consE32.2] at hw
 rw [consE32.1]
 have o4 := o3.trans p4
 have hx4 := hx3.Old p4
 have hy4 := hy3.Old p4
 have hz4 := hz.Old p4
 clear hx hx2 hx3 hy hy3 hz o1 o2 o3 p2 p3 p4
 rw [← ap_nil (σ := τ4)]
 simp only [↓eD, eZ, ↓reduceIte, Nat.reduceEqDiff, Nat.reduceAdd, Nat.reduceMul, reduceCtorEq, Nat.reduceLeDiff, Int.reduceLT, Int.reduceLE, Int.reduceToNat, Int.reduceEq, Nat.reduceLT, undef_eq]
 obtain ⟨Y, hY⟩ : ∃ Y, Y = ap τ4 [.cells 0 [.int .i64 0, .int .i64 2] (0, 0)] := ⟨_, rfl⟩
 rw [← hY]
 have oY : Old τ4 Y := by rw [hY]; exact .ap
 have oTY := o4.trans oY
 have hQ : Ps Y (.slice (some ⟨τ4.size, 0, none⟩) 2 2) [0, 2] := ps_lit (ver := 0) (Q := [0, 2]) (by decide) (by rw [hY, ap_new0]; rfl)
 clear hY
 refine appK_of (lmany_app (hL.Old oTY) hQ (by simp) (by simp) (hG0.Old oTY)) ?_
 rintro _ τ ⟨oτ, m, rfl, hm⟩
 rw [manyE302.2] at hm
 rw [manyE302.1]
 have o5 := oTY.trans oτ
 have hx5 := (hx4.Old oY).Old oτ
 have hy5 := (hy4.Old oY).Old oτ
 have hz5 := (hz4.Old oY).Old oτ
 have hw5 := (hw.Old oY).Old oτ
 have hS5 := hS.Old o5
 have hL5 := hL.Old o5
 have hG5 := hG0.Old o5
 have hR5 := hR.Old hS5.old
 have hB5 := hB.Old hS5.old
 clear hx4 hy4 hz4 hw hQ oTY oY o4 o5 oτ hL hS hG0 hG hR hB
 obtain ⟨xa, xc, rfl⟩ := hx5.slice
 obtain ⟨ya, yc, rfl⟩ := hy5.slice
 obtain ⟨za, zc, rfl⟩ := hz5.slice
 obtain ⟨wa, wc, rfl⟩ := hw5.slice
 obtain ⟨ma, mc, rfl⟩ := hm.slice
 have oσ := hS5.old
 rw [← ap_nil (σ := τ)]
 simp only [↓eD, eZ, ↓reduceIte, Nat.reduceEqDiff, Nat.reduceAdd, Nat.reduceMul, reduceCtorEq, Nat.reduceLeDiff, Int.reduceLT, Int.reduceLE, Int.reduceToNat, Int.reduceEq, Nat.reduceLT, undef_eq]
 refine loop_for (J := fun i e η => i ≤ 3 ∧ e = [(1, .pointer (some ⟨σ.size, 0, none⟩)), (2, .pointer (some ⟨σ.size + 1, 0, none⟩)), (3, .pointer (some ⟨σ.size + 2, 0, none⟩)), (4, .slice (some ⟨σ.size + 3, 0, none⟩) 3 3), (5, .pointer (some ⟨σ.size + 4, 0, none⟩)), (6, .pointer (some ⟨σ.size + 5, 0, none⟩)), (7, .slice xa 2 xc), (8, .int .i64 0), (9, .slice ya 1 yc), (10, .int .i64 0), (11, .slice za 2 zc), (12, .int .i64 0), (13, .slice wa 1 wc), (14, .int .i64 0), (15, .slice ma 1 mc), (16, .int .i64 0), (17, .pointer (some ⟨τ.size, 0, none⟩)), (18, .int .i64 (i : Int))] ∧ Old τ η ∧
   ∃ ver u, η[τ.size]? = some (.cells ver [.int .i64 (i : Int), u] (0, 0)) ∧ Grown (sized (τ.size + 1)) η 16 u ((tpF A B C i).map digC).flatten (tpF A B C i).length) 3
  ⟨by omega, rfl, .ap, 0, _, by rw [ap_new0]; rfl, Grown.nil⟩ ?_
 rintro i e η hi ⟨_, rfl, oη, ver, u, hp, hg⟩
 have lη := (Array.getElem?_eq_some_iff.1 hp).1
 by_cases hlt : i < 3
 ·have dl : decide ((i : Int) < 3) = true := by rw [decide_eq_true]; omega
  have hbd : (0:Int) ≤ (i:Int) ∧ (i:Int) < ((3 : Nat) : Int) := by omega
  have hw' : IntKind.wrap .i64 ((i:Int) + 1) = ((i + 1 : Nat) : Int) := by rw [wrap64' (by omega) (by omega)]; omega
  obtain ⟨st1, st2, st3⟩ := tp_step (A := A) (B := B) (C := C) i hlt
  obtain ⟨bb, oo, hab, hr⟩ := (hL5.Old oη).at (i := i) hlt
  cases hab
  rw [Nat.zero_add] at hr
  have D16 := d3l ([A, B, C][i]'hlt) (List.getElem_mem _)
  generalize [A, B, C][i]'hlt = d at hr D16 st3
  have hlsu := grown_ls hg (tp_dig A16 C16 i)
  obtain ⟨ua, uc, rfl⟩ := hg.slice
  have r17 : ∀ M, rdN (ap η M) ⟨τ.size, 0, none⟩ 2 = some [.int .i64 (i : Int), .slice ua (tpF A B C i).length uc] := fun M => rdb_of hp .ap rfl
  have hr' : ∀ M, rdN (ap η M) ⟨σ.size + 3, i * 16, none⟩ 16 = some (digC d) := fun M => rdN_old hr
  rw [← ap_nil (σ := η)]
  simp only [↓eD, eZ, ↓reduceIte, Nat.reduceEqDiff, Nat.reduceAdd, Nat.reduceMul, reduceCtorEq, Nat.reduceLeDiff, Int.reduceLT, Int.reduceLE, Int.reduceToNat, Int.reduceEq, Nat.reduceLT, dl, hbd, r17, Int.toNat_natCast, hr', undef_eq]
  have hl10 := tp_len (A := A) (B := B) (C := C) i
  refine appK_of (lappend_app (hlsu.Old .ap) D16 (by omega) (hG5.Old (oη.trans .ap)) (hB5.Old (oη.trans .ap))) ?_
  rintro _ η2 ⟨o2, v, rfl, hg2, _⟩
  rw [st3] at hg2
  rw [st1, st2]
  have sX : (ap η [.cells 0 [.int .i64 0, .slice none 0 0] (0, 0)]).size = η.size + 1 := by simp [ap_size]
  have s2' := o2.1
  have h19 : η2[η.size]? = some (.cells 0 [.int .i64 0, .slice none 0 0] (0, 0)) := (o2.2 _ (by omega)).trans (by rw [ap_new0]; rfl)
  have h17 : η2[τ.size]? = some (.cells ver [.int .i64 (i : Int), .slice ua (tpF A B C i).length uc] (0, 0)) := (o2.2 _ (by omega)).trans ((ap_old lη).trans hp)
  obtain ⟨va, vc, rfl⟩ := hg2.slice
  have k1 : wrN η2 ⟨η.size, 0, none⟩ [.int .i64 ((i + 1 : Nat) : Int), .slice va (tpF A B C (i + 1)).length vc] = some (η2.setIfInBounds η.size (.cells 1 [.int .i64 ((i + 1 : Nat) : Int), .slice va (tpF A B C (i + 1)).length vc] (0, 0))) := by
   rw [wrN_eq, if_neg (by simp), h19, wrc_cells, if_pos ⟨by simp, rfl⟩]
   rfl
  have k2 := rdN_all (n := 2) (get_set (k := .cells 1 [.int .i64 ((i + 1 : Nat) : Int), .slice va (tpF A B C (i + 1)).length vc] (0, 0)) h19) rfl
  have hne : η.size ≠ τ.size := by omega
  have k3 : wrN (η2.setIfInBounds η.size (.cells 1 [.int .i64 ((i + 1 : Nat) : Int), .slice va (tpF A B C (i + 1)).length vc] (0, 0))) ⟨τ.size, 0, none⟩ [.int .i64 ((i + 1 : Nat) : Int), .slice va (tpF A B C (i + 1)).length vc] = some ((η2.setIfInBounds η.size (.cells 1 [.int .i64 ((i + 1 : Nat) : Int), .slice va (tpF A B C (i + 1)).length vc] (0, 0))).setIfInBounds τ.size (.cells (ver + 1) [.int .i64 ((i + 1 : Nat) : Int), .slice va (tpF A B C (i + 1)).length vc] (0, 0))) := by
   rw [wrN_eq, if_neg (by simp), get_set_ne hne, h17, wrc_cells, if_pos ⟨by simp, rfl⟩]
   rfl
  simp only [↓eD, eZ, ↓reduceIte, Nat.reduceEqDiff, Nat.reduceAdd, Nat.reduceMul, reduceCtorEq, Nat.reduceLeDiff, Int.reduceLT, Int.reduceLE, Int.reduceToNat, Int.reduceEq, Nat.reduceLT, k1, k2, k3, hw', Bool.not_true, undef_eq]
  refine ⟨hlt, by omega, ⟨by simp; omega, fun c hc => (get_set_ne (by omega)).trans ((get_set_ne (by omega)).trans ((o2.2 c (by omega)).trans ((ap_old (by omega)).trans (oη.2 c hc))))⟩, ver + 1, _, get_set ((get_set_ne hne).trans h17), ?_⟩
  exact ((hg2.set (by omega)).set (by omega)).from (by rw [sized_size]; omega)
 have : i = 3 := by omega
 subst this
 have dl : decide (((3 : Nat) : Int) < 3) = false := by decide
 have hSη := hS5.Old oη
 have hlsu := grown_ls hg (tp_dig A16 C16 3)
 obtain ⟨ua, uc, rfl⟩ := hg.slice
 have x1 : ∀ M, rdN (ap η M) ⟨σ.size, 0, none⟩ 16 = some (digC A) := fun M => rdb_of hSη.b0 .ap a1
 have x2 : ∀ M, rdN (ap η M) ⟨σ.size + 1, 0, none⟩ 16 = some (digC B) := fun M => rdb_of hSη.b1 .ap b1
 have x3 : ∀ M, rdN (ap η M) ⟨σ.size + 2, 0, none⟩ 16 = some (digC C) := fun M => rdb_of hSη.b2 .ap c1
 have x5 : ∀ M, rdN (ap η M) ⟨σ.size + 4, 0, none⟩ 16 = some (digC (nodeF A B)) := fun M => rdb_of hSη.b4 .ap d1
 have x6 : ∀ M, rdN (ap η M) ⟨σ.size + 5, 0, none⟩ 16 = some (digC (nodeF (nodeF A B) C)) := fun M => rdb_of hSη.b5 .ap e1
 have p0 : ∀ M, rd1 (ap η M) ⟨τ.size, 0, none⟩ = some (.int .i64 3) := fun M => rd1_of hp .ap rfl
 have p1 : ∀ M, rd1 (ap η M) ⟨τ.size, 1, none⟩ = some (.slice ua (tpF A B C 3).length uc) := fun M => rd1_of hp .ap rfl
 have q1 : aggEq (List.replicate 16 (.int .u8)) (digC (nodeF (nodeF A B) C)) (digC (nodeF (nodeF A B) C)) = some true := by rw [aggEq_dig R16 R16, decide_eq_true rfl]
 have q2 : aggEq (List.replicate 16 (.int .u8)) (digC A) (digC A) = some true := by rw [aggEq_dig A16 A16, decide_eq_true rfl]
 have q3 : aggEq (List.replicate 16 (.int .u8)) (digC (nodeF A B)) (digC (nodeF A B)) = some true := by rw [aggEq_dig AB16 AB16, decide_eq_true rfl]
 have t32 := fun {X : List Value} (h : X.length = 16) => set32a (z := .int .u8 0) h
 have tb := t32 b1
 have tbc := set32b (z := .int .u8 0) b1 c1
 have ta := t32 a1
 have tac := set32b (z := .int .u8 0) a1 c1
 have tn := t32 d1
 have tnc := set32b (z := .int .u8 0) d1 c1
 have r32 : (List.replicate 32 (Value.int .u8 0)).length = 32 := List.length_replicate
 have l1 : (digC B ++ List.replicate 16 (Value.int .u8 0)).length = 32 := by rw [List.length_append, b1, List.length_replicate]
 have l2 : (digC B ++ digC C).length = 32 := by rw [List.length_append, b1, c1]
 have l3 : (digC A ++ List.replicate 16 (Value.int .u8 0)).length = 32 := by rw [List.length_append, a1, List.length_replicate]
 have l4 : (digC A ++ digC C).length = 32 := by rw [List.length_append, a1, c1]
 have l5 : (digC (nodeF A B) ++ List.replicate 16 (Value.int .u8 0)).length = 32 := by rw [List.length_append, d1, List.length_replicate]
 have l6 : (digC (nodeF A B) ++ digC C).length = 32 := by rw [List.length_append, d1, c1]
 rw [← ap_nil (σ := η)]
 simp only [↓eD, eZ, ↓reduceIte, Nat.reduceEqDiff, Nat.reduceAdd, Nat.reduceMul, reduceCtorEq, Nat.reduceLeDiff, Int.reduceLT, Int.reduceLE, Int.reduceToNat, Int.reduceEq, Nat.reduceLT, dl, x6, undef_eq]
 refine appK_at (lroot_app ((hL5.Old oη).Old .ap) (by simp) (hG5.Old (oη.trans .ap))) ?_
 rw [root3]
 simp only [↓eD, eZ, ↓reduceIte, Nat.reduceEqDiff, Nat.reduceAdd, Nat.reduceMul, reduceCtorEq, Nat.reduceLeDiff, Int.reduceLT, Int.reduceLE, Int.reduceToNat, Int.reduceEq, Nat.reduceLT, x6, q1, x1, undef_eq]
 refine appK_at (rA (hR5.Old (oη.trans .ap))) ?_
 simp only [↓eD, eZ, ↓reduceIte, Nat.reduceEqDiff, Nat.reduceAdd, Nat.reduceMul, reduceCtorEq, Nat.reduceLeDiff, Int.reduceLT, Int.reduceLE, Int.reduceToNat, Int.reduceEq, Nat.reduceLT, x1, q2, x5, x2, undef_eq]
 refine appK_at (rnode_app A16 B16 (hR5.Old (oη.trans .ap))) ?_
 simp only [↓eD, eZ, ↓reduceIte, Nat.reduceEqDiff, Nat.reduceAdd, Nat.reduceMul, reduceCtorEq, Nat.reduceLeDiff, Int.reduceLT, Int.reduceLE, Int.reduceToNat, Int.reduceEq, Nat.reduceLT, q3, b1, b2, c1, c2, d1, d2, a1, a2, r32, tb, tbc, ta, tac, tn, tnc, l1, l2, l3, l4, l5, l6, rep16, b4, c4, d4, digC_one, x1, x2, x3, x5, x6, p0, p1, undef_eq]
 have h16 : ∀ L : List (List Int), (∀ d ∈ L, d = A ∨ d = B ∨ d = C ∨ d = nodeF A B) → ∀ d ∈ L, d.length = 16 := fun L h d hd => by
  rcases h d hd with rfl | rfl | rfl | rfl <;> assumption
 refine appK_at (same_app ((hx5.Old oη).Old .ap) (ls_lit (ver := 0) (L := [B, C]) (h16 _ (by simp)) (show 2 < big by decide) (by first | (rw [ap_new0]; simp) | (rw [ap_new]; simp))) (by simp)) ?_
 rw [decide_eq_true rfl]
 simp only [↓eD, eZ, ↓reduceIte, Nat.reduceEqDiff, Nat.reduceAdd, Nat.reduceMul, reduceCtorEq, Nat.reduceLeDiff, Int.reduceLT, Int.reduceLE, Int.reduceToNat, Int.reduceEq, Nat.reduceLT, b1, b2, c1, c2, d1, d2, a1, a2, r32, tb, tbc, ta, tac, tn, tnc, l1, l2, l3, l4, l5, l6, rep16, b4, c4, d4, digC_one, x1, x2, x3, x5, x6, p0, p1, Bool.not_false, undef_eq]
 refine appK_at (same_app ((hy5.Old oη).Old .ap) (ls_lit (ver := 0) (L := [nodeF A B]) (h16 _ (by simp)) (show 1 < big by decide) (by first | (rw [ap_new0]; simp) | (rw [ap_new]; simp))) (by simp)) ?_
 rw [decide_eq_true rfl]
 simp only [↓eD, eZ, ↓reduceIte, Nat.reduceEqDiff, Nat.reduceAdd, Nat.reduceMul, reduceCtorEq, Nat.reduceLeDiff, Int.reduceLT, Int.reduceLE, Int.reduceToNat, Int.reduceEq, Nat.reduceLT, b1, b2, c1, c2, d1, d2, a1, a2, r32, tb, tbc, ta, tac, tn, tnc, l1, l2, l3, l4, l5, l6, rep16, b4, c4, d4, digC_one, x1, x2, x3, x5, x6, p0, p1, Bool.not_false, undef_eq]
 refine appK_at (same_app ((hz5.Old oη).Old .ap) (ls_lit (ver := 0) (L := [B, C]) (h16 _ (by simp)) (show 2 < big by decide) (by first | (rw [ap_new0]; simp) | (rw [ap_new]; simp))) (by simp)) ?_
 rw [decide_eq_true rfl]
 simp only [↓eD, eZ, ↓reduceIte, Nat.reduceEqDiff, Nat.reduceAdd, Nat.reduceMul, reduceCtorEq, Nat.reduceLeDiff, Int.reduceLT, Int.reduceLE, Int.reduceToNat, Int.reduceEq, Nat.reduceLT, b1, b2, c1, c2, d1, d2, a1, a2, r32, tb, tbc, ta, tac, tn, tnc, l1, l2, l3, l4, l5, l6, rep16, b4, c4, d4, digC_one, x1, x2, x3, x5, x6, p0, p1, Bool.not_false, undef_eq]
 refine appK_at (same_app ((hw5.Old oη).Old .ap) (ls_lit (ver := 0) (L := [C]) (h16 _ (by simp)) (show 1 < big by decide) (by first | (rw [ap_new0]; simp) | (rw [ap_new]; simp))) (by simp)) ?_
 rw [decide_eq_true rfl]
 simp only [↓eD, eZ, ↓reduceIte, Nat.reduceEqDiff, Nat.reduceAdd, Nat.reduceMul, reduceCtorEq, Nat.reduceLeDiff, Int.reduceLT, Int.reduceLE, Int.reduceToNat, Int.reduceEq, Nat.reduceLT, b1, b2, c1, c2, d1, d2, a1, a2, r32, tb, tbc, ta, tac, tn, tnc, l1, l2, l3, l4, l5, l6, rep16, b4, c4, d4, digC_one, x1, x2, x3, x5, x6, p0, p1, Bool.not_false, undef_eq]
 refine appK_at (same_app ((hm.Old oη).Old .ap) (ls_lit (ver := 0) (L := [B]) (h16 _ (by simp)) (show 1 < big by decide) (by first | (rw [ap_new0]; simp) | (rw [ap_new]; simp))) (by simp)) ?_
 rw [decide_eq_true rfl]
 simp only [↓eD, eZ, ↓reduceIte, Nat.reduceEqDiff, Nat.reduceAdd, Nat.reduceMul, reduceCtorEq, Nat.reduceLeDiff, Int.reduceLT, Int.reduceLE, Int.reduceToNat, Int.reduceEq, Nat.reduceLT, b1, b2, c1, c2, d1, d2, a1, a2, r32, tb, tbc, ta, tac, tn, tnc, l1, l2, l3, l4, l5, l6, rep16, b4, c4, d4, digC_one, x1, x2, x3, x5, x6, p0, p1, Bool.not_false, undef_eq]
 refine appK_at (chki_app A16 R16 ((hx5.Old oη).Old .ap) (by simp) (hG5.Old (oη.trans .ap))) ?_
 rw [chki3]
 simp only [↓eD, eZ, ↓reduceIte, Nat.reduceEqDiff, Nat.reduceAdd, Nat.reduceMul, reduceCtorEq, Nat.reduceLeDiff, Int.reduceLT, Int.reduceLE, Int.reduceToNat, Int.reduceEq, Nat.reduceLT, b1, b2, c1, c2, d1, d2, a1, a2, r32, tb, tbc, ta, tac, tn, tnc, l1, l2, l3, l4, l5, l6, rep16, b4, c4, d4, digC_one, x1, x2, x3, x5, x6, p0, p1, undef_eq]
 refine appK_at (chkc_app A16 R16 ((hz5.Old oη).Old .ap) (by simp) (hG5.Old (oη.trans .ap))) ?_
 rw [chkc3]
 simp only [↓eD, eZ, ↓reduceIte, Nat.reduceEqDiff, Nat.reduceAdd, Nat.reduceMul, reduceCtorEq, Nat.reduceLeDiff, Int.reduceLT, Int.reduceLE, Int.reduceToNat, Int.reduceEq, Nat.reduceLT, b1, b2, c1, c2, d1, d2, a1, a2, r32, tb, tbc, ta, tac, tn, tnc, l1, l2, l3, l4, l5, l6, rep16, b4, c4, d4, digC_one, x1, x2, x3, x5, x6, p0, p1, undef_eq]
 refine appK_at (chkm_app R16 (ps_lit (ver := 0) (Q := [0, 2]) (show 2 < big by decide) (by rw [ap_new]; rfl)) (ls_lit (ver := 0) (L := [A, C]) (h16 _ (by simp)) (show 2 < big by decide) (by rw [ap_new]; simp)) ((hm.Old oη).Old .ap) (by simp) (by simp) (by simp) (hG5.Old (oη.trans .ap))) ?_
 rw [chkm3]
 simp only [↓eD, eZ, ↓reduceIte, Nat.reduceEqDiff, Nat.reduceAdd, Nat.reduceMul, reduceCtorEq, Nat.reduceLeDiff, Int.reduceLT, Int.reduceLE, Int.reduceToNat, Int.reduceEq, Nat.reduceLT, b1, b2, c1, c2, d1, d2, a1, a2, r32, tb, tbc, ta, tac, tn, tnc, l1, l2, l3, l4, l5, l6, rep16, b4, c4, d4, digC_one, x1, x2, x3, x5, x6, p0, p1, undef_eq]
 refine appK_at (chki_app A16 R16 ((hy5.Old oη).Old .ap) (by simp) (hG5.Old (oη.trans .ap))) ?_
 rw [chki3']
 simp only [↓eD, eZ, ↓reduceIte, Nat.reduceEqDiff, Nat.reduceAdd, Nat.reduceMul, reduceCtorEq, Nat.reduceLeDiff, Int.reduceLT, Int.reduceLE, Int.reduceToNat, Int.reduceEq, Nat.reduceLT, b1, b2, c1, c2, d1, d2, a1, a2, r32, tb, tbc, ta, tac, tn, tnc, l1, l2, l3, l4, l5, l6, rep16, b4, c4, d4, digC_one, x1, x2, x3, x5, x6, p0, p1, Bool.not_false, undef_eq]
 refine appK_at (same_app (B := [nodeF A B, C]) (hlsu.Old .ap) (ls_lit (ver := 0) (L := [nodeF A B, C]) (h16 _ (by simp)) (show 2 < big by decide) (by rw [ap_new]; simp)) (by have := tp_len (A := A) (B := B) (C := C) 3; omega)) ?_
 rw [decide_eq_true (show tpF A B C 3 = [nodeF A B, C] from rfl)]
 simp only [↓eD, eZ, ↓reduceIte, Nat.reduceEqDiff, Nat.reduceAdd, Nat.reduceMul, reduceCtorEq, Nat.reduceLeDiff, Int.reduceLT, Int.reduceLE, Int.reduceToNat, Int.reduceEq, Nat.reduceLT, undef_eq]
 first | exact ⟨oσ.trans (oη.trans .ap), rfl⟩ | (rw [ap_nil]; exact oσ.trans (oη.trans .ap))
end Go.Proofs.YtjgbbhfihcmphaaDoor
