/- Walks of the functions that the claim reaches. Conditions: none. -/
import Derived.Test.YtjgbbhfihcmphaaDoorNb
set_option linter.all false
set_option maxRecDepth 10000
set_option maxHeartbeats 4000000
namespace Go.Proofs.YtjgbbhfihcmphaaDoor
open Go Go.Cn Go.RowKit
attribute [local irreducible] evL sem onG onI onV
def consF (L : List (List Int)) (m : Nat) (mark : Bool) : List (List Int) :=
 if h1 : m = L.length ∨ L.length ≤ 1 then (if mark = true then [] else [rootF L])
 else if m ≤ splitN L.length then consF (L.take (splitN L.length)) m mark ++ [rootF (L.drop (splitN L.length))]
 else consF (L.drop (splitN L.length)) (m - splitN L.length) false ++ [rootF (L.take (splitN L.length))]
termination_by L.length
decreasing_by
 ·rw [List.length_take]; have := splitN_spec (n := L.length) (by omega); omega
 ·rw [List.length_drop]; have := splitN_spec (n := L.length) (by omega); omega
theorem consF_len : ∀ {N : Nat} {L : List (List Int)} {m : Nat} {mark : Bool}, L.length ≤ N → (consF L m mark).length ≤ N + 1
 |0, L, m, mark, h => by rw [consF, dif_pos (.inr (by omega))]; split <;> simp
 |N + 1, L, m, mark, h => by
  rw [consF]
  split
  ·split <;> simp
  ·rename_i h1
   have hs := splitN_spec (n := L.length) (by omega)
   split
   ·rw [List.length_append]
    have := consF_len (N := N) (L := L.take (splitN L.length)) (m := m) (mark := mark) (by rw [List.length_take]; omega)
    simp; omega
   ·rw [List.length_append]
    have := consF_len (N := N) (L := L.drop (splitN L.length)) (m := m - splitN L.length) (mark := false) (by rw [List.length_drop]; omega)
    simp; omega
theorem consF_dig : ∀ {N : Nat} {L : List (List Int)} {m : Nat} {mark : Bool}, L.length ≤ N → (∀ d ∈ L, d.length = 16) → ∀ d ∈ consF L m mark, d.length = 16
 |0, L, m, mark, h, hd => by
  rw [consF, dif_pos (.inr (by omega))]
  intro d h9
  split at h9
  ·cases h9
  ·rw [List.mem_singleton] at h9; rw [h9]; exact rootF_len hd
 |N + 1, L, m, mark, h, hd => by
  rw [consF]
  split
  ·intro d h9
   split at h9
   ·cases h9
   ·rw [List.mem_singleton] at h9; rw [h9]; exact rootF_len hd
  ·rename_i h1
   have hs := splitN_spec (n := L.length) (by omega)
   have t1 : ∀ d ∈ L.take (splitN L.length), d.length = 16 := fun d h => hd d (List.mem_of_mem_take h)
   have t2 : ∀ d ∈ L.drop (splitN L.length), d.length = 16 := fun d h => hd d (List.mem_of_mem_drop h)
   split
   ·intro d hm
    rcases List.mem_append.1 hm with hm | hm
    ·exact consF_dig (N := N) (by rw [List.length_take]; omega) t1 d hm
    ·rw [List.mem_singleton] at hm; rw [hm]; exact rootF_len t2
   ·intro d hm
    rcases List.mem_append.1 hm with hm | hm
    ·exact consF_dig (N := N) (by rw [List.length_drop]; omega) t2 d hm
    ·rw [List.mem_singleton] at hm; rw [hm]; exact rootF_len t1
theorem cons1_app {σ0 : H} {bp bo n0 : Nat} (hG : HGlob σ0) : ∀ (N : Nat) (σ : H) (v : Value) (L : List (List Int)) (m : Nat) (mark : Bool) (P : List (List Int)), L.length ≤ N → 0 < m → m ≤ L.length → L.length ≤ 1000 → P.length + N < 100000 → Ls σ0 v L →
  Inc σ0 σ bp bo n0 (.func (.func 34) #[] #[.pointer (some ⟨bo, 0, none⟩), .pointer (some ⟨bp, 0, none⟩)]) P →
  App Tryd.prog (.func 34) #[.pointer (some ⟨bo, 0, none⟩), .pointer (some ⟨bp, 0, none⟩)] #[v, .int .i64 (m : Int), .bool mark] σ fun w σ' => w = .tuple #[] ∧ σ.size ≤ σ'.size ∧
   Inc σ0 σ' bp bo n0 (.func (.func 34) #[] #[.pointer (some ⟨bo, 0, none⟩), .pointer (some ⟨bp, 0, none⟩)]) (P ++ consF L m mark) := by
 intro N
 induction N with
 |zero => intro σ v L m mark P h1 h2; omega
 |succ N ih =>
  intro σ v L m mark P hN hpos hm hn hPN hL hI
  refine App.of_sem mixed Tryd.func34 t34 k34 r34 (Nat.le_of_ble_eq_true rfl) ?_
  obtain ⟨a, c, rfl⟩ := hL.slice
  unfold s34
  by_cases h1 : m = L.length
  ·have e1 : decide ((m : Int) = (L.length : Int)) = true := by rw [decide_eq_true]; omega
   have hR : consF L m mark = if mark = true then [] else [rootF L] := by rw [consF, dif_pos (.inl h1)]
   cases mark with
   |true =>
    simp only [↓eD, eZ, ↓reduceIte, Nat.reduceEqDiff, Nat.reduceAdd, Nat.reduceMul, reduceCtorEq, Nat.reduceLeDiff, Int.reduceLT, Int.reduceLE, Int.reduceToNat, Int.reduceEq, Nat.reduceLT, e1, Bool.not_true, undef_eq]
    rw [hR, if_pos rfl, List.append_nil]
    first | exact ⟨Nat.le_refl _, hI⟩ | exact hI
   |false =>
    obtain ⟨ver, u, hb, hg⟩ := hI.o
    have ru : rd1 σ ⟨bo, 0, none⟩ = some u := rd1_of hb Old.refl (k := 0) rfl
    simp only [↓eD, eZ, ↓reduceIte, Nat.reduceEqDiff, Nat.reduceAdd, Nat.reduceMul, reduceCtorEq, Nat.reduceLeDiff, Int.reduceLT, Int.reduceLE, Int.reduceToNat, Int.reduceEq, Nat.reduceLT, e1, ru, Bool.not_false, undef_eq]
    refine appK_at (lroot_app (hL.Old hI.old) (by omega) (hG.Old hI.old)) ?_
    have D16 := rootF_len hL.d
    rw [hR, if_neg (by simp)]
    generalize rootF L = D at D16 ⊢
    obtain ⟨u', τ1, τ2, ha, hw, hu', hJ2, hsz⟩ := hI.push D16 (by omega) ru
    obtain ⟨l1, l2, l3, l4⟩ := dig_len D16
    rw [← ap_nil (σ := σ)]
    have ru' : ∀ M, rd1 (ap σ M) ⟨bo, 0, none⟩ = some u := fun M => rd1_old ru
    simp only [↓eD, eZ, ↓reduceIte, Nat.reduceEqDiff, Nat.reduceAdd, Nat.reduceMul, reduceCtorEq, Nat.reduceLeDiff, Int.reduceLT, Int.reduceLE, Int.reduceToNat, Int.reduceEq, Nat.reduceLT, ru', rep16, l1, l2, l3, l4, digC_one, undef_eq]
    refine onV_of ha ?_
    simp only [↓eD, eZ, ↓reduceIte, Nat.reduceEqDiff, Nat.reduceAdd, Nat.reduceMul, reduceCtorEq, Nat.reduceLeDiff, Int.reduceLT, Int.reduceLE, Int.reduceToNat, Int.reduceEq, Nat.reduceLT, hw, hu', undef_eq]
    exact ⟨hsz, hJ2⟩
  have e1 : decide ((m : Int) = (L.length : Int)) = false := by rw [decide_eq_false]; omega
  have hs := splitN_spec (n := L.length) (by omega)
  simp only [↓eD, eZ, ↓reduceIte, Nat.reduceEqDiff, Nat.reduceAdd, Nat.reduceMul, reduceCtorEq, Nat.reduceLeDiff, Int.reduceLT, Int.reduceLE, Int.reduceToNat, Int.reduceEq, Nat.reduceLT, e1, undef_eq]
  refine appK_at (lsplit_app (by omega) (by omega)) ?_
  obtain ⟨k, hk⟩ : ∃ k, k = splitN L.length := ⟨_, rfl⟩
  rw [← hk] at hs ⊢
  have hR : consF L m mark = if m ≤ k then consF (L.take k) m mark ++ [rootF (L.drop k)] else consF (L.drop k) (m - k) false ++ [rootF (L.take k)] := by rw [consF, dif_neg (by omega), hk]
  obtain ⟨vp, hp⟩ := hI.p
  have rp : rd1 σ ⟨bp, 0, none⟩ = some (.func (.func 34) #[] #[.pointer (some ⟨bo, 0, none⟩), .pointer (some ⟨bp, 0, none⟩)]) := rd1_of hp Old.refl (k := 0) rfl
  have hbig : L.length < big := Nat.lt_of_le_of_lt hn (by decide)
  obtain ⟨v1, s1, L1, _⟩ := hL.sub (lo := 0) (hi := k) (xl := none) (xh := some (.int .i64 (k : Int))) (xm := some (.int .i64 (k : Int))) (by omega) (by omega) (by omega) (.inr ⟨rfl, rfl⟩) (.inl rfl) (.inr rfl)
  obtain ⟨v2, s2, L2, _⟩ := hL.sub (lo := k) (hi := L.length) (xl := some (.int .i64 (k : Int))) (xh := none) (xm := none) (by omega) (by omega) (by omega) (.inl rfl) (.inr ⟨rfl, rfl, rfl⟩) (.inl rfl)
  rw [List.drop_zero] at L1
  rw [List.take_length] at L2
  have hl1 : (L.take k).length = k := by rw [List.length_take]; omega
  have hl2 : (L.drop k).length = L.length - k := by rw [List.length_drop]
  by_cases hik : m ≤ k
  case' pos =>
   have ei : decide ((m : Int) ≤ (k : Int)) = true := by rw [decide_eq_true]; omega
   rw [hR, if_pos hik]
   simp only [↓eD, eZ, ↓reduceIte, Nat.reduceEqDiff, Nat.reduceAdd, Nat.reduceMul, reduceCtorEq, Nat.reduceLeDiff, Int.reduceLT, Int.reduceLE, Int.reduceToNat, Int.reduceEq, Nat.reduceLT, ei, rp, s1, undef_eq]
   refine appK_of (ih σ v1 (L.take k) m mark P (by omega) (by omega) (by omega) (by omega) (by omega) L1 hI) ?_
  case' neg =>
   have ei : decide ((m : Int) ≤ (k : Int)) = false := by rw [decide_eq_false]; omega
   have wi : IntKind.wrap .i64 ((m : Int) - (k : Int)) = ((m - k : Nat) : Int) := by rw [wrap64' (by omega) (by omega)]; omega
   rw [hR, if_neg hik]
   simp only [↓eD, eZ, ↓reduceIte, Nat.reduceEqDiff, Nat.reduceAdd, Nat.reduceMul, reduceCtorEq, Nat.reduceLeDiff, Int.reduceLT, Int.reduceLE, Int.reduceToNat, Int.reduceEq, Nat.reduceLT, ei, rp, s2, wi, undef_eq]
   refine appK_of (ih σ v2 (L.drop k) (m - k) false P (by omega) (by omega) (by omega) (by omega) (by omega) L2 hI) ?_
  all_goals
   rintro _ τ ⟨rfl, oτ, hJ⟩
   obtain ⟨ver, u, hb, hg⟩ := hJ.o
   have ru : rd1 τ ⟨bo, 0, none⟩ = some u := rd1_of hb Old.refl (k := 0) rfl
   simp only [↓eD, eZ, ↓reduceIte, Nat.reduceEqDiff, Nat.reduceAdd, Nat.reduceMul, reduceCtorEq, Nat.reduceLeDiff, Int.reduceLT, Int.reduceLE, Int.reduceToNat, Int.reduceEq, Nat.reduceLT, ru, s1, s2, undef_eq]
  case' pos => refine appK_at (lroot_app (L2.Old hJ.old) (by omega) (hG.Old hJ.old)) ?_
  case' neg => refine appK_at (lroot_app (L1.Old hJ.old) (by omega) (hG.Old hJ.old)) ?_
  case' pos =>
   have D16 := rootF_len L2.d
   have hPl := consF_len (N := k) (L := L.take k) (m := m) (mark := mark) (by omega)
   generalize rootF (L.drop k) = D at D16 ⊢
  case' neg =>
   have D16 := rootF_len L1.d
   have hPl := consF_len (N := L.length - k) (L := L.drop k) (m := m - k) (mark := false) (by omega)
   generalize rootF (L.take k) = D at D16 ⊢
  all_goals
   obtain ⟨u', τ1, τ2, ha, hw, hu', hJ2, hsz⟩ := hJ.push D16 (by rw [List.length_append]; omega) ru
   obtain ⟨l1, l2, l3, l4⟩ := dig_len D16
   rw [← ap_nil (σ := τ)]
   have ru' : ∀ M, rd1 (ap τ M) ⟨bo, 0, none⟩ = some u := fun M => rd1_old ru
   simp only [↓eD, eZ, ↓reduceIte, Nat.reduceEqDiff, Nat.reduceAdd, Nat.reduceMul, reduceCtorEq, Nat.reduceLeDiff, Int.reduceLT, Int.reduceLE, Int.reduceToNat, Int.reduceEq, Nat.reduceLT, ru', rep16, l1, l2, l3, l4, digC_one, undef_eq]
   refine onV_of ha ?_
   simp only [↓eD, eZ, ↓reduceIte, Nat.reduceEqDiff, Nat.reduceAdd, Nat.reduceMul, reduceCtorEq, Nat.reduceLeDiff, Int.reduceLT, Int.reduceLE, Int.reduceToNat, Int.reduceEq, Nat.reduceLT, hw, hu', undef_eq]
   rw [← List.append_assoc]
   exact ⟨Nat.le_trans oτ hsz, hJ2⟩
def consE (L : List (List Int)) (m : Int) : Int := if m < 0 ∨ (L.length : Int) < m then 1 else 0
def consP (L : List (List Int)) (m : Int) : List (List Int) := if m < 0 ∨ (L.length : Int) < m then [] else if m = 0 ∨ m = (L.length : Int) then [] else consF L m.toNat true
theorem lconsistency_app {σ : H} {v : Value} {L : List (List Int)} {i : Int} (hL : Ls σ v L) (hn : L.length ≤ 1000) (hG : HGlob σ) :
  App Tryd.prog (.func 11) #[] #[v, .int .i64 i] σ fun w σ' => Old σ σ' ∧ ∃ u, w = .tuple #[u, .int .i64 (consE L i)] ∧ Ls σ' u (consP L i) := by
 refine App.of_sem mixed Tryd.func11 t11 k11 r11 (Nat.le_of_ble_eq_true rfl) ?_
 obtain ⟨a, c, rfl⟩ := hL.slice
 rw [← ap_nil (σ := σ)]
 unfold s11 consE consP
 by_cases g1 : i < 0
 ·have d1 : decide (i < 0) = true := decide_eq_true g1
  simp only [↓eD, eZ, ↓reduceIte, Nat.reduceEqDiff, Nat.reduceAdd, Nat.reduceMul, reduceCtorEq, Nat.reduceLeDiff, Int.reduceLT, Int.reduceLE, Int.reduceToNat, Int.reduceEq, Nat.reduceLT, d1, undef_eq]
  rw [if_pos (.inl g1), if_pos (.inl g1), ap_nil]
  exact ⟨Old.refl, _, rfl, ls_nil⟩
 have d1 : decide (i < 0) = false := decide_eq_false g1
 by_cases g2 : (L.length : Int) < i
 ·have d2 : decide ((L.length : Int) < i) = true := decide_eq_true g2
  simp only [↓eD, eZ, ↓reduceIte, Nat.reduceEqDiff, Nat.reduceAdd, Nat.reduceMul, reduceCtorEq, Nat.reduceLeDiff, Int.reduceLT, Int.reduceLE, Int.reduceToNat, Int.reduceEq, Nat.reduceLT, d1, d2, undef_eq]
  rw [if_pos (.inr g2), if_pos (.inr g2), ap_nil]
  exact ⟨Old.refl, _, rfl, ls_nil⟩
 have d2 : decide ((L.length : Int) < i) = false := decide_eq_false g2
 rw [if_neg (by omega), if_neg (by omega)]
 by_cases g3 : i = 0
 ·have d3 : decide (i = 0) = true := decide_eq_true g3
  simp only [↓eD, eZ, ↓reduceIte, Nat.reduceEqDiff, Nat.reduceAdd, Nat.reduceMul, reduceCtorEq, Nat.reduceLeDiff, Int.reduceLT, Int.reduceLE, Int.reduceToNat, Int.reduceEq, Nat.reduceLT, d1, d2, d3, undef_eq]
  rw [if_pos (.inl g3), ap_nil]
  exact ⟨Old.refl, _, rfl, ls_nil⟩
 have d3 : decide (i = 0) = false := decide_eq_false g3
 by_cases g4 : i = (L.length : Int)
 ·have d4 : decide (i = (L.length : Int)) = true := decide_eq_true g4
  simp only [↓eD, eZ, ↓reduceIte, Nat.reduceEqDiff, Nat.reduceAdd, Nat.reduceMul, reduceCtorEq, Nat.reduceLeDiff, Int.reduceLT, Int.reduceLE, Int.reduceToNat, Int.reduceEq, Nat.reduceLT, d1, d2, d3, d4, undef_eq]
  rw [if_pos (.inr g4), ap_nil]
  exact ⟨Old.refl, _, rfl, ls_nil⟩
 have d4 : decide (i = (L.length : Int)) = false := decide_eq_false g4
 rw [if_neg (by omega)]
 simp only [↓eD, eZ, ↓reduceIte, Nat.reduceEqDiff, Nat.reduceAdd, Nat.reduceMul, reduceCtorEq, Nat.reduceLeDiff, Int.reduceLT, Int.reduceLE, Int.reduceToNat, Int.reduceEq, Nat.reduceLT, d1, d2, d3, d4, undef_eq]
 obtain ⟨T, hT⟩ : ∃ T, T = ap σ [.cells 0 [.slice none 0 0] (0, 0), .cells 1 [.func (.func 34) #[] #[.pointer (some ⟨σ.size, 0, none⟩), .pointer (some ⟨σ.size + 1, 0, none⟩)]] (0, 0)] := ⟨_, rfl⟩
 rw [← hT]
 have oT : Old σ T := by rw [hT]; exact .ap
 have sT : T.size = σ.size + 2 := by rw [hT]; simp [ap_size]
 obtain ⟨j, rfl⟩ : ∃ j : Nat, i = (j : Int) := ⟨i.toNat, by omega⟩
 have hI : Inc σ T (σ.size + 1) σ.size (σ.size + 2) (.func (.func 34) #[] #[.pointer (some ⟨σ.size, 0, none⟩), .pointer (some ⟨σ.size + 1, 0, none⟩)]) [] :=
  ⟨oT, by omega, by omega, by omega, by omega, by omega, by omega, ⟨1, by rw [hT, ap_new]; rfl⟩, ⟨0, _, by rw [hT, ap_new0]; rfl, Grown.nil⟩⟩
 clear hT
 refine appK_of (cons1_app hG L.length T _ L j true [] (Nat.le_refl _) (by omega) (by omega) hn (by simp; omega) hL hI) ?_
 rintro _ τ ⟨rfl, oτ, hJ⟩
 rw [List.nil_append] at hJ
 obtain ⟨ver, u, hb, hg⟩ := hJ.o
 have ru : rd1 τ ⟨σ.size, 0, none⟩ = some u := rd1_of hb Old.refl (k := 0) rfl
 simp only [↓eD, eZ, ↓reduceIte, Nat.reduceEqDiff, Nat.reduceAdd, Nat.reduceMul, reduceCtorEq, Nat.reduceLeDiff, Int.reduceLT, Int.reduceLE, Int.reduceToNat, Int.reduceEq, Nat.reduceLT, ru, undef_eq]
 rw [Int.toNat_natCast]
 exact ⟨hJ.old, u, rfl, grown_ls hg (consF_dig (Nat.le_refl _) hL.d)⟩
end Go.Proofs.YtjgbbhfihcmphaaDoor
