/- Walks and plain laws. Conditions: none. -/
import Derived.Test.YtjgbbhfihcmphaaDoorBodiesL7
set_option linter.all false
set_option maxRecDepth 10000
set_option maxHeartbeats 4000000
namespace Go.Proofs.YtjgbbhfihcmphaaDoor
open Go Go.Cn Go.RowKit
attribute [local irreducible] evL sem onG onI onV
theorem tz1_odd {n : Nat} (h : n % 2 = 1) : tz1 n = 1 + tz1 (n / 2) := by rw [tz1, dif_pos h]
theorem tz1_even {n : Nat} (h : ¬ n % 2 = 1) : tz1 n = 0 := by rw [tz1, dif_neg h]
theorem rappend_app {σ : H} {v : Value} {n : Int} {T : List (List Int)} {leaf : List Int} (hT : Ls σ v T) (hl : leaf.length = 16) (hn : T.length ≤ 1000) (hG : Glob σ) :
  App Tryd.prog (.func 30) #[] #[.agg #[.int .i64 n, v], .agg (digC leaf).toArray] σ fun w σ' => Old σ σ' ∧ ∃ u, w = .agg #[.int .i64 (appN n T), u, .int .i64 (appE n T)] ∧ Grown σ σ' 16 u ((appT n T leaf).map digC).flatten (appT n T leaf).length ∧ ∀ d ∈ appT n T leaf, d.length = 16 := by
 refine App.of_sem mixed Tryd.func30 t30 k30 r30 (Nat.le_of_ble_eq_true rfl) ?_
 obtain ⟨a, c, rfl⟩ := hT.slice
 obtain ⟨q1, q2, q3, q4⟩ := dig_len hl
 rw [← ap_nil (σ := σ)]
 unfold s30
 simp only [↓eD, eZ, ↓reduceIte, Nat.reduceEqDiff, Nat.reduceAdd, Nat.reduceMul, reduceCtorEq, Nat.reduceLeDiff, Int.reduceLT, Int.reduceLE, Int.reduceToNat, Int.reduceEq, Nat.reduceLT, rep16, q1, q2, undef_eq]
 obtain ⟨Z, hZ⟩ : ∃ Z, Z = ap σ [.cells 0 [.int .i64 n, .slice a T.length c] (0, 0), .cells 0 (digC leaf) (0, 0), .cells 0 [.int .i64 0, .slice none 0 0, .int .i64 0] (0, 0)] := ⟨_, rfl⟩
 rw [← hZ]
 have oZ : Old σ Z := by rw [hZ]; exact .ap
 have sZ : Z.size = σ.size + 3 := by rw [hZ]; simp [ap_size]
 have z0 : Z[σ.size]? = some (.cells 0 [.int .i64 n, .slice a T.length c] (0, 0)) := by rw [hZ, ap_new0]; rfl
 have z1 : Z[σ.size + 1]? = some (.cells 0 (digC leaf) (0, 0)) := by rw [hZ, ap_new]; rfl
 have z2 : Z[σ.size + 2]? = some (.cells 0 [.int .i64 0, .slice none 0 0, .int .i64 0] (0, 0)) := by rw [hZ, ap_new]; rfl
 clear hZ
 refine appK_at (rformed_app (hT.Old oZ)) ?_
 have pk : ∀ (θ : H) (x y : Int) (u : Value), u.oneCell' = true → θ[σ.size + 2]? = some (.cells 0 [.int .i64 0, .slice none 0 0, .int .i64 0] (0, 0)) → wrN θ ⟨σ.size + 2, 0, none⟩ [.int .i64 x, u, .int .i64 y] = some (θ.setIfInBounds (σ.size + 2) (.cells 1 [.int .i64 x, u, .int .i64 y] (0, 0))) ∧ rdN (θ.setIfInBounds (σ.size + 2) (.cells 1 [.int .i64 x, u, .int .i64 y] (0, 0))) ⟨σ.size + 2, 0, none⟩ 3 = some [.int .i64 x, u, .int .i64 y] := fun θ x y u hu h => by
  refine ⟨?_, rdN_all (get_set h) rfl⟩
  rw [wrN_eq, if_neg (by simp), h, wrc_cells, if_pos ⟨by simp, by simp [hu]; constructor <;> rfl⟩]
  rfl
 cases g1 : formedF n T with
 |false =>
  have hE : appE n T = 3 := by unfold appE; rw [g1]; rfl
  have hN : appN n T = 0 := by unfold appN; rw [hE]; rfl
  have hT' : appT n T leaf = [] := by unfold appT; rw [hE]; rfl
  obtain ⟨w2, r2⟩ := pk Z 0 3 (.slice none 0 0) rfl z2
  simp only [↓eD, eZ, ↓reduceIte, Nat.reduceEqDiff, Nat.reduceAdd, Nat.reduceMul, reduceCtorEq, Nat.reduceLeDiff, Int.reduceLT, Int.reduceLE, Int.reduceToNat, Int.reduceEq, Nat.reduceLT, w2, r2, Bool.not_false, undef_eq]
  rw [hE, hN, hT']
  exact ⟨oZ.set (by omega), _, rfl, Grown.nil, fun d h => by cases h⟩
 |true =>
 have r0 : rd1 Z ⟨σ.size, 0, none⟩ = some (.int .i64 n) := rd1_of z0 .refl rfl
 by_cases g2 : n = 1099511627776
 ·have d2 : decide (n = 1099511627776) = true := decide_eq_true g2
  have hE : appE n T = 2 := by unfold appE; rw [g1, if_pos rfl, if_pos g2]
  have hN : appN n T = 0 := by unfold appN; rw [hE]; rfl
  have hT' : appT n T leaf = [] := by unfold appT; rw [hE]; rfl
  obtain ⟨w2, r2⟩ := pk Z 0 2 (.slice none 0 0) rfl z2
  simp only [↓eD, eZ, ↓reduceIte, Nat.reduceEqDiff, Nat.reduceAdd, Nat.reduceMul, reduceCtorEq, Nat.reduceLeDiff, Int.reduceLT, Int.reduceLE, Int.reduceToNat, Int.reduceEq, Nat.reduceLT, w2, r2, r0, d2, Bool.not_true, undef_eq]
  rw [hE, hN, hT']
  exact ⟨oZ.set (by omega), _, rfl, Grown.nil, fun d h => by cases h⟩
 have d2 : decide (n = 1099511627776) = false := decide_eq_false g2
 have hE : appE n T = 0 := by unfold appE; rw [g1, if_pos rfl, if_neg g2]
 have hf : 0 ≤ n ∧ n ≤ 1099511627776 ∧ T.length = onesF n.toNat := by unfold formedF at g1; exact of_decide_eq_true g1
 have hN : appN n T = n + 1 := by unfold appN; rw [hE]; rfl
 have hT' : appT n T leaf = T.take (keepF n T) ++ [(T.drop (keepF n T)).foldr nodeF leaf] := by unfold appT; rw [hE]; rfl
 obtain ⟨x, rfl⟩ : ∃ x : Nat, n = (x : Int) := ⟨n.toNat, by omega⟩
 have htz := tz1_le x x (Nat.le_refl _)
 rw [Int.toNat_natCast] at hf
 have hkp : keepF (x : Int) T = T.length - tz1 x := by unfold keepF; rw [Int.toNat_natCast]
 rw [hkp] at hT'
 rw [hE, hN, hT']
 clear hE hN hT' hkp
 have htT : tz1 x ≤ T.length := by omega
 have hx : x ≤ 1099511627776 := by omega
 clear htz hf g1
 have r1 : rd1 Z ⟨σ.size, 1, none⟩ = some (.slice a T.length c) := rd1_of z0 .refl rfl
 have hbig : T.length < big := Nat.lt_of_le_of_lt hn (by decide)
 have hs3 : (sized (σ.size + 3)).size = σ.size + 3 := sized_size
 have hfl : ∀ {M : List (List Int)}, (∀ d ∈ M, d.length = 16) → (M.map digC).flatten.length = M.length * 16 := fun h => by rw [flatten_length (dig_rows h), List.length_map]
 have r1' : ∀ M, rd1 (ap Z M) ⟨σ.size, 1, none⟩ = some (.slice a T.length c) := fun M => rd1_old r1
 have r0' : ∀ M, rd1 (ap Z M) ⟨σ.size, 0, none⟩ = some (.int .i64 (x : Int)) := fun M => rd1_old r0
 rw [← ap_nil (σ := Z)]
 simp only [↓eD, eZ, ↓reduceIte, Nat.reduceEqDiff, Nat.reduceAdd, Nat.reduceMul, reduceCtorEq, Nat.reduceLeDiff, Int.reduceLT, Int.reduceLE, Int.reduceToNat, Int.reduceEq, Nat.reduceLT, r0', r1', d2, Bool.not_true, undef_eq]
 have g0 : Grown (sized (σ.size + 3)) (ap Z [.cells 0 [] (0, 0)]) 16 (.slice (some ⟨Z.size, 0, none⟩) 0 0) [] 0 := Grown.lit (ver := 0) rfl (by decide) (by omega) (by rw [ap_new0]; rfl)
 obtain ⟨u0, Y, ha, A⟩ := append_grown (bytes := 16) g0 (by omega) (by rw [hs3, ap_size, sZ]; simp) ((hT.Old oZ).Old .ap).x (hfl hT.d) dig_ones (by omega) (by omega)
 refine onV_of ha ?_
 have oY : Old Z Y := A.Old' g0 (by omega) .ap
 have gY := A.grown
 rw [List.nil_append, Nat.zero_add] at gY
 have sY : Z.size + 1 ≤ Y.size := by have := A.size; rw [ap_size] at this; simpa using this
 clear A ha g0
 have f1 : ∀ M, rdN (ap Y M) ⟨σ.size + 1, 0, none⟩ 16 = some (digC leaf) := fun M => rdb_of ((oY.2 _ (by omega)).trans z1) .ap q1
 have y0 := (oY.2 σ.size (by omega)).trans z0
 have f0 : ∀ M, rd1 (ap Y M) ⟨σ.size, 0, none⟩ = some (.int .i64 (x : Int)) := fun M => rd1_of y0 .ap rfl
 rw [← ap_nil (σ := Y)]
 simp only [↓eD, eZ, ↓reduceIte, Nat.reduceEqDiff, Nat.reduceAdd, Nat.reduceMul, reduceCtorEq, Nat.reduceLeDiff, Int.reduceLT, Int.reduceLE, Int.reduceToNat, Int.reduceEq, Nat.reduceLT, f1, f0, rep16, q1, q2, q3, q4, digC_one, undef_eq]
 refine loop_for (J := fun i e η => ∃ (y : Nat) (u : Value) (ver : Nat), tz1 x = i + tz1 y ∧ y ≤ x ∧ e = [(2, .pointer (some ⟨σ.size, 0, none⟩)), (4, .pointer (some ⟨σ.size + 2, 0, none⟩)), (6, u), (7, .pointer (some ⟨Y.size, 0, none⟩)), (8, .int .i64 (y : Int))] ∧ Old Z η ∧
   η[Y.size]? = some (.cells ver (digC ((T.drop (T.length - i)).foldr nodeF leaf)) (0, 0)) ∧ Grown (sized (σ.size + 3)) η 16 u ((T.take (T.length - i)).map digC).flatten (T.take (T.length - i)).length ∧ baseOf u ≠ some Y.size) (tz1 x)
  ⟨x, u0, 1, by omega, by omega, rfl, oY.trans .ap, by rw [Nat.sub_zero, List.drop_length]; exact ap_new0, by rw [Nat.sub_zero, List.take_length]; exact gY.old .ap, fun h => by have := (gY.base h).2; omega⟩ ?_
 rintro i e η hi ⟨y, u, ver, hty, hyx, rfl, oη, hq, hg, hb⟩
 have hTk : ∀ {k}, ∀ d ∈ T.take k, d.length = 16 := fun d hd => hT.d d (List.mem_of_mem_take hd)
 have hls := grown_ls hg hTk
 have E16 : ((T.drop (T.length - i)).foldr nodeF leaf).length = 16 := fold_len (fun x hx => hT.d x (List.mem_of_mem_drop hx)) hl
 have lη := (Array.getElem?_eq_some_iff.1 hq).1
 have e2 : ((2 : Int) = 0) = False := by simp
 have m2 : Int.tmod (y : Int) 2 = ((y % 2 : Nat) : Int) := rfl
 by_cases hodd : y % 2 = 1
 ·have hst := tz1_odd hodd
  have hik : i < tz1 x := by omega
  have dl : decide (((y % 2 : Nat) : Int) = 1) = true := by rw [decide_eq_true]; omega
  have w2 : IntKind.wrap .i64 (Int.tdiv (y : Int) 2) = ((y / 2 : Nat) : Int) := by rw [show Int.tdiv (y : Int) 2 = ((y / 2 : Nat) : Int) from rfl, wrap64' (by omega) (by omega)]
  have hlen : (T.take (T.length - i)).length = T.length - i := by rw [List.length_take]; omega
  have wl : IntKind.wrap .i64 (((T.take (T.length - i)).length : Int) - 1) = ((T.length - i - 1 : Nat) : Int) := by rw [hlen, wrap64' (by omega) (by omega)]; omega
  have hbd : (0 : Int) ≤ ((T.length - i - 1 : Nat) : Int) ∧ ((T.length - i - 1 : Nat) : Int) < ((T.take (T.length - i)).length : Int) := by rw [hlen]; omega
  obtain ⟨ua, uc, rfl⟩ := hg.slice
  obtain ⟨ab, ao, rfl, hr⟩ := hls.at (i := T.length - i - 1) (by rw [hlen]; omega)
  have he : (T.take (T.length - i))[T.length - i - 1]'(by rw [hlen]; omega) = T[T.length - 1 - i]'(by omega) := by
   rw [List.getElem_take]
   congr 1
   omega
  rw [he] at hr
  have fs := fold_step (D := T) (d := leaf) (i := i) (by omega)
  have D16 := hT.d (T[T.length - 1 - i]'(by omega)) (List.getElem_mem _)
  generalize T[T.length - 1 - i]'(by omega) = D at hr fs D16
  generalize (T.drop (T.length - i)).foldr nodeF leaf = E at E16 hq fs
  obtain ⟨l1, l2, l3, l4⟩ := dig_len D16
  obtain ⟨m1, m2', m3, m4⟩ := dig_len E16
  have f7 := rdN_all (n := 16) hq m1
  simp only [↓eD, eZ, ↓reduceIte, Nat.reduceEqDiff, Nat.reduceAdd, Nat.reduceMul, reduceCtorEq, Nat.reduceLeDiff, Int.reduceLT, Int.reduceLE, Int.reduceToNat, Int.reduceEq, Nat.reduceLT, e2, m2, dl, wl, hbd, Int.toNat_natCast, hr, f7, undef_eq]
  refine appK_at (rnode_app D16 E16 (hG.Old (oZ.trans oη))) ?_
  have N16 : (nodeF D E).length = 16 := nodeF_len
  rw [← fs] at N16
  rw [← fs]
  generalize (T.drop (T.length - (i + 1))).foldr nodeF leaf = N at N16
  obtain ⟨n1, n2, n3, n4⟩ := dig_len N16
  obtain ⟨X, hX⟩ : ∃ X, X = η.setIfInBounds Y.size (.cells (ver + 1) (digC N) (0, 0)) := ⟨_, rfl⟩
  have w7 : wrN η ⟨Y.size, 0, none⟩ (digC N) = some (ap X []) := by rw [ap_nil, hX]; exact dig_put' N16 E16 hq
  have sX : X.size = η.size := by rw [hX]; simp
  have oX : Old Z X := by rw [hX]; exact oη.set (by omega)
  have xq : X[Y.size]? = some (.cells (ver + 1) (digC N) (0, 0)) := by rw [hX]; exact get_set hq
  have gX : Grown (sized (σ.size + 3)) X 16 (.slice (some ⟨ab, ao, none⟩) (T.take (T.length - i)).length uc) ((T.take (T.length - i)).map digC).flatten (T.take (T.length - i)).length := by
   rw [hX]
   exact hg.keep fun c k hc hk => by rw [get_set_ne]; exact hk; intro h9; exact hb (by rw [hc, h9])
  clear hX
  have hlsX := grown_ls gX hTk
  obtain ⟨v1, s1, L1, _⟩ := hlsX.sub (lo := 0) (hi := T.length - i - 1) (xl := none) (xh := some (.int .i64 ((T.length - i - 1 : Nat) : Int))) (xm := none) (by omega) (by rw [hlen]; omega) (by omega) (.inr ⟨rfl, rfl⟩) (.inl rfl) (.inl rfl)
  rw [List.drop_zero, List.take_take, show min (T.length - i - 1) (T.length - i) = T.length - (i + 1) by omega] at L1
  simp only [↓eD, eZ, ↓reduceIte, Nat.reduceEqDiff, Nat.reduceAdd, Nat.reduceMul, reduceCtorEq, Nat.reduceLeDiff, Int.reduceLT, Int.reduceLE, Int.reduceToNat, Int.reduceEq, Nat.reduceLT, n1, w7, wl, s1, undef_eq]
  have g0 : Grown (sized (σ.size + 3)) (ap X [.cells 0 [] (0, 0)]) 16 (.slice (some ⟨X.size, 0, none⟩) 0 0) [] 0 := Grown.lit (ver := 0) rfl (by decide) (by have := oX.1; omega) (by rw [ap_new0]; rfl)
  obtain ⟨u1, W, ha, A⟩ := append_grown (bytes := 16) g0 (by omega) (by have := oX.1; rw [hs3, ap_size]; omega) (L1.Old .ap).x (hfl L1.d) dig_ones (by rw [List.length_take]; omega) (by omega)
  refine onV_of ha ?_
  have gW := A.grown
  rw [List.nil_append, Nat.zero_add] at gW
  have hne : (some X.size : Option Nat) ≠ some Y.size := by intro h; injection h; omega
  have wq := A.frame Y.size _ ((ap_old (by omega)).trans xq) hne
  have oW : Old Z W := A.Old' g0 (by omega) (oX.trans .ap)
  have hbW : baseOf u1 ≠ some Y.size := by
   rcases A.base with h | h
   ·rw [h]; exact hne
   ·rw [h]; intro h9; injection h9 with h9; rw [ap_size] at h9; omega
  simp only [↓eD, eZ, ↓reduceIte, Nat.reduceEqDiff, Nat.reduceAdd, Nat.reduceMul, reduceCtorEq, Nat.reduceLeDiff, Int.reduceLT, Int.reduceLE, Int.reduceToNat, Int.reduceEq, Nat.reduceLT, e2, w2, undef_eq]
  exact ⟨hik, y / 2, u1, ver + 1, by omega, by omega, rfl, oW, wq, gW, hbW⟩
 ·have hst := tz1_even hodd
  have dl : decide (((y % 2 : Nat) : Int) = 1) = false := by rw [decide_eq_false]; omega
  have hit : i = tz1 x := by omega
  rw [← hit]
  have p0 := (oη.2 σ.size (by omega)).trans z0
  have p2 := (oη.2 (σ.size + 2) (by omega)).trans z2
  have rp : ∀ M, rd1 (ap η M) ⟨σ.size, 0, none⟩ = some (.int .i64 (x : Int)) := fun M => rd1_of p0 .ap rfl
  generalize (T.drop (T.length - i)).foldr nodeF leaf = E at E16 hq
  obtain ⟨m1, m2', m3, m4⟩ := dig_len E16
  have f7 : ∀ M, rdN (ap η M) ⟨Y.size, 0, none⟩ 16 = some (digC E) := fun M => rdb_of hq .ap m1
  have wx1 : IntKind.wrap .i64 ((x : Int) + 1) = (x : Int) + 1 := by rw [wrap64' (by omega) (by omega)]
  obtain ⟨ua, uc, rfl⟩ := hg.slice
  rw [← ap_nil (σ := η)]
  simp only [↓eD, eZ, ↓reduceIte, Nat.reduceEqDiff, Nat.reduceAdd, Nat.reduceMul, reduceCtorEq, Nat.reduceLeDiff, Int.reduceLT, Int.reduceLE, Int.reduceToNat, Int.reduceEq, Nat.reduceLT, e2, m2, dl, rp, f7, wx1, rep16, m1, m2', m3, m4, digC_one, undef_eq]
  have xc : xcells (ap η [.cells 0 (digC E) (0, 0)]) 16 (.slice (some ⟨η.size, 0, none⟩) 1 1) = some (1, digC E) := by
   show (rdN _ ⟨η.size, 0, none⟩ (1 * 16)).map (1, ·) = _
   rw [rdN_all (n := 1 * 16) (by rw [ap_new0]; rfl) (by rw [m1])]
   rfl
  have gη := hg.old (σ' := ap η [.cells 0 (digC E) (0, 0)]) .ap
  obtain ⟨v6, χ, ha, A⟩ := append_grown (bytes := 16) gη (by omega) (by have := oη.1; rw [hs3, ap_size]; omega) xc (by rw [m1]) digC_one (by rw [List.length_take]; omega) (by omega)
  refine onV_of ha ?_
  have oχ : Old Z χ := A.Old' gη (by omega) (oη.trans .ap)
  have c0 := (oχ.2 σ.size (by omega)).trans z0
  have c2 := (oχ.2 (σ.size + 2) (by omega)).trans z2
  have rc : rd1 χ ⟨σ.size, 0, none⟩ = some (.int .i64 (x : Int)) := rd1_of c0 .refl rfl
  obtain ⟨xa, xcc, rfl⟩ := A.grown.slice
  obtain ⟨w2, r2⟩ := pk χ ((x : Int) + 1) 0 (.slice xa ((T.take (T.length - i)).length + 1) xcc) rfl c2
  simp only [↓eD, eZ, ↓reduceIte, Nat.reduceEqDiff, Nat.reduceAdd, Nat.reduceMul, reduceCtorEq, Nat.reduceLeDiff, Int.reduceLT, Int.reduceLE, Int.reduceToNat, Int.reduceEq, Nat.reduceLT, rc, wx1, w2, r2, undef_eq]
  rw [ap_nil (σ := σ)]
  refine ⟨(oZ.trans oχ).set (by omega), _, rfl, ?_, fun d hd => ?_⟩
  ·have := (A.grown.set (b := σ.size + 2) (k := .cells 1 [.int .i64 ((x : Int) + 1), .slice xa ((T.take (T.length - i)).length + 1) xcc, .int .i64 0] (0, 0)) (by omega)).from (σ0 := σ) (by omega)
   rw [List.map_append, List.flatten_append, List.length_append]
   simpa using this
  ·rcases List.mem_append.1 hd with hd | hd
   ·exact hTk d hd
   ·rw [List.mem_singleton] at hd; rw [hd]; exact E16
def lit17 : List Value := [.int .u8 0, .int .u8 0, .int .u8 0, .int .u8 0, .int .u8 0, .int .u8 0, .int .u8 0, .int .u8 0, .int .u8 0, .int .u8 0, .int .u8 0, .int .u8 0, .int .u8 0, .int .u8 0, .int .u8 0, .int .u8 0, .int .i64 0]
theorem set17 {X : List Value} (h : X.length = 16) : sets [.int .u8 0, .int .u8 0, .int .u8 0, .int .u8 0, .int .u8 0, .int .u8 0, .int .u8 0, .int .u8 0, .int .u8 0, .int .u8 0, .int .u8 0, .int .u8 0, .int .u8 0, .int .u8 0, .int .u8 0, .int .u8 0, .int .i64 0] 0 X = X ++ [.int .i64 0] := by
 have e : ([.int .u8 0, .int .u8 0, .int .u8 0, .int .u8 0, .int .u8 0, .int .u8 0, .int .u8 0, .int .u8 0, .int .u8 0, .int .u8 0, .int .u8 0, .int .u8 0, .int .u8 0, .int .u8 0, .int .u8 0, .int .u8 0, .int .i64 0] : List Value) = List.replicate 16 (.int .u8 0) ++ [.int .i64 0] := rfl
 rw [e, sets_all (by rw [h]; simp), h]
 rfl
theorem cells17 {D : List Int} {y : Int} (hD : D.length = 16) : (digC D ++ [Value.int .i64 y]).length = 17 := by rw [List.length_append, digC_length, hD]; rfl
theorem one17 {D : List Int} {y : Int} : (digC D ++ [Value.int .i64 y]).all Value.oneCell' = true := by rw [List.all_append, digC_one]; rfl
theorem flat17 {D : List Int} {y : Int} : flat (.agg (digC D ++ [Value.int .i64 y]).toArray) = true := by
 simp [flat, digC, flat.flat1]
theorem put17 {θ : H} {b : Nat} {D : List Int} {y : Int} (hD : D.length = 16) (hb : θ[b]? = some (.cells 0 lit17 (0, 0))) :
  wrN θ ⟨b, 0, none⟩ (digC D ++ [.int .i64 y]) = some (θ.setIfInBounds b (.cells 1 (digC D ++ [.int .i64 y]) (0, 0))) ∧ rdN (θ.setIfInBounds b (.cells 1 (digC D ++ [.int .i64 y]) (0, 0))) ⟨b, 0, none⟩ 17 = some (digC D ++ [.int .i64 y]) := by
 have l := cells17 (y := y) hD
 refine ⟨?_, rdN_all (get_set hb) l⟩
 rw [wrN_eq, if_neg (by intro h; rw [h] at l; cases l), hb, wrc_cells, if_pos ⟨by rw [l]; show 0 + 17 ≤ 17; omega, one17⟩, sets_all (by rw [l]; show 0 + 17 ≤ 17; omega), l]
 rw [show List.take 0 lit17 = [] from rfl, show List.drop (0 + 17) lit17 = [] from rfl, List.append_nil]
 rfl
theorem onesF_pos : ∀ (N n : Nat), n ≤ N → 0 < n → 0 < onesF n
 |0, n, h, h0 => by omega
 |N + 1, n, h, h0 => by
  rw [onesF_step]
  by_cases h1 : n % 2 = 1
  ·omega
  ·have := onesF_pos N (n / 2) (by omega) (by omega)
   omega
theorem rtop_app {σ : H} {v : Value} {n : Int} {T : List (List Int)} (hT : Ls σ v T) (hn : T.length ≤ 1000) (hG : Glob σ) :
  App Tryd.prog (.func 31) #[] #[.agg #[.int .i64 n, v]] σ fun w σ' => σ' = σ ∧ w = .agg (digC (topD n T) ++ [Value.int .i64 (topE n T)]).toArray := by
 refine App.forget (App.of_sem mixed Tryd.func31 t31 k31 r31 (Nat.le_of_ble_eq_true rfl) ?_)
 obtain ⟨a, c, rfl⟩ := hT.slice
 rw [← ap_nil (σ := σ)]
 unfold s31 topE topD
 simp only [↓eD, eZ, ↓reduceIte, Nat.reduceEqDiff, Nat.reduceAdd, Nat.reduceMul, reduceCtorEq, Nat.reduceLeDiff, Int.reduceLT, Int.reduceLE, Int.reduceToNat, Int.reduceEq, Nat.reduceLT, rep16, undef_eq]
 obtain ⟨Z, hZ⟩ : ∃ Z, Z = ap σ [.cells 0 [.int .i64 n, .slice a T.length c] (0, 0), .cells 0 [.int .u8 0, .int .u8 0, .int .u8 0, .int .u8 0, .int .u8 0, .int .u8 0, .int .u8 0, .int .u8 0, .int .u8 0, .int .u8 0, .int .u8 0, .int .u8 0, .int .u8 0, .int .u8 0, .int .u8 0, .int .u8 0, .int .i64 0] (0, 0)] := ⟨_, rfl⟩
 rw [← hZ]
 have oZ : Old σ Z := by rw [hZ]; exact .ap
 have sZ : Z.size = σ.size + 2 := by rw [hZ]; simp [ap_size]
 have z0 : Z[σ.size]? = some (.cells 0 [.int .i64 n, .slice a T.length c] (0, 0)) := by rw [hZ, ap_new0]; rfl
 have z1 : Z[σ.size + 1]? = some (.cells 0 lit17 (0, 0)) := by rw [hZ, ap_new]; rfl
 clear hZ
 refine appK_at (rformed_app (hT.Old oZ)) ?_
 cases g1 : formedF n T with
 |false =>
  obtain ⟨w1, r1⟩ := put17 (D := List.replicate 16 0) (y := 3) zero16 z1
  rw [← digC_rep] at w1 r1
  have w1' : wrN Z ⟨σ.size + 1, 0, none⟩ [.int .u8 0, .int .u8 0, .int .u8 0, .int .u8 0, .int .u8 0, .int .u8 0, .int .u8 0, .int .u8 0, .int .u8 0, .int .u8 0, .int .u8 0, .int .u8 0, .int .u8 0, .int .u8 0, .int .u8 0, .int .u8 0, .int .i64 3] = _ := w1
  simp only [↓eD, eZ, ↓reduceIte, Nat.reduceEqDiff, Nat.reduceAdd, Nat.reduceMul, reduceCtorEq, Nat.reduceLeDiff, Int.reduceLT, Int.reduceLE, Int.reduceToNat, Int.reduceEq, Nat.reduceLT, w1', r1, Bool.not_false, undef_eq]
  rw [← digC_rep]
  have fz := flat17 (D := List.replicate 16 0) (y := 3)
  rw [← digC_rep] at fz
  exact ⟨oZ.set (by omega), fz, rfl⟩
 |true =>
 rw [if_pos rfl, if_pos rfl]
 have r0 : rd1 Z ⟨σ.size, 0, none⟩ = some (.int .i64 n) := rd1_of z0 .refl rfl
 by_cases g2 : n = 0
 ·have d2 : decide (n = 0) = true := decide_eq_true g2
  simp only [↓eD, eZ, ↓reduceIte, Nat.reduceEqDiff, Nat.reduceAdd, Nat.reduceMul, reduceCtorEq, Nat.reduceLeDiff, Int.reduceLT, Int.reduceLE, Int.reduceToNat, Int.reduceEq, Nat.reduceLT, d2, r0, Bool.not_true, undef_eq]
  refine appK_at (rempty_app (hG.Old oZ)) ?_
  have D16 := emptyF_len
  have h0 : T = [] := by
   unfold formedF at g1
   have h9 := (of_decide_eq_true g1).2.2
   rw [g2] at h9
   rw [show onesF (Int.toNat 0) = 0 by rw [show Int.toNat 0 = 0 from rfl, onesF]; rfl] at h9
   exact List.eq_nil_of_length_eq_zero h9
  have : topF T = emptyF := by unfold topF; rw [dif_pos h0]
  rw [this]
  generalize emptyF = D at D16
  obtain ⟨l1, l2, l3, l4⟩ := dig_len D16
  obtain ⟨w1, r1⟩ := put17 (y := 0) D16 z1
  simp only [↓eD, eZ, ↓reduceIte, Nat.reduceEqDiff, Nat.reduceAdd, Nat.reduceMul, reduceCtorEq, Nat.reduceLeDiff, Int.reduceLT, Int.reduceLE, Int.reduceToNat, Int.reduceEq, Nat.reduceLT, l1, set17 l1, cells17 D16, w1, r1, undef_eq]
  first | exact ⟨oZ.set (by omega), flat17, rfl⟩ | exact ⟨oZ.set (by omega), flat17⟩
 have d2 : decide (n = 0) = false := decide_eq_false g2
 have hpos : 0 < T.length := by
  unfold formedF at g1
  obtain ⟨h7, h8, h9⟩ := of_decide_eq_true g1
  rw [h9]
  exact onesF_pos _ _ (Nat.le_refl _) (by omega)
 have hw : IntKind.wrap .i64 ((T.length : Int) - 1) = ((T.length - 1 : Nat) : Int) := by rw [wrap64' (by omega) (by omega)]; omega
 have hw2 : IntKind.wrap .i64 ((T.length : Int) - 2) = (T.length : Int) - 2 - ((0 : Nat) : Int) := by rw [wrap64' (by omega) (by omega)]; omega
 have hb : (0 : Int) ≤ ((T.length - 1 : Nat) : Int) ∧ ((T.length - 1 : Nat) : Int) < (T.length : Int) := by omega
 obtain ⟨ab, ao, rfl, hr⟩ := (hT.Old oZ).at (i := T.length - 1) (by omega)
 have hF : topF T = T.dropLast.foldr nodeF (T[T.length - 1]'(by omega)) := by
  unfold topF
  rw [dif_neg (fun h => by rw [h] at hpos; cases hpos), List.getLast_eq_getElem]
 have D16 := hT.d (T[T.length - 1]'(by omega)) (List.getElem_mem _)
 rw [hF]
 generalize T[T.length - 1]'(by omega) = d at hr D16 ⊢
 obtain ⟨l1, l2, l3, l4⟩ := dig_len D16
 have r1' : ∀ M, rd1 (ap Z M) ⟨σ.size, 1, none⟩ = some (.slice (some ⟨ab, ao, none⟩) T.length c) := fun M => rd1_of z0 .ap rfl
 have r0' : ∀ M, rd1 (ap Z M) ⟨σ.size, 0, none⟩ = some (.int .i64 n) := fun M => rd1_of z0 .ap rfl
 have hr' : ∀ M, rdN (ap Z M) ⟨ab, ao + (T.length - 1) * 16, none⟩ 16 = some (digC d) := fun M => rdN_old hr
 rw [← ap_nil (σ := Z)]
 simp only [↓eD, eZ, ↓reduceIte, Nat.reduceEqDiff, Nat.reduceAdd, Nat.reduceMul, reduceCtorEq, Nat.reduceLeDiff, Int.reduceLT, Int.reduceLE, Int.reduceToNat, Int.reduceEq, Nat.reduceLT, d2, r0', r1', hw, hw2, hb, Int.toNat_natCast, hr', rep16, l1, l2, l3, l4, digC_one, Bool.not_true, undef_eq]
 have hdl : T.dropLast.length = T.length - 1 := List.length_dropLast
 have hdd : ∀ x ∈ T.dropLast, x.length = 16 := fun x hx => hT.d x (List.dropLast_subset _ hx)
 refine loop_for (J := fun i e η => i ≤ T.length - 1 ∧ e = [(1, .pointer (some ⟨σ.size, 0, none⟩)), (2, .pointer (some ⟨σ.size + 1, 0, none⟩)), (4, .pointer (some ⟨Z.size, 0, none⟩)), (5, .int .i64 ((T.length : Int) - 2 - (i : Int)))] ∧ Old Z η ∧
   ∃ ver, η[Z.size]? = some (.cells ver (digC ((T.dropLast.drop (T.dropLast.length - i)).foldr nodeF d)) (0, 0))) (T.length - 1)
  ⟨by omega, rfl, .ap, 1, by rw [Nat.sub_zero, List.drop_length]; exact ap_new0⟩ ?_
 rintro i e η _ ⟨hi, rfl, oη, ver, hq⟩
 have E16 : ((T.dropLast.drop (T.dropLast.length - i)).foldr nodeF d).length = 16 := fold_len (fun x hx => hdd x (List.mem_of_mem_drop hx)) D16
 have p0 := (oη.2 σ.size (by omega)).trans z0
 have rp : rd1 η ⟨σ.size, 1, none⟩ = some (.slice (some ⟨ab, ao, none⟩) T.length c) := rd1_of p0 .refl rfl
 by_cases hlt : i < T.length - 1
 ·have dl : decide (0 ≤ (T.length : Int) - 2 - (i : Int)) = true := by rw [decide_eq_true]; omega
  have hj : (T.length : Int) - 2 - (i : Int) = ((T.length - 2 - i : Nat) : Int) := by omega
  have hbd : (0 : Int) ≤ ((T.length - 2 - i : Nat) : Int) ∧ ((T.length - 2 - i : Nat) : Int) < (T.length : Int) := by omega
  have hwn : IntKind.wrap .i64 (((T.length - 2 - i : Nat) : Int) - 1) = (T.length : Int) - 2 - ((i + 1 : Nat) : Int) := by rw [wrap64' (by omega) (by omega)]; omega
  rw [hj] at dl ⊢
  have hTη : Ls η (.slice (some ⟨ab, ao, none⟩) T.length c) T := hT.Old (oZ.trans oη)
  obtain ⟨b', o', he, hx⟩ := hTη.at (i := T.length - 2 - i) (by omega)
  injection he with he
  injection he with he1 he2
  subst he1 he2
  have fs := fold_step (D := T.dropLast) (d := d) (i := i) (by omega)
  have hge : T.dropLast[T.dropLast.length - 1 - i]'(by omega) = T[T.length - 2 - i]'(by omega) := by
   rw [List.getElem_dropLast]
   congr 1
   omega
  rw [hge] at fs
  have X16 := hT.d (T[T.length - 2 - i]'(by omega)) (List.getElem_mem _)
  generalize T[T.length - 2 - i]'(by omega) = x at hx fs X16
  generalize (T.dropLast.drop (T.dropLast.length - i)).foldr nodeF d = E at E16 hq fs
  obtain ⟨m1, m2, m3, m4⟩ := dig_len E16
  have f4 := rdN_all (n := 16) hq m1
  simp only [↓eD, eZ, ↓reduceIte, Nat.reduceEqDiff, Nat.reduceAdd, Nat.reduceMul, reduceCtorEq, Nat.reduceLeDiff, Int.reduceLT, Int.reduceLE, Int.reduceToNat, Int.reduceEq, Nat.reduceLT, dl, rp, hbd, Int.toNat_natCast, hx, f4, undef_eq]
  refine appK_at (rnode_app X16 E16 (hG.Old (oZ.trans oη))) ?_
  have N16 : (nodeF x E).length = 16 := nodeF_len
  rw [← fs] at N16
  rw [← fs]
  generalize (T.dropLast.drop (T.dropLast.length - (i + 1))).foldr nodeF d = N at N16
  obtain ⟨n1, n2, n3, n4⟩ := dig_len N16
  have w4 : wrN η ⟨Z.size, 0, none⟩ (digC N) = some (η.setIfInBounds Z.size (.cells (ver + 1) (digC N) (0, 0))) := dig_put' N16 E16 hq
  simp only [↓eD, eZ, ↓reduceIte, Nat.reduceEqDiff, Nat.reduceAdd, Nat.reduceMul, reduceCtorEq, Nat.reduceLeDiff, Int.reduceLT, Int.reduceLE, Int.reduceToNat, Int.reduceEq, Nat.reduceLT, n1, w4, hwn, undef_eq]
  exact ⟨hlt, by omega, oη.set (Nat.le_refl _), ver + 1, get_set hq⟩
 ·have dl : decide (0 ≤ (T.length : Int) - 2 - (i : Int)) = false := by rw [decide_eq_false]; omega
  have hie : T.dropLast.length - i = 0 := by omega
  rw [hie, List.drop_zero] at hq E16
  generalize T.dropLast.foldr nodeF d = E at E16 hq
  obtain ⟨m1, m2, m3, m4⟩ := dig_len E16
  have f4 := rdN_all (n := 16) hq m1
  obtain ⟨w1, r1⟩ := put17 (y := 0) E16 ((oη.2 (σ.size + 1) (by omega)).trans z1)
  simp only [↓eD, eZ, ↓reduceIte, Nat.reduceEqDiff, Nat.reduceAdd, Nat.reduceMul, reduceCtorEq, Nat.reduceLeDiff, Int.reduceLT, Int.reduceLE, Int.reduceToNat, Int.reduceEq, Nat.reduceLT, dl, f4, m1, set17 m1, cells17 E16, w1, r1, undef_eq]
  first | exact ⟨(oZ.trans oη).set (by omega), flat17, rfl⟩ | exact ⟨(oZ.trans oη).set (by omega), flat17⟩
theorem set17w {X : List Value} (h : X.length = 17) : sets [.int .u8 0, .int .u8 0, .int .u8 0, .int .u8 0, .int .u8 0, .int .u8 0, .int .u8 0, .int .u8 0, .int .u8 0, .int .u8 0, .int .u8 0, .int .u8 0, .int .u8 0, .int .u8 0, .int .u8 0, .int .u8 0, .int .i64 0] 0 X = X := by
 rw [sets_all (by rw [h]; show 0 + 17 ≤ 17; omega), h]
 show [] ++ X ++ [] = X
 rw [List.append_nil]
 rfl
theorem topD_len {n : Int} {T : List (List Int)} (h : ∀ d ∈ T, d.length = 16) : (topD n T).length = 16 := by
 unfold topD
 split
 ·unfold topF
  split
  ·exact emptyF_len
  ·exact fold_len (fun x hx => h x (List.dropLast_subset _ hx)) (h _ (List.getLast_mem _))
 ·rfl
theorem appT_len {n : Int} {T : List (List Int)} {leaf : List Int} (h : T.length ≤ 50) : (appT n T leaf).length ≤ 51 := by
 unfold appT
 split
 ·rw [List.length_append, List.length_take, List.length_singleton]; omega
 ·simp
theorem law7 {σ : H} {v : Value} {n : Int} {T : List (List Int)} {leaf : List Int} (hT : Ls σ v T) (hi : -9223372036854775808 ≤ n ∧ n < 9223372036854775808) (hl : leaf.length = 16) (hG : HGlob σ) (hR : Glob σ) (hB : BGlob σ) :
  App Tryd.prog (.func 7) #[] #[.agg #[.int .i64 n, v], .agg (digC leaf).toArray] σ fun w σ' => Old σ σ' ∧ w = .bool true := by
 refine App.of_sem mixed Tryd.func7 t7 k7 r7 (Nat.le_of_ble_eq_true rfl) ?_
 obtain ⟨a, c, rfl⟩ := hT.slice
 obtain ⟨q1, q2, q3, q4⟩ := dig_len hl
 rw [← ap_nil (σ := σ)]
 unfold s7
 by_cases h1 : 50 < T.length
 ·have e1 : decide ((50 : Int) < (T.length : Int)) = true := by rw [decide_eq_true]; omega
  simp only [↓eD, eZ, ↓reduceIte, Nat.reduceEqDiff, Nat.reduceAdd, Nat.reduceMul, reduceCtorEq, Nat.reduceLeDiff, Int.reduceLT, Int.reduceLE, Int.reduceToNat, Int.reduceEq, Nat.reduceLT, e1, q1, q2, undef_eq]
  refine appK_of (sanity_app (hG.Old .ap) (hR.Old .ap) (hB.Old .ap)) ?_
  rintro _ τ ⟨o, rfl⟩
  simp only [↓eD, eZ, ↓reduceIte, Nat.reduceEqDiff, Nat.reduceAdd, Nat.reduceMul, reduceCtorEq, Nat.reduceLeDiff, Int.reduceLT, Int.reduceLE, Int.reduceToNat, Int.reduceEq, Nat.reduceLT, undef_eq]
  rw [ap_nil]
  exact Old.ap.trans o
 have e1 : decide ((50 : Int) < (T.length : Int)) = false := by rw [decide_eq_false]; omega
 simp only [↓eD, eZ, ↓reduceIte, Nat.reduceEqDiff, Nat.reduceAdd, Nat.reduceMul, reduceCtorEq, Nat.reduceLeDiff, Int.reduceLT, Int.reduceLE, Int.reduceToNat, Int.reduceEq, Nat.reduceLT, e1, q1, q2, undef_eq]
 obtain ⟨Z, hZ⟩ : ∃ Z, Z = ap σ [.cells 0 [.int .i64 n, .slice a T.length c] (0, 0), .cells 0 (digC leaf) (0, 0)] := ⟨_, rfl⟩
 rw [← hZ]
 have oZ : Old σ Z := by rw [hZ]; exact .ap
 have sZ : Z.size = σ.size + 2 := by rw [hZ]; simp [ap_size]
 have z0 : Z[σ.size]? = some (.cells 0 [.int .i64 n, .slice a T.length c] (0, 0)) := by rw [hZ, ap_new0]; rfl
 have z1 : Z[σ.size + 1]? = some (.cells 0 (digC leaf) (0, 0)) := by rw [hZ, ap_new]; rfl
 clear hZ
 refine appK_of (lappend_app (hT.Old oZ) hl (by omega) (hG.Old oZ) (hB.Old oZ)) ?_
 rintro _ τ ⟨oτ, u, rfl, gu, du⟩
 have hu := grown_ls gu du
 obtain ⟨ua, uc, rfl⟩ := gu.slice
 have rτ : ∀ M, rdN (ap τ M) ⟨σ.size, 0, none⟩ 2 = some [.int .i64 n, .slice a T.length c] := fun M => rdb_of ((oτ.2 _ (by omega)).trans z0) .ap rfl
 have rτ1 : ∀ M, rdN (ap τ M) ⟨σ.size + 1, 0, none⟩ 16 = some (digC leaf) := fun M => rdb_of ((oτ.2 _ (by omega)).trans z1) .ap q1
 have oστ := oZ.trans oτ
 have D16 := topD_len (n := n) hT.d
 have htop : ∀ {η : H}, Old τ η → App Tryd.prog (.func 29) #[] #[.agg #[.int .i64 n, .slice a T.length c]] η fun w σ' => σ' = η ∧ w = .tuple #[.agg (digC (topD n T)).toArray, .int .i64 (topE n T)] := fun h => ltop_app ((hT.Old oστ).Old h) (by omega) (hG.Old (oστ.trans h))
 have hrtop : ∀ {η : H}, Old τ η → App Tryd.prog (.func 31) #[] #[.agg #[.int .i64 n, .slice a T.length c]] η fun w σ' => σ' = η ∧ w = .agg (digC (topD n T) ++ [Value.int .i64 (topE n T)]).toArray := fun h => rtop_app ((hT.Old oστ).Old h) (by omega) (hR.Old (oστ.trans h))
 generalize topD n T = D at D16 htop hrtop
 generalize topE n T = E at htop hrtop
 obtain ⟨l1, l2, l3, l4⟩ := dig_len D16
 rw [← ap_nil (σ := τ)]
 simp only [↓eD, eZ, ↓reduceIte, Nat.reduceEqDiff, Nat.reduceAdd, Nat.reduceMul, reduceCtorEq, Nat.reduceLeDiff, Int.reduceLT, Int.reduceLE, Int.reduceToNat, Int.reduceEq, Nat.reduceLT, rτ, undef_eq]
 refine appK_at (htop .ap) ?_
 simp only [↓eD, eZ, ↓reduceIte, Nat.reduceEqDiff, Nat.reduceAdd, Nat.reduceMul, reduceCtorEq, Nat.reduceLeDiff, Int.reduceLT, Int.reduceLE, Int.reduceToNat, Int.reduceEq, Nat.reduceLT, rτ, rτ1, rep16, l1, l2, l3, l4, digC_one, undef_eq]
 refine appK_of (rappend_app ((hT.Old oστ).Old .ap) hl (by omega) (hR.Old (oστ.trans .ap))) ?_
 rintro _ η ⟨oη, w, rfl, gw, dw⟩
 have hw := grown_ls gw dw
 obtain ⟨wa, wc, rfl⟩ := gw.slice
 have sT : (ap τ [.cells 1 [.int .i64 (appN n T), .slice ua (appT n T leaf).length uc] (0, 0), .cells 1 (digC D) (0, 0)]).size = τ.size + 2 := by simp [ap_size]
 have y0 : η[τ.size]? = some (.cells 1 [.int .i64 (appN n T), .slice ua (appT n T leaf).length uc] (0, 0)) := (oη.2 _ (by omega)).trans ap_new0
 have y1 : η[τ.size + 1]? = some (.cells 1 (digC D) (0, 0)) := (oη.2 _ (by omega)).trans ap_new
 have oτη : Old τ η := Old.ap.trans oη
 have lT := appT_len (n := n) (leaf := leaf) (show T.length ≤ 50 by omega)
 have huη := hu.Old oτη
 have rη : ∀ M, rdN (ap η M) ⟨σ.size, 0, none⟩ 2 = some [.int .i64 n, .slice a T.length c] := fun M => rdb_of ((oτη.2 _ (by have := oτ.1; omega)).trans ((oτ.2 _ (by omega)).trans z0)) .ap rfl
 clear gu gw hu du dw oη oZ z0 z1 rτ rτ1
 generalize appN n T = N at y0
 generalize appT n T leaf = L at y0 huη hw lT
 generalize appE n T = F
 have oση := oστ.trans oτη
 rw [← ap_nil (σ := η)]
 simp only [↓eD, eZ, ↓reduceIte, Nat.reduceEqDiff, Nat.reduceAdd, Nat.reduceMul, reduceCtorEq, Nat.reduceLeDiff, Int.reduceLT, Int.reduceLE, Int.reduceToNat, Int.reduceEq, Nat.reduceLT, rη, undef_eq]
 refine appK_at (hrtop (oτη.trans .ap)) ?_
 have c17 := cells17 (y := E) D16
 have o17 := one17 (D := D) (y := E)
 have n17 : (digC D ++ [Value.int .i64 E] = []) = False := eq_false (by intro h; rw [h] at c17; cases c17)
 simp only [↓eD, eZ, ↓reduceIte, Nat.reduceEqDiff, Nat.reduceAdd, Nat.reduceMul, reduceCtorEq, Nat.reduceLeDiff, Int.reduceLT, Int.reduceLE, Int.reduceToNat, Int.reduceEq, Nat.reduceLT, c17, o17, n17, set17w c17, undef_eq]
 obtain ⟨X, hX⟩ : ∃ X, X = ap η [.cells 1 [.int .i64 N, .slice wa L.length wc, .int .i64 F] (0, 0), .cells 1 (digC D ++ [.int .i64 E]) (0, 0)] := ⟨_, rfl⟩
 rw [← hX]
 have oX : Old η X := by rw [hX]; exact .ap
 have x0 : X[η.size]? = some (.cells 1 [.int .i64 N, .slice wa L.length wc, .int .i64 F] (0, 0)) := by rw [hX, ap_new0]; rfl
 have x1 : X[η.size + 1]? = some (.cells 1 (digC D ++ [.int .i64 E]) (0, 0)) := by rw [hX, ap_new]; rfl
 clear hX
 have oσX := oση.trans oX
 refine appK_of (sanity_app (hG.Old oσX) (hR.Old oσX) (hB.Old oσX)) ?_
 rintro _ ξ ⟨oξ, rfl⟩
 have oηξ := oX.trans oξ
 have t0 := (oξ.2 _ (Array.getElem?_eq_some_iff.1 x0).1).trans x0
 have t1 := (oξ.2 _ (Array.getElem?_eq_some_iff.1 x1).1).trans x1
 have t2 := (oηξ.2 _ (Array.getElem?_eq_some_iff.1 y0).1).trans y0
 have t3 := (oηξ.2 _ (Array.getElem?_eq_some_iff.1 y1).1).trans y1
 have a0 : rd1 ξ ⟨η.size, 0, none⟩ = some (.int .i64 N) := rd1_of t0 .refl rfl
 have a1 : rd1 ξ ⟨η.size, 1, none⟩ = some (.slice wa L.length wc) := rd1_of t0 .refl rfl
 have a2 : rd1 ξ ⟨η.size, 2, none⟩ = some (.int .i64 F) := rd1_of t0 .refl rfl
 have b0 : rdN ξ ⟨η.size + 1, 0, none⟩ 16 = some (digC D) := by
  rw [rdN_eq, t1, rdcN_cells, if_neg (by decide), if_pos (by rw [c17]; show 0 + 16 ≤ 17; omega), List.drop_zero, List.take_left' l1]
 have b1 : rd1 ξ ⟨η.size + 1, 16, none⟩ = some (.int .i64 E) := rd1_of t1 .refl (by rw [List.getElem?_append_right (by rw [l1]; exact Nat.le_refl _), l1]; rfl)
 have c0 : rd1 ξ ⟨τ.size, 0, none⟩ = some (.int .i64 N) := rd1_of t2 .refl rfl
 have c1 : rd1 ξ ⟨τ.size, 1, none⟩ = some (.slice ua L.length uc) := rd1_of t2 .refl rfl
 have c2 := rdN_all (n := 16) t3 l1
 have eN : decide (N = N) = true := decide_eq_true rfl
 have eF : decide (F = F) = true := decide_eq_true rfl
 have eE : decide (E = E) = true := decide_eq_true rfl
 have qq : aggEq (List.replicate 16 (.int .u8)) (digC D) (digC D) = some true := by rw [aggEq_dig D16 D16, decide_eq_true rfl]
 simp only [↓eD, eZ, ↓reduceIte, Nat.reduceEqDiff, Nat.reduceAdd, Nat.reduceMul, reduceCtorEq, Nat.reduceLeDiff, Int.reduceLT, Int.reduceLE, Int.reduceToNat, Int.reduceEq, Nat.reduceLT, a0, c0, c1, a1, eN, undef_eq]
 refine appK_at (same_app (huη.Old oηξ) (hw.Old oηξ) (by omega)) ?_
 rw [decide_eq_true rfl]
 simp only [↓eD, eZ, ↓reduceIte, Nat.reduceEqDiff, Nat.reduceAdd, Nat.reduceMul, reduceCtorEq, Nat.reduceLeDiff, Int.reduceLT, Int.reduceLE, Int.reduceToNat, Int.reduceEq, Nat.reduceLT, a2, eF, b0, b1, c2, qq, eE, undef_eq]
 rw [ap_nil]
 exact oσX.trans oξ
end Go.Proofs.YtjgbbhfihcmphaaDoor
