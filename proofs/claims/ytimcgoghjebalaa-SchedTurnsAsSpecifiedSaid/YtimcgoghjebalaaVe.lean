/- Walks of the functions that the claim reaches. Conditions: none. -/
import Derived.Test.YtimcgoghjebalaaVd
set_option linter.all false
set_option linter.unusedSimpArgs false
set_option linter.unusedVariables false
set_option maxRecDepth 10000
set_option maxHeartbeats 1000000
namespace Go.Proofs.Ytimcgoghjebalaa
open Go Go.Cn Go.RowKit

/-! ### Turns, in plain Lean -/
structure Por where
  m : Int
  st : Int
  pg : Int
def porV (p : Por) : List Value := [.int .i64 p.m, .int .i64 p.st, .int .i64 p.pg]
structure Trn where
  m : Int
  n : Int
  deriving DecidableEq
def trnV (p : Trn) : List Value := [.int .i64 p.m, .int .i64 p.n]
def stepP (q : Int) (p : Por) : Por := ⟨p.m, p.st - mn p.st q, p.pg⟩
def emitP (q : Int) (p : Por) : List Trn := if mn p.st q = 0 then [] else [⟨p.m, mn p.st q⟩]
def roundL (q : Int) (L : List Por) : List Por := L.map (stepP q)
def roundO (q : Int) (L : List Por) : List Trn := L.flatMap (emitP q)
def turnsG (q : Int) : Nat → List Por → List Trn → List Trn
  | 0, _, O => O
  | f + 1, L, O => if (roundO q L).isEmpty then O else turnsG q f (roundL q L) (O ++ roundO q L)
def cntP (q : Int) (p : Por) : Nat := ((p.st + q - 1) / q).toNat
def cnt (q : Int) : List Por → Nat
  | [] => 0
  | p :: r => cntP q p + cnt q r
def turnsF (q : Int) (L : List Por) : List Trn := turnsG q (cnt q L + 1) L []

theorem cntP_step {q : Int} {p : Por} (hq : 1 ≤ q) (hs : 0 ≤ p.st) : cntP q (stepP q p) + (emitP q p).length = cntP q p := by
  have hm := mn_le p.st q
  unfold cntP emitP stepP
  by_cases h0 : p.st = 0
  · have : mn p.st q = 0 := by omega
    simp [this]
  · rw [if_neg (by omega)]
    simp only [List.length_singleton]
    by_cases hle : p.st ≤ q
    · have e1 : mn p.st q = p.st := by unfold mn; split <;> omega
      have e2 : (p.st - p.st + q - 1) / q = 0 := by rw [Int.ediv_eq_zero_of_lt] <;> omega
      have e3 : (p.st + q - 1) / q = 1 := by
        rw [show p.st + q - 1 = (p.st - 1) + 1 * q by omega, Int.add_mul_ediv_right _ _ (by omega), Int.ediv_eq_zero_of_lt (by omega) (by omega)]
        rfl
      rw [e1, e2, e3]; rfl
    · have e1 : mn p.st q = q := by unfold mn; split <;> omega
      have e3 : (p.st + q - 1) / q = (p.st - 1) / q + 1 := by
        rw [show p.st + q - 1 = (p.st - 1) + 1 * q by omega, Int.add_mul_ediv_right _ _ (by omega)]
      have e4 : 0 ≤ (p.st - 1) / q := Int.ediv_nonneg (by omega) (by omega)
      rw [e1, e3, show p.st - q + q - 1 = p.st - 1 by omega]
      omega
theorem cnt_round {q : Int} (hq : 1 ≤ q) : ∀ {L : List Por}, (∀ p ∈ L, 0 ≤ p.st) → cnt q (roundL q L) + (roundO q L).length = cnt q L
  | [], _ => rfl
  | p :: r, h => by
    have h1 := cntP_step hq (h p (by simp))
    have h2 := cnt_round (L := r) hq fun x hx => h x (by simp [hx])
    simp only [roundL, roundO, List.map_cons, List.flatMap_cons, List.length_append, cnt] at h2 ⊢
    omega
theorem round_part {q : Int} (hq : 1 ≤ q) : ∀ {L : List Por} (i : Nat), (∀ p ∈ L, 0 ≤ p.st) → (roundO q (L.take i)).length ≤ cnt q L
  | [], i, _ => by simp [roundO, cnt]
  | p :: r, 0, _ => by simp [roundO]
  | p :: r, i + 1, h => by
    have h1 := cntP_step hq (h p (by simp))
    have h2 := round_part (L := r) hq i fun x hx => h x (by simp [hx])
    simp only [roundO, List.take_succ_cons, List.flatMap_cons, List.length_append, cnt] at h2 ⊢
    omega
theorem step_st {q : Int} {p : Por} (hq : 1 ≤ q) (hs : 0 ≤ p.st) : 0 ≤ (stepP q p).st ∧ (stepP q p).st ≤ p.st := by
  have hm := mn_le p.st q
  unfold stepP
  simp only
  omega

theorem row_set : ∀ {rows : List (List Value)} {s i j : Nat} {x : List Value} {v : Value}, (∀ r ∈ rows, r.length = s) → rows[i]? = some x → j < s → rows.flatten.set (i * s + j) v = (rows.set i (x.set j v)).flatten
  | [], _, _, _, _, _, _, h, _ => by simp at h
  | r :: rows, s, 0, j, x, v, hr, h, hj => by
    have h0 := hr r (by simp)
    simp at h
    subst h
    simp only [List.flatten_cons, List.set_cons_zero, Nat.zero_mul, Nat.zero_add]
    rw [List.set_append_left _ _ (by omega)]
  | r :: rows, s, i + 1, j, x, v, hr, h, hj => by
    have h0 := hr r (by simp)
    have ih := row_set (rows := rows) (s := s) (i := i) (j := j) (x := x) (v := v) (fun q hq => hr q (by simp [hq])) (by simpa using h) hj
    simp only [List.flatten_cons, List.set_cons_succ]
    rw [List.set_append_right _ _ (by rw [h0, Nat.add_mul]; omega), h0, show (i + 1) * s + j - s = i * s + j by rw [Nat.add_mul]; omega, ih]

theorem porV_rows {L : List Por} : ∀ r ∈ L.map porV, r.length = 3 := by intro r hr; obtain ⟨c, _, rfl⟩ := List.mem_map.1 hr; rfl
theorem trnV_rows {L : List Trn} : ∀ r ∈ L.map trnV, r.length = 2 := by intro r hr; obtain ⟨c, _, rfl⟩ := List.mem_map.1 hr; rfl

/-- What the rounds have in hand. -/
structure Hand (σ τ : H) (v5 v6 : Value) (L : List Por) (O : List Trn) : Prop where
  old : Old σ τ
  out : Grown (sized σ.size) τ 2 v5 (O.map trnV).flatten O.length
  left : Grown (sized σ.size) τ 3 v6 (L.map porV).flatten L.length
  apart : ∀ c, baseOf v6 = some c → baseOf v5 ≠ some c
theorem Hand.ap {σ τ : H} {v5 v6 : Value} {L : List Por} {O : List Trn} {l : List Blk} (h : Hand σ τ v5 v6 L O) : Hand σ (ap τ l) v5 v6 L O :=
  ⟨h.old.trans .ap, h.out.old .ap, h.left.old .ap, h.apart⟩

def midL (q : Int) (L : List Por) (i : Nat) : List Por := (L.take i).map (stepP q) ++ L.drop i
theorem midL_len {q : Int} {L : List Por} {i : Nat} (h : i ≤ L.length) : (midL q L i).length = L.length := by simp [midL]; omega
theorem midL_get {q : Int} {L : List Por} {i : Nat} (h : i < L.length) : (midL q L i)[i]? = some L[i] := by
  rw [midL, List.getElem?_append_right (by simp; omega)]
  simp [Nat.min_eq_left (Nat.le_of_lt h), h]
theorem midL_succ {q : Int} {L : List Por} {i : Nat} (h : i < L.length) : midL q L (i + 1) = (midL q L i).set i (stepP q L[i]) := by
  have hl : ((L.take i).map (stepP q)).length = i := by simp; omega
  rw [midL, midL, List.set_append_right _ _ (by omega), hl, Nat.sub_self, List.take_succ_eq_append_getElem h, List.map_append, List.drop_eq_getElem_cons h, List.set_cons_zero]
  simp
theorem midL_all {q : Int} {L : List Por} : midL q L L.length = roundL q L := by simp [midL, roundL]

theorem turns_app {σ : H} {L0 : List Por} {lv : Value} {q : Int} (hr : Row σ 3 lv (L0.map porV)) (hq : 1 ≤ q) (hst : ∀ p ∈ L0, 0 ≤ p.st ∧ p.st ≤ 1073741824) (hn : L0.length ≤ 1000) (hc : cnt q L0 ≤ 1000000) :
    App Try.prog (.func 12) #[] #[lv, .int .i64 q] σ fun v σ' => Old σ σ' ∧ Row σ' 2 v ((turnsF q L0).map trnV) := by
  refine App.of_sem mixed Try.func12 t12 k12 r12 (Nat.le_of_ble_eq_true rfl) ?_
  have hx0 := row_xcells hr
  obtain ⟨base, cp, rfl⟩ := hr.slice
  simp only [List.length_map] at hr hx0 ⊢
  rw [← ap_nil (σ := σ)]
  unfold s12
  simp only [↓eD0, ↓eD1, eC0, eC1, eC2, eC3, eC4, eC5, eC6, wantedE, ↓reduceIte, Nat.reduceEqDiff, Option.map_some, Option.map_none, reread, List.nil_append, List.cons_append, List.map_cons, List.map_nil, List.length_nil, List.length_cons, Value.cells, List.getElem?_cons_zero, List.getElem?_cons_succ, outE, lks, lkR, rdV, neg1, evs, opt, Nat.reduceAdd, Nat.reduceMul, and_self, reduceCtorEq, List.size_toArray, List.all_cons, List.all_nil, Value.oneCell', List.set_cons_zero, List.set_cons_succ, sets, fillL, Nat.reduceLeDiff, List.drop_succ_cons, List.drop_zero, List.take_succ_cons, List.take_zero, List.toList_toArray, argsE, Array.append_empty, Array.empty_append, List.getElem?_toArray, Int.reduceLT, Int.reduceLE, Int.reduceToNat, Int.reduceEq, Nat.reduceLT]
  have hs : (sized σ.size).size = σ.size := sized_size
  have g0 : Grown (sized σ.size) (ap σ [.cells 0 [] (0, 0)]) 3 (.slice (some ⟨σ.size, 0, none⟩) 0 0) [] 0 := Grown.lit rfl (by decide) (by rw [hs]; omega) ap_new0
  have one3 : ∀ xs : List Por, ((xs.map porV).flatten).all Value.oneCell' = true := fun xs => by
    rw [List.all_eq_true]
    intro v hv
    obtain ⟨r, hr, hv⟩ := List.mem_flatten.1 hv
    obtain ⟨c, _, rfl⟩ := List.mem_map.1 hr
    simp only [porV, List.mem_cons, List.not_mem_nil, or_false] at hv
    rcases hv with rfl | rfl | rfl <;> rfl
  have hx1 : xcells (ap σ [.cells 0 [] (0, 0)]) 3 (.slice base L0.length cp) = some (L0.length, (L0.map porV).flatten) := by
    have := row_xcells (hr.Old (Old.ap (l := [.cells 0 [] (0, 0)])))
    simpa using this
  obtain ⟨v6, τ0, ha, A0⟩ := append_grown (bytes := 24) g0 (by omega) (by rw [hs, ap_size]; omega) hx1 (by rw [flatten_length porV_rows]; simp) (one3 _) (by omega) (by omega)
  refine onV_of ha ?_
  have hH0 : Hand σ τ0 (.slice none 0 0) v6 L0 [] := ⟨A0.Old' g0 (by rw [hs]; omega) .ap, Grown.nil, by simpa using A0.grown, fun c _ h => by cases h⟩
  simp only [↓eD0, ↓eD1, eC0, eC1, eC2, eC3, eC4, eC5, eC6, wantedE, ↓reduceIte, Nat.reduceEqDiff, Option.map_some, Option.map_none, reread, List.nil_append, List.cons_append, List.map_cons, List.map_nil, List.length_nil, List.length_cons, Value.cells, List.getElem?_cons_zero, List.getElem?_cons_succ, outE, lks, lkR, rdV, neg1, evs, opt, Nat.reduceAdd, Nat.reduceMul, and_self, reduceCtorEq, List.size_toArray, List.all_cons, List.all_nil, Value.oneCell', List.set_cons_zero, List.set_cons_succ, sets, fillL, Nat.reduceLeDiff, List.drop_succ_cons, List.drop_zero, List.take_succ_cons, List.take_zero, List.toList_toArray, argsE, Array.append_empty, Array.empty_append, List.getElem?_toArray, Int.reduceLT, Int.reduceLE, Int.reduceToNat, Int.reduceEq, Nat.reduceLT]
  refine loop_of (fun m e τ => ∃ L O v5 f, e = [(1, .int .i64 q), (5, v5), (6, v6)] ∧ Hand σ τ v5 v6 L O ∧ m = cnt q L ∧ (∀ p ∈ L, 0 ≤ p.st ∧ p.st ≤ 1073741824) ∧ L.length = L0.length ∧ O.length + cnt q L ≤ 1000000 ∧ cnt q L < f ∧ turnsG q f L O = turnsF q L0) (cnt q L0)
    ⟨L0, [], _, cnt q L0 + 1, rfl, hH0, rfl, hst, rfl, by simpa using hc, by omega, rfl⟩ ?_
  rintro m e τ ⟨L, O, v5, f, rfl, hH, rfl, hLs, hLl, hOc, hf, hR⟩
  have hLs0 : ∀ p ∈ L, 0 ≤ p.st := fun p hp => (hLs p hp).1
  obtain ⟨bs5, cp5, rfl⟩ := hH.out.slice
  obtain ⟨bs6, cp6, rfl⟩ := hH.left.slice
  rw [← ap_nil (σ := τ)]
  simp only [↓eD0, ↓eD1, eC0, eC1, eC2, eC3, eC4, eC5, eC6, wantedE, ↓reduceIte, Nat.reduceEqDiff, Option.map_some, Option.map_none, reread, List.nil_append, List.cons_append, List.map_cons, List.map_nil, List.length_nil, List.length_cons, Value.cells, List.getElem?_cons_zero, List.getElem?_cons_succ, outE, lks, lkR, rdV, neg1, evs, opt, Nat.reduceAdd, Nat.reduceMul, and_self, reduceCtorEq, List.size_toArray, List.all_cons, List.all_nil, Value.oneCell', List.set_cons_zero, List.set_cons_succ, sets, fillL, Nat.reduceLeDiff, List.drop_succ_cons, List.drop_zero, List.take_succ_cons, List.take_zero, List.toList_toArray, argsE, Array.append_empty, Array.empty_append, List.getElem?_toArray, Int.reduceLT, Int.reduceLE, Int.reduceToNat, Int.reduceEq, Nat.reduceLT]
  refine loop_for (J := fun i e ρ => i ≤ L.length ∧ ∃ v5', e = [(1, .int .i64 q), (5, v5'), (6, .slice bs6 L.length cp6), (7, .int .i64 O.length), (16, .int .i64 L.length), (17, .int .i64 i)] ∧ Hand σ ρ v5' (.slice bs6 L.length cp6) (midL q L i) (O ++ roundO q (L.take i))) L.length
    ⟨by omega, _, rfl, by simpa [midL, roundO] using hH.ap⟩ ?_
  rintro i e ρ hi ⟨_, v5', rfl, hh⟩
  have e1 : ap ρ [] = ρ := ap_nil
  have hlm := midL_len (q := q) hi
  rw [← e1]
  by_cases hlt : i < L.length
  · have dl : decide ((i:Int) < (L.length : Int)) = true := by simpa using hlt
    have hb : (0:Int) ≤ (i:Int) ∧ (i:Int) < (L.length : Int) := by omega
    have hw : IntKind.wrap .i64 ((i:Int) + 1) = ((i + 1 : Nat) : Int) := by rw [wrap64 (by omega) (by omega)]; omega
    have hmg := midL_get (q := q) hlt
    have hrow : Row ρ 3 (.slice bs6 L.length cp6) ((midL q L i).map porV) := by
      have := Grown.Row (rows := (midL q L i).map porV) (by simpa using hh.left) porV_rows
      exact this
    obtain ⟨b, off, hbo, h1⟩ := hrow.at (i := i) (x := porV L[i]) (by simp [hmg])
    obtain ⟨_, _, hleft⟩ := hh.left
    rcases hleft with ⟨hz, _⟩ | ⟨b', ver, cap', hsb, _, hv6, hblk⟩
    · omega
    injection hv6 with hv6a hv6b hv6c
    rw [hv6a] at hbo
    injection hbo with hbo
    injection hbo with hb1 hb2
    subst hb1 hb2 hv6a
    rw [hs] at hsb
    have hzb := (Array.getElem?_eq_some_iff.1 hblk).1
    simp only [Nat.zero_add] at h1
    have rst : ∀ l, rd1 (ap ρ l) ⟨b', i * 3 + 1, none⟩ = some (.int .i64 L[i].st) := fun l => rd1_old (rd1_row h1 (j := 1) rfl)
    have hli := hLs L[i] (by simp)
    have hmn := mn_le L[i].st q
    have ht : L.take (i + 1) = L.take i ++ [L[i]] := List.take_succ_eq_append_getElem hlt
    have hro : roundO q (L.take (i + 1)) = roundO q (L.take i) ++ emitP q L[i] := by rw [ht, roundO, List.flatMap_append]; simp [roundO]
    by_cases hz : mn L[i].st q = 0
    · have dz : decide (mn L[i].st q = 0) = true := by simpa using hz
      simp only [↓eD0, ↓eD1, eC0, eC1, eC2, eC3, eC4, eC5, eC6, wantedE, ↓reduceIte, Nat.reduceEqDiff, Option.map_some, Option.map_none, reread, List.nil_append, List.cons_append, List.map_cons, List.map_nil, List.length_nil, List.length_cons, Value.cells, List.getElem?_cons_zero, List.getElem?_cons_succ, outE, lks, lkR, rdV, neg1, evs, opt, Nat.reduceAdd, Nat.reduceMul, and_self, reduceCtorEq, List.size_toArray, List.all_cons, List.all_nil, Value.oneCell', List.set_cons_zero, List.set_cons_succ, sets, fillL, Nat.reduceLeDiff, List.drop_succ_cons, List.drop_zero, List.take_succ_cons, List.take_zero, List.toList_toArray, argsE, Array.append_empty, Array.empty_append, List.getElem?_toArray, Int.reduceLT, Int.reduceLE, Int.reduceToNat, Int.reduceEq, Nat.reduceLT, dl, hb, Int.toNat_natCast, rst, mn_eq, dz, hw]
      refine ⟨hlt, by omega, v5', rfl, ?_⟩
      have : stepP q L[i] = L[i] := by unfold stepP; rw [hz, Int.sub_zero]
      have hm : midL q L (i + 1) = midL q L i := by
        rw [midL_succ hlt, this]
        have hl2 := (List.getElem?_eq_some_iff.1 hmg)
        obtain ⟨hl3, hl4⟩ := hl2
        conv => lhs; rw [← hl4]
        exact List.set_getElem_self hl3
      rw [hm, hro, emitP, if_pos hz, List.append_nil]
      exact hh.ap
    · have dz : decide (mn L[i].st q = 0) = false := by simpa using hz
      have ws : IntKind.wrap .i64 (L[i].st - mn L[i].st q) = L[i].st - mn L[i].st q := wrap64 (by omega) (by omega)
      have hset := row_set (s := 3) (i := i) (j := 1) (x := porV L[i]) (v := .int .i64 (L[i].st - mn L[i].st q)) (porV_rows (L := midL q L i)) (by simp [hmg]) (by omega)
      have hfl := flatten_length (s := 3) (porV_rows (L := midL q L i))
      rw [List.length_map, hlm] at hfl
      have hset2 : ((midL q L i).map porV).set i ((porV L[i]).set 1 (.int .i64 (L[i].st - mn L[i].st q))) = (midL q L (i + 1)).map porV := by
        rw [midL_succ hlt, List.map_set]; rfl
      rw [hset2] at hset
      have hwr : ∀ l, wrN (ap ρ l) ⟨b', i * 3 + 1, none⟩ [.int .i64 (L[i].st - mn L[i].st q)] = some ((ap ρ l).setIfInBounds b' (.cells (ver + 1) ((midL q L (i + 1)).map porV).flatten (0, 0))) := fun l => by
        rw [wrN_eq, if_neg (by simp), ap_old hzb, hblk, wrc_cells, if_pos ⟨by rw [hfl]; simp; omega, rfl⟩]
        simp only [sets, hset, Option.map_some]
      have hg2 : ∀ l, ((ap ρ l).setIfInBounds b' (.cells (ver + 1) ((midL q L (i + 1)).map porV).flatten (0, 0)))[b']? = some (.cells (ver + 1) ((midL q L (i + 1)).map porV).flatten (0, 0)) := fun l => get_set ((ap_old hzb).trans hblk)
      have hlm1 := midL_len (q := q) (L := L) (i := i + 1) (by omega)
      have hmg1 : (midL q L (i + 1))[i]? = some (stepP q L[i]) := by rw [midL_succ hlt, List.getElem?_set_self (by omega)]
      obtain ⟨f1, f2⟩ := flatten_get (s := 3) (i := i) (x := porV (stepP q L[i])) (porV_rows (L := midL q L (i + 1))) (by simp [hmg1])
      have rm : ∀ l, rd1 ((ap ρ l).setIfInBounds b' (.cells (ver + 1) ((midL q L (i + 1)).map porV).flatten (0, 0))) ⟨b', i * 3, none⟩ = some (.int .i64 L[i].m) := fun l => by
        have : rdN ((ap ρ l).setIfInBounds b' (.cells (ver + 1) ((midL q L (i + 1)).map porV).flatten (0, 0))) ⟨b', i * 3, none⟩ 3 = some (porV (stepP q L[i])) := by
          rw [rdN_eq, if_neg (by omega), hg2, rdcN_cells, if_pos f1, f2]
        exact rd1_row this (j := 0) rfl
      have hzb' : ∀ l l', b' < (ap ((ap ρ l).setIfInBounds b' (.cells (ver + 1) ((midL q L (i + 1)).map porV).flatten (0, 0))) l').size := fun l l' => by simp [ap_size]; omega
      have hh1 : ∀ k, k = Blk.cells (ver + 1) ((midL q L (i + 1)).map porV).flatten (0, 0) → Hand σ (ρ.setIfInBounds b' k) v5' (.slice (some ⟨b', 0, none⟩) L.length cp6) (midL q L (i + 1)) (O ++ roundO q (L.take i)) := fun k hk => by
        subst hk
        refine ⟨hh.old.set hsb, hh.out.keep fun c k hc hq => ?_, ⟨by rw [flatten_length porV_rows]; simp, by rw [hlm1]; unfold big; omega, .inr ⟨b', ver + 1, cap', by rw [hs]; exact hsb, by rw [hlm1, ← hlm]; assumption, by rw [hlm1, hv6c], get_set hblk⟩⟩, hh.apart⟩
        rw [get_set_ne]
        · exact hq
        · intro h; subst h; exact hh.apart _ rfl hc
      have hrl := round_part (q := q) hq (L := L) i hLs0
      simp only [↓eD0, ↓eD1, eC0, eC1, eC2, eC3, eC4, eC5, eC6, wantedE, ↓reduceIte, Nat.reduceEqDiff, Option.map_some, Option.map_none, reread, List.nil_append, List.cons_append, List.map_cons, List.map_nil, List.length_nil, List.length_cons, Value.cells, List.getElem?_cons_zero, List.getElem?_cons_succ, outE, lks, lkR, rdV, neg1, evs, opt, Nat.reduceAdd, Nat.reduceMul, and_self, reduceCtorEq, List.size_toArray, List.all_cons, List.all_nil, Value.oneCell', List.set_cons_zero, List.set_cons_succ, sets, fillL, Nat.reduceLeDiff, List.drop_succ_cons, List.drop_zero, List.take_succ_cons, List.take_zero, List.toList_toArray, argsE, Array.append_empty, Array.empty_append, List.getElem?_toArray, Int.reduceLT, Int.reduceLE, Int.reduceToNat, Int.reduceEq, Nat.reduceLT, dl, hb, Int.toNat_natCast, rst, mn_eq, dz, hw, ws, hwr, rm]
      rw [e1]
      generalize hρ1 : ρ.setIfInBounds b' (.cells (ver + 1) ((midL q L (i + 1)).map porV).flatten (0, 0)) = ρ1
      have hh2 := hh1 _ rfl
      rw [hρ1] at hh2
      have hpush : ∀ k, ρ1.push k = ap ρ1 [k] := fun k => by simp [ap]
      rw [hpush]
      have hb'1 : b' < ρ1.size := by rw [← hρ1]; simpa using hzb
      have hh3 := hh2.ap (l := [.cells 0 [.int .i64 L[i].m, .int .i64 (mn L[i].st q)] (0, 0)])
      obtain ⟨v', τ', ha', hA⟩ := append_grown (xa := .slice (some ⟨ρ1.size, 0, none⟩) 1 1) (bytes := 16) (m := 1) (new := trnV ⟨L[i].m, mn L[i].st q⟩) hh3.out (by omega) (by rw [hs]; exact hh3.old.1) (by
        show (rdN (ap ρ1 _) ⟨ρ1.size, 0, none⟩ 2).map (1, ·) = _
        rw [rdN_ap0]; rfl) rfl rfl (by simp only [List.length_append]; omega) (by omega)
      refine onV_of ha' ?_
      simp only [↓eD0, ↓eD1, eC0, eC1, eC2, eC3, eC4, eC5, eC6, wantedE, ↓reduceIte, Nat.reduceEqDiff, Option.map_some, Option.map_none, reread, List.nil_append, List.cons_append, List.map_cons, List.map_nil, List.length_nil, List.length_cons, Value.cells, List.getElem?_cons_zero, List.getElem?_cons_succ, outE, lks, lkR, rdV, neg1, evs, opt, Nat.reduceAdd, Nat.reduceMul, and_self, reduceCtorEq, List.size_toArray, List.all_cons, List.all_nil, Value.oneCell', List.set_cons_zero, List.set_cons_succ, sets, fillL, Nat.reduceLeDiff, List.drop_succ_cons, List.drop_zero, List.take_succ_cons, List.take_zero, List.toList_toArray, argsE, Array.append_empty, Array.empty_append, List.getElem?_toArray, Int.reduceLT, Int.reduceLE, Int.reduceToNat, Int.reduceEq, Nat.reduceLT, hw]
      refine ⟨hlt, by omega, v', rfl, ?_⟩
      have hfr : ∀ c k, (ap ρ1 [.cells 0 [.int .i64 L[i].m, .int .i64 (mn L[i].st q)] (0, 0)])[c]? = some k → baseOf v5' ≠ some c → τ'[c]? = some k := hA.frame
      refine ⟨hA.Old' hh3.out (by rw [hs]; omega) hh3.old, ?_, hh3.left.keep fun c k hc hk => hA.frame c k hk (hh3.apart c hc), fun c hc => ?_⟩
      · have e5 : (O ++ roundO q (L.take (i + 1))) = (O ++ roundO q (L.take i)) ++ [⟨L[i].m, mn L[i].st q⟩] := by rw [hro, emitP, if_neg hz, List.append_assoc]
        rw [e5]
        simpa [Nat.add_assoc] using hA.grown
      · injection hc with hc
        subst hc
        rcases hA.base with hbb | hbb
        · rw [hbb]; exact hh3.apart _ rfl
        · rw [hbb, ap_size]
          intro h
          injection h with h
          simp at h
          omega
  · have : i = L.length := by omega
    subst this
    have dl : decide ((L.length:Int) < (L.length : Int)) = false := by simp
    rw [midL_all, List.take_length] at hh
    have hcr := cnt_round hq hLs0
    obtain ⟨bs7, cp7, hv7⟩ := hh.out.slice
    subst hv7
    obtain ⟨f, rfl⟩ : ∃ g, f = g + 1 := ⟨f - 1, by omega⟩
    rw [turnsG] at hR
    by_cases hemp : (roundO q L).isEmpty = true
    · rw [if_pos hemp] at hR
      have hnil : roundO q L = [] := by simpa using hemp
      rw [hnil, List.append_nil] at hh ⊢
      have de : decide ((O.length:Int) = (O.length:Int)) = true := by simp
      simp only [↓eD0, ↓eD1, eC0, eC1, eC2, eC3, eC4, eC5, eC6, wantedE, ↓reduceIte, Nat.reduceEqDiff, Option.map_some, Option.map_none, reread, List.nil_append, List.cons_append, List.map_cons, List.map_nil, List.length_nil, List.length_cons, Value.cells, List.getElem?_cons_zero, List.getElem?_cons_succ, outE, lks, lkR, rdV, neg1, evs, opt, Nat.reduceAdd, Nat.reduceMul, and_self, reduceCtorEq, List.size_toArray, List.all_cons, List.all_nil, Value.oneCell', List.set_cons_zero, List.set_cons_succ, sets, fillL, Nat.reduceLeDiff, List.drop_succ_cons, List.drop_zero, List.take_succ_cons, List.take_zero, List.toList_toArray, argsE, Array.append_empty, Array.empty_append, List.getElem?_toArray, Int.reduceLT, Int.reduceLE, Int.reduceToNat, Int.reduceEq, Nat.reduceLT, dl, de]
      refine ⟨hh.old.trans .ap, ?_⟩
      rw [← hR]
      have := Grown.Row (σ0 := sized σ.size) (σ := ap ρ []) (rows := O.map trnV) (s := 2) (by simpa using hh.ap.out) trnV_rows
      simpa using this
    · rw [if_neg hemp] at hR
      have hne : roundO q L ≠ [] := by simpa using hemp
      have hpos : 0 < (roundO q L).length := List.length_pos_iff.2 hne
      have de : decide (((O ++ roundO q L).length:Int) = (O.length:Int)) = false := by rw [List.length_append, decide_eq_false]; omega
      simp only [↓eD0, ↓eD1, eC0, eC1, eC2, eC3, eC4, eC5, eC6, wantedE, ↓reduceIte, Nat.reduceEqDiff, Option.map_some, Option.map_none, reread, List.nil_append, List.cons_append, List.map_cons, List.map_nil, List.length_nil, List.length_cons, Value.cells, List.getElem?_cons_zero, List.getElem?_cons_succ, outE, lks, lkR, rdV, neg1, evs, opt, Nat.reduceAdd, Nat.reduceMul, and_self, reduceCtorEq, List.size_toArray, List.all_cons, List.all_nil, Value.oneCell', List.set_cons_zero, List.set_cons_succ, sets, fillL, Nat.reduceLeDiff, List.drop_succ_cons, List.drop_zero, List.take_succ_cons, List.take_zero, List.toList_toArray, argsE, Array.append_empty, Array.empty_append, List.getElem?_toArray, Int.reduceLT, Int.reduceLE, Int.reduceToNat, Int.reduceEq, Nat.reduceLT, dl, de]
      refine ⟨cnt q (roundL q L), by omega, roundL q L, O ++ roundO q L, _, f, rfl, ?_, rfl, ?_, by simp [roundL, hLl], by rw [List.length_append]; omega, by omega, hR⟩
      · exact hh.ap
      · intro p hp
        obtain ⟨p0, hp0, rfl⟩ := List.mem_map.1 hp
        have := hLs p0 hp0
        have := step_st hq this.1
        omega
end Go.Proofs.Ytimcgoghjebalaa

set_option linter.unusedSimpArgs false
set_option linter.unusedVariables false
set_option maxRecDepth 10000
set_option maxHeartbeats 1000000
namespace Go.Proofs.Ytimcgoghjebalaa
open Go Go.Cn Go.RowKit

theorem trn_eq {a b c d : Int} : aggEq [.int .i64, .int .i64] [.int .i64 a, .int .i64 b] [.int .i64 c, .int .i64 d] = some (decide (a = c ∧ b = d)) := by
  simp only [aggEq, Leaf.fits, leafEq, decide_true, and_self, ↓reduceIte]
  by_cases h1 : a = c <;> by_cases h2 : b = d <;> simp [h1, h2]

theorem sameTurns_app {σ : H} {a b : List Trn} {av bv : Value} (ha : Row σ 2 av (a.map trnV)) (hb : Row σ 2 bv (b.map trnV)) (hn : a.length < 4000000000000) :
    App Try.prog (.func 13) #[] #[av, bv] σ fun v σ' => σ' = σ ∧ v = .bool (decide (a = b)) := by
  refine App.forget (App.of_sem mixed Try.func13 t13 k13 r13 (Nat.le_of_ble_eq_true rfl) ?_)
  obtain ⟨base, cp, rfl⟩ := ha.slice
  obtain ⟨base2, cp2, rfl⟩ := hb.slice
  simp only [List.length_map] at ha hb ⊢
  rw [← ap_nil (σ := σ)]
  unfold s13
  by_cases hl : a.length = b.length
  case neg =>
    have d : decide ((a.length:Int) = (b.length:Int)) = false := by simp; omega
    simp only [↓eD0, ↓eD1, eC0, eC1, eC2, eC3, eC4, eC5, eC6, wantedE, ↓reduceIte, Nat.reduceEqDiff, Option.map_some, Option.map_none, reread, List.nil_append, List.cons_append, List.map_cons, List.map_nil, List.length_nil, List.length_cons, Value.cells, List.getElem?_cons_zero, List.getElem?_cons_succ, outE, lks, lkR, rdV, neg1, evs, opt, Nat.reduceAdd, Nat.reduceMul, and_self, reduceCtorEq, List.size_toArray, List.all_cons, List.all_nil, Value.oneCell', List.set_cons_zero, List.set_cons_succ, sets, fillL, Nat.reduceLeDiff, List.drop_succ_cons, List.drop_zero, List.take_succ_cons, List.take_zero, List.toList_toArray, argsE, Array.append_empty, Array.empty_append, List.getElem?_toArray, Int.reduceLT, Int.reduceLE, Int.reduceToNat, Int.reduceEq, Nat.reduceLT, d]
    exact ⟨.ap, by simp [flat], by rw [decide_eq_false]; intro h; exact hl (by rw [h])⟩
  have d : decide ((a.length:Int) = (b.length:Int)) = true := by simp; omega
  simp only [↓eD0, ↓eD1, eC0, eC1, eC2, eC3, eC4, eC5, eC6, wantedE, ↓reduceIte, Nat.reduceEqDiff, Option.map_some, Option.map_none, reread, List.nil_append, List.cons_append, List.map_cons, List.map_nil, List.length_nil, List.length_cons, Value.cells, List.getElem?_cons_zero, List.getElem?_cons_succ, outE, lks, lkR, rdV, neg1, evs, opt, Nat.reduceAdd, Nat.reduceMul, and_self, reduceCtorEq, List.size_toArray, List.all_cons, List.all_nil, Value.oneCell', List.set_cons_zero, List.set_cons_succ, sets, fillL, Nat.reduceLeDiff, List.drop_succ_cons, List.drop_zero, List.take_succ_cons, List.take_zero, List.toList_toArray, argsE, Array.append_empty, Array.empty_append, List.getElem?_toArray, Int.reduceLT, Int.reduceLE, Int.reduceToNat, Int.reduceEq, Nat.reduceLT, d]
  refine loop_for (J := fun i e τ => Old σ τ ∧ i ≤ a.length ∧ e = [(0, .slice base a.length cp), (1, .slice base2 b.length cp2), (5, .int .i64 i)] ∧ a.take i = b.take i) a.length ⟨.ap, by omega, rfl, rfl⟩ ?_
  rintro i e τ hi ⟨ho, _, rfl, hg⟩
  have e1 : ap τ [] = τ := ap_nil
  rw [← e1]
  by_cases hlt : i < a.length
  · have dl : decide ((i:Int) < (a.length : Int)) = true := by simpa using hlt
    have hlt2 : i < b.length := by omega
    have hx : (a.map trnV)[i]? = some (trnV a[i]) := by simp [hlt]
    have hx2 : (b.map trnV)[i]? = some (trnV b[i]) := by simp [hlt2]
    obtain ⟨b1, off, rfl, h1⟩ := ha.at hx
    obtain ⟨b2, off2, rfl, h2⟩ := hb.at hx2
    have h3 : ∀ L, rdN (ap τ L) ⟨b1, off + i * 2, none⟩ 2 = some (trnV a[i]) := fun L => rdN_Old (ho.trans .ap) h1
    have h4 : ∀ L, rdN (ap τ L) ⟨b2, off2 + i * 2, none⟩ 2 = some (trnV b[i]) := fun L => rdN_Old (ho.trans .ap) h2
    have hb1 : (0:Int) ≤ (i:Int) ∧ (i:Int) < (a.length : Int) := by omega
    have hb2 : (0:Int) ≤ (i:Int) ∧ (i:Int) < (b.length : Int) := by omega
    have hw : IntKind.wrap .i64 ((i:Int) + 1) = ((i + 1 : Nat) : Int) := by rw [wrap64 (by omega) (by omega)]; omega
    by_cases he : a[i].m = b[i].m ∧ a[i].n = b[i].n
    · have de : decide (a[i].m = b[i].m ∧ a[i].n = b[i].n) = true := by simpa using he
      simp only [↓eD0, ↓eD1, eC0, eC1, eC2, eC3, eC4, eC5, eC6, wantedE, ↓reduceIte, Nat.reduceEqDiff, Option.map_some, Option.map_none, reread, List.nil_append, List.cons_append, List.map_cons, List.map_nil, List.length_nil, List.length_cons, Value.cells, List.getElem?_cons_zero, List.getElem?_cons_succ, outE, lks, lkR, rdV, neg1, evs, opt, Nat.reduceAdd, Nat.reduceMul, and_self, reduceCtorEq, List.size_toArray, List.all_cons, List.all_nil, Value.oneCell', List.set_cons_zero, List.set_cons_succ, sets, fillL, Nat.reduceLeDiff, List.drop_succ_cons, List.drop_zero, List.take_succ_cons, List.take_zero, List.toList_toArray, argsE, Array.append_empty, Array.empty_append, List.getElem?_toArray, Int.reduceLT, Int.reduceLE, Int.reduceToNat, Int.reduceEq, Nat.reduceLT, dl, hb1, hb2, Int.toNat_natCast, h3, h4, trnV, trn_eq, de, hw]
      refine ⟨hlt, ho.trans .ap, by omega, ?_⟩
      rw [List.take_succ_eq_append_getElem hlt, List.take_succ_eq_append_getElem hlt2, hg]
      congr 2
      cases ha' : a[i]
      cases hb' : b[i]
      rw [ha', hb'] at he
      simp_all
    · have de : decide (a[i].m = b[i].m ∧ a[i].n = b[i].n) = false := by simpa using he
      simp only [↓eD0, ↓eD1, eC0, eC1, eC2, eC3, eC4, eC5, eC6, wantedE, ↓reduceIte, Nat.reduceEqDiff, Option.map_some, Option.map_none, reread, List.nil_append, List.cons_append, List.map_cons, List.map_nil, List.length_nil, List.length_cons, Value.cells, List.getElem?_cons_zero, List.getElem?_cons_succ, outE, lks, lkR, rdV, neg1, evs, opt, Nat.reduceAdd, Nat.reduceMul, and_self, reduceCtorEq, List.size_toArray, List.all_cons, List.all_nil, Value.oneCell', List.set_cons_zero, List.set_cons_succ, sets, fillL, Nat.reduceLeDiff, List.drop_succ_cons, List.drop_zero, List.take_succ_cons, List.take_zero, List.toList_toArray, argsE, Array.append_empty, Array.empty_append, List.getElem?_toArray, Int.reduceLT, Int.reduceLE, Int.reduceToNat, Int.reduceEq, Nat.reduceLT, dl, hb1, hb2, Int.toNat_natCast, h3, h4, trnV, trn_eq, de, hw]
      exact ⟨ho.trans .ap, by simp [flat], by rw [decide_eq_false]; intro h; subst h; exact he ⟨rfl, rfl⟩⟩
  · have : i = a.length := by omega
    subst this
    have dl : decide ((a.length:Int) < (a.length : Int)) = false := by simp
    simp only [↓eD0, ↓eD1, eC0, eC1, eC2, eC3, eC4, eC5, eC6, wantedE, ↓reduceIte, Nat.reduceEqDiff, Option.map_some, Option.map_none, reread, List.nil_append, List.cons_append, List.map_cons, List.map_nil, List.length_nil, List.length_cons, Value.cells, List.getElem?_cons_zero, List.getElem?_cons_succ, outE, lks, lkR, rdV, neg1, evs, opt, Nat.reduceAdd, Nat.reduceMul, and_self, reduceCtorEq, List.size_toArray, List.all_cons, List.all_nil, Value.oneCell', List.set_cons_zero, List.set_cons_succ, sets, fillL, Nat.reduceLeDiff, List.drop_succ_cons, List.drop_zero, List.take_succ_cons, List.take_zero, List.toList_toArray, argsE, Array.append_empty, Array.empty_append, List.getElem?_toArray, Int.reduceLT, Int.reduceLE, Int.reduceToNat, Int.reduceEq, Nat.reduceLT, dl]
    rw [List.take_length, List.take_of_length_le (by omega)] at hg
    exact ⟨ho.trans .ap, by simp [flat], by rw [decide_eq_true hg]⟩

/-- A slice that is written out. -/
theorem row_lit {τ : H} {b ver n s : Nat} {rows : List (List Value)} (h : τ[b]? = some (.cells ver rows.flatten (0, 0))) (hr : ∀ r ∈ rows, r.length = s) (hn : rows.length = n) (hb : n < big) : Row τ s (.slice (some ⟨b, 0, none⟩) n n) rows := by
  subst hn
  exact Grown.Row (Grown.lit (σ0 := sized b) (flatten_length hr) hb (by rw [sized_size]; omega) h) hr
end Go.Proofs.Ytimcgoghjebalaa

set_option linter.unusedSimpArgs false
set_option linter.unusedVariables false
set_option maxRecDepth 10000
set_option maxHeartbeats 1000000
namespace Go.Proofs.Ytimcgoghjebalaa
open Go Go.Cn Go.RowKit

def l1 : List Ctr := [⟨10, 100, 1⟩, ⟨20, 100, 2⟩]
def l2 : List Ctr := [⟨0, 20, 5⟩, ⟨0, 30, 5⟩]
def P0 : List Por := [⟨1, 5, 0⟩, ⟨2, 2, 0⟩]
def T4 : Ten := ⟨4, ⟨20, 100, 2⟩, ⟨0, 20, 5⟩⟩
def T5 : Ten := ⟨5, ⟨20, 100, 2⟩, ⟨0, 20, 5⟩⟩
def T4' : Ten := ⟨4, ⟨10, 100, 1⟩, ⟨0, 20, 5⟩⟩
def B0 : Bud := ⟨30, 9, []⟩
def B1 : Bud := ⟨30, 9, [T4]⟩

theorem sanity_app {σ : H} : App Try.prog (.func 11) #[] #[] σ fun v σ' => σ' = σ ∧ v = .bool true := by
  refine App.forget (App.of_sem mixed Try.func11 t11 k11 r11 (Nat.le_of_ble_eq_true rfl) ?_)
  rw [← ap_nil (σ := σ)]
  unfold s11
  simp only [↓eD0, ↓eD1, eC0, eC1, eC2, eC3, eC4, eC5, eC6, wantedE, ↓reduceIte, Nat.reduceEqDiff, Option.map_some, Option.map_none, reread, List.nil_append, List.cons_append, List.map_cons, List.map_nil, List.length_nil, List.length_cons, Value.cells, List.getElem?_cons_zero, List.getElem?_cons_succ, outE, lks, lkR, rdV, neg1, evs, opt, Nat.reduceAdd, Nat.reduceMul, and_self, reduceCtorEq, List.size_toArray, List.all_cons, List.all_nil, Value.oneCell', List.set_cons_zero, List.set_cons_succ, sets, fillL, Nat.reduceLeDiff, List.drop_succ_cons, List.drop_zero, List.take_succ_cons, List.take_zero, List.toList_toArray, argsE, Array.append_empty, Array.empty_append, List.getElem?_toArray, Int.reduceLT, Int.reduceLE, Int.reduceToNat, Int.reduceEq, Nat.reduceLT, rep6]
  generalize hT : ap σ [.cells 0 [.int .i64 10, .int .i64 100, .int .i64 1, .int .i64 20, .int .i64 100, .int .i64 2] (0, 0), .cells 0 [.int .i64 0, .int .i64 20, .int .i64 5, .int .i64 0, .int .i64 30, .int .i64 5] (0, 0), .cells 0 [.int .i64 100, .int .i64 100] (0, 0)] = T
  have hoT : Old σ T := hT ▸ .ap
  have q0 : T[σ.size]? = some (.cells 0 [.int .i64 10, .int .i64 100, .int .i64 1, .int .i64 20, .int .i64 100, .int .i64 2] (0, 0)) := by rw [← hT]; exact ap_new0
  have q1 : T[σ.size + 1]? = some (.cells 0 [.int .i64 0, .int .i64 20, .int .i64 5, .int .i64 0, .int .i64 30, .int .i64 5] (0, 0)) := by rw [← hT]; exact ap_new
  have q2 : T[σ.size + 2]? = some (.cells 0 [.int .i64 100, .int .i64 100] (0, 0)) := by rw [← hT]; exact ap_new
  have low : ∀ {τ : H} {b : Nat} {k : Blk}, Old T τ → T[b]? = some k → τ[b]? = some k := fun ho h => (ho.2 _ (Array.getElem?_eq_some_iff.1 h).1).trans h
  have R1 : ∀ τ, Old T τ → Row τ 3 (.slice (some ⟨σ.size, 0, none⟩) 2 2) (l1.map ctrV) := fun τ ho => row_lit (low ho q0) (by decide) rfl (by decide)
  have R2 : ∀ τ, Old T τ → Row τ 3 (.slice (some ⟨σ.size + 1, 0, none⟩) 2 2) (l2.map ctrV) := fun τ ho => row_lit (low ho q1) (by decide) rfl (by decide)
  have R3 : ∀ τ, Old T τ → Row τ 1 (.slice (some ⟨σ.size + 2, 0, none⟩) 2 2) ([100, 100].map intV) := fun τ ho => row_lit (low ho q2) (by decide) rfl (by decide)
  refine appK_of (fill_app (l := l1) (ds := [100, 100]) (cap := 100) (R1 _ .refl) (R3 _ .refl) (filled_of (by kernel_rfl))) ?_
  rintro va τ1 ⟨ho1, ra⟩
  rw [show fillC (claimsF l1 [100, 100]) 100 = [34, 66] by kernel_rfl] at ra
  rw [← ap_nil (σ := τ1)]
  simp only [↓eD0, ↓eD1, eC0, eC1, eC2, eC3, eC4, eC5, eC6, wantedE, ↓reduceIte, Nat.reduceEqDiff, Option.map_some, Option.map_none, reread, List.nil_append, List.cons_append, List.map_cons, List.map_nil, List.length_nil, List.length_cons, Value.cells, List.getElem?_cons_zero, List.getElem?_cons_succ, outE, lks, lkR, rdV, neg1, evs, opt, Nat.reduceAdd, Nat.reduceMul, and_self, reduceCtorEq, List.size_toArray, List.all_cons, List.all_nil, Value.oneCell', List.set_cons_zero, List.set_cons_succ, sets, fillL, Nat.reduceLeDiff, List.drop_succ_cons, List.drop_zero, List.take_succ_cons, List.take_zero, List.toList_toArray, argsE, Array.append_empty, Array.empty_append, List.getElem?_toArray, Int.reduceLT, Int.reduceLE, Int.reduceToNat, Int.reduceEq, Nat.reduceLT]
  have i1 : Old T (ap τ1 [.cells 0 [.int .i64 5, .int .i64 100] (0, 0)]) := ho1.trans .ap
  refine appK_of (fill_app (l := l1) (ds := [5, 100]) (cap := 100) (R1 _ i1) (row_lit (rows := [5, 100].map intV) (τ := ap τ1 [.cells 0 [.int .i64 5, .int .i64 100] (0, 0)]) ap_new0 (by decide) rfl (by decide)) (filled_of (by kernel_rfl))) ?_
  rintro vb τ2 ⟨ho2, rb⟩
  rw [show fillC (claimsF l1 [5, 100]) 100 = [5, 95] by kernel_rfl] at rb
  have o2 : Old T τ2 := i1.trans ho2
  have ra2 := ra.Old ((Old.ap (l := [.cells 0 [.int .i64 5, .int .i64 100] (0, 0)])).trans ho2)
  rw [← ap_nil (σ := τ2)]
  simp only [↓eD0, ↓eD1, eC0, eC1, eC2, eC3, eC4, eC5, eC6, wantedE, ↓reduceIte, Nat.reduceEqDiff, Option.map_some, Option.map_none, reread, List.nil_append, List.cons_append, List.map_cons, List.map_nil, List.length_nil, List.length_cons, Value.cells, List.getElem?_cons_zero, List.getElem?_cons_succ, outE, lks, lkR, rdV, neg1, evs, opt, Nat.reduceAdd, Nat.reduceMul, and_self, reduceCtorEq, List.size_toArray, List.all_cons, List.all_nil, Value.oneCell', List.set_cons_zero, List.set_cons_succ, sets, fillL, Nat.reduceLeDiff, List.drop_succ_cons, List.drop_zero, List.take_succ_cons, List.take_zero, List.toList_toArray, argsE, Array.append_empty, Array.empty_append, List.getElem?_toArray, Int.reduceLT, Int.reduceLE, Int.reduceToNat, Int.reduceEq, Nat.reduceLT]
  have i2 : Old T (ap τ2 []) := o2.trans .ap
  refine appK_of (fill_app (l := l1) (ds := [100, 100]) (cap := 30) (R1 _ i2) (R3 _ i2) (filled_of (by kernel_rfl))) ?_
  rintro vc τ3 ⟨ho3, rc⟩
  rw [show fillC (claimsF l1 [100, 100]) 30 = [10, 20] by kernel_rfl] at rc
  rw [ap_nil] at ho3
  have o3 : Old T τ3 := o2.trans ho3
  rw [← ap_nil (σ := τ3)]
  simp only [↓eD0, ↓eD1, eC0, eC1, eC2, eC3, eC4, eC5, eC6, wantedE, ↓reduceIte, Nat.reduceEqDiff, Option.map_some, Option.map_none, reread, List.nil_append, List.cons_append, List.map_cons, List.map_nil, List.length_nil, List.length_cons, Value.cells, List.getElem?_cons_zero, List.getElem?_cons_succ, outE, lks, lkR, rdV, neg1, evs, opt, Nat.reduceAdd, Nat.reduceMul, and_self, reduceCtorEq, List.size_toArray, List.all_cons, List.all_nil, Value.oneCell', List.set_cons_zero, List.set_cons_succ, sets, fillL, Nat.reduceLeDiff, List.drop_succ_cons, List.drop_zero, List.take_succ_cons, List.take_zero, List.toList_toArray, argsE, Array.append_empty, Array.empty_append, List.getElem?_toArray, Int.reduceLT, Int.reduceLE, Int.reduceToNat, Int.reduceEq, Nat.reduceLT]
  have i3 : Old T (ap τ3 []) := o3.trans .ap
  refine appK_of (fill_app (l := l2) (ds := [100, 100]) (cap := 100) (R2 _ i3) (R3 _ i3) (filled_of (by kernel_rfl))) ?_
  rintro vd τ4 ⟨ho4, rd⟩
  rw [show fillC (claimsF l2 [100, 100]) 100 = [20, 30] by kernel_rfl] at rd
  rw [ap_nil] at ho4
  have o4 : Old T τ4 := o3.trans ho4
  rw [← ap_nil (σ := τ4)]
  simp only [↓eD0, ↓eD1, eC0, eC1, eC2, eC3, eC4, eC5, eC6, wantedE, ↓reduceIte, Nat.reduceEqDiff, Option.map_some, Option.map_none, reread, List.nil_append, List.cons_append, List.map_cons, List.map_nil, List.length_nil, List.length_cons, Value.cells, List.getElem?_cons_zero, List.getElem?_cons_succ, outE, lks, lkR, rdV, neg1, evs, opt, Nat.reduceAdd, Nat.reduceMul, and_self, reduceCtorEq, List.size_toArray, List.all_cons, List.all_nil, Value.oneCell', List.set_cons_zero, List.set_cons_succ, sets, fillL, Nat.reduceLeDiff, List.drop_succ_cons, List.drop_zero, List.take_succ_cons, List.take_zero, List.toList_toArray, argsE, Array.append_empty, Array.empty_append, List.getElem?_toArray, Int.reduceLT, Int.reduceLE, Int.reduceToNat, Int.reduceEq, Nat.reduceLT, rep6]
  refine appK_of (turns_app (L0 := P0) (q := 2) (row_lit (rows := P0.map porV) (τ := ap τ4 [.cells 0 [.int .i64 1, .int .i64 5, .int .i64 0, .int .i64 2, .int .i64 2, .int .i64 0] (0, 0)]) ap_new0 (by decide) rfl (by decide)) (by decide) (by decide) (by decide) (by decide)) ?_
  rintro ve τ5 ⟨ho5, re⟩
  rw [show turnsF 2 P0 = [⟨1, 2⟩, ⟨2, 2⟩, ⟨1, 2⟩, ⟨1, 1⟩] by kernel_rfl] at re
  have o45 : Old τ4 τ5 := (Old.ap (l := [.cells 0 [.int .i64 1, .int .i64 5, .int .i64 0, .int .i64 2, .int .i64 2, .int .i64 0] (0, 0)])).trans ho5
  have o5 : Old T τ5 := o4.trans o45
  have ra5 := ra2.Old (ho3.trans (ho4.trans o45))
  have rb5 := rb.Old (ho3.trans (ho4.trans o45))
  have rc5 := rc.Old (ho4.trans o45)
  have rd5 := rd.Old o45
  clear ra ra2 rb rc rd ho1 ho2 ho3 ho4 ho5 o45 i1 i2 i3 o2 o3 o4
  have L1 : ∀ τ, Old T τ → rdN τ ⟨σ.size, 3, none⟩ 3 = some [.int .i64 20, .int .i64 100, .int .i64 2] := fun τ ho => by rw [rdN_eq, low ho q0]; rfl
  have L0 : ∀ τ, Old T τ → rdN τ ⟨σ.size, 0, none⟩ 3 = some [.int .i64 10, .int .i64 100, .int .i64 1] := fun τ ho => by rw [rdN_eq, low ho q0]; rfl
  have M0 : ∀ τ, Old T τ → rdN τ ⟨σ.size + 1, 0, none⟩ 3 = some [.int .i64 0, .int .i64 20, .int .i64 5] := fun τ ho => by rw [rdN_eq, low ho q1]; rfl
  have L1' := fun l => L1 (ap τ5 l) (o5.trans .ap)
  have M0' := fun l => M0 (ap τ5 l) (o5.trans .ap)
  rw [← ap_nil (σ := τ5)]
  simp only [↓eD0, ↓eD1, eC0, eC1, eC2, eC3, eC4, eC5, eC6, wantedE, ↓reduceIte, Nat.reduceEqDiff, Option.map_some, Option.map_none, reread, List.nil_append, List.cons_append, List.map_cons, List.map_nil, List.length_nil, List.length_cons, Value.cells, List.getElem?_cons_zero, List.getElem?_cons_succ, outE, lks, lkR, rdV, neg1, evs, opt, Nat.reduceAdd, Nat.reduceMul, and_self, reduceCtorEq, List.size_toArray, List.all_cons, List.all_nil, Value.oneCell', List.set_cons_zero, List.set_cons_succ, sets, fillL, Nat.reduceLeDiff, List.drop_succ_cons, List.drop_zero, List.take_succ_cons, List.take_zero, List.toList_toArray, argsE, Array.append_empty, Array.empty_append, List.getElem?_toArray, Int.reduceLT, Int.reduceLE, Int.reduceToNat, Int.reduceEq, Nat.reduceLT, Int.cast_ofNat_Int, L1', M0', rep7]
  have srt0 : Srt B0.L := List.Pairwise.nil
  have srt1 : Srt B1.L := List.pairwise_singleton _ _
  have isB0 : ∀ τ, IsB τ [.int .i64 30, .int .i64 9, .slice none 0 0] B0 := fun τ => ⟨none, 0, rfl, ⟨none, 0, rfl, fun i x h => by simp [B0] at h⟩, ⟨none, 0, 0, rfl, by decide, .inl rfl⟩⟩
  refine appK_of (admit_app (B := B0) (t := T4) (isB0 _) srt0 (by decide)) ?_
  rintro _ τ6 ⟨ho6, l6, rfl, hB6, hlow⟩
  rw [show admitF B0 T4 = (B1, 0) by kernel_rfl] at hB6 hlow ⊢
  obtain ⟨bs, cp, rfl, hr6, hc6⟩ := hB6
  have hlow := fun c hb => hlow rfl c (.slice bs B1.L.length cp) rfl hb
  rw [ap_size] at hlow
  simp only [List.length_cons, List.length_nil] at hlow
  have p6 : τ6[τ5.size]? = some (.cells 0 [.int .i64 0, .int .i64 0, .slice none 0 0] (0, 0)) := (ho6.2 _ (by simp [ap_size])).trans ap_new0
  have hz5 := o5.1
  have o56 : Old τ5 τ6 := Old.ap.trans ho6
  have hK : ∀ k, Old τ5 (τ6.setIfInBounds τ5.size k) := fun k => o56.set (Nat.le_refl _)
  have w6 : wrN τ6 ⟨τ5.size, 0, none⟩ [.int .i64 B1.st, .int .i64 B1.pg, .slice bs B1.L.length cp] = some (τ6.setIfInBounds τ5.size (.cells 1 [.int .i64 B1.st, .int .i64 B1.pg, .slice bs B1.L.length cp] (0, 0))) := by
    rw [wrN_eq, if_neg (by simp), p6, wrc_cells]; rfl
  simp only [↓eD0, ↓eD1, eC0, eC1, eC2, eC3, eC4, eC5, eC6, wantedE, ↓reduceIte, Nat.reduceEqDiff, Option.map_some, Option.map_none, reread, List.nil_append, List.cons_append, List.map_cons, List.map_nil, List.length_nil, List.length_cons, Value.cells, List.getElem?_cons_zero, List.getElem?_cons_succ, outE, lks, lkR, rdV, neg1, evs, opt, Nat.reduceAdd, Nat.reduceMul, and_self, reduceCtorEq, List.size_toArray, List.all_cons, List.all_nil, Value.oneCell', List.set_cons_zero, List.set_cons_succ, sets, fillL, Nat.reduceLeDiff, List.drop_succ_cons, List.drop_zero, List.take_succ_cons, List.take_zero, List.toList_toArray, argsE, Array.append_empty, Array.empty_append, List.getElem?_toArray, Int.reduceLT, Int.reduceLE, Int.reduceToNat, Int.reduceEq, Nat.reduceLT, budV, w6]
  have hB7 : IsB (τ6.setIfInBounds τ5.size (.cells 1 [.int .i64 B1.st, .int .i64 B1.pg, .slice bs B1.L.length cp] (0, 0))) (budV B1 bs cp) B1 := by
    refine ⟨bs, cp, rfl, ?_, hc6⟩
    obtain ⟨base', cap', h1, h2⟩ := hr6
    refine ⟨base', cap', h1, fun i x hx => ?_⟩
    obtain ⟨b, off, h3, h4⟩ := h2 i x hx
    refine ⟨b, off, h3, ?_⟩
    rw [rdN_set_ne]
    · exact h4
    · intro h
      injection h1 with h1
      have := hlow b (by rw [h1, h3]; rfl)
      simp only at h
      omega
  have p7 : (τ6.setIfInBounds τ5.size (.cells 1 [.int .i64 B1.st, .int .i64 B1.pg, .slice bs B1.L.length cp] (0, 0)))[τ5.size]? = some (.cells 1 [.int .i64 B1.st, .int .i64 B1.pg, .slice bs B1.L.length cp] (0, 0)) := get_set p6
  have o57 := hK (.cells 1 [.int .i64 B1.st, .int .i64 B1.pg, .slice bs B1.L.length cp] (0, 0))
  generalize τ6.setIfInBounds τ5.size (.cells 1 [.int .i64 B1.st, .int .i64 B1.pg, .slice bs B1.L.length cp] (0, 0)) = τ7 at hB7 p7 o57 ⊢
  clear hK w6 p6 o56 ho6 hr6 hlow L1' M0'
  have o7 : Old T τ7 := o5.trans o57
  have z7 := (Array.getElem?_eq_some_iff.1 p7).1
  have L1' := fun l => L1 (ap τ7 l) (o7.trans .ap)
  have M0' := fun l => M0 (ap τ7 l) (o7.trans .ap)
  have X7 : ∀ l, rdN (ap τ7 l) ⟨τ5.size, 0, none⟩ 3 = some [.int .i64 B1.st, .int .i64 B1.pg, .slice bs B1.L.length cp] := fun l => rdN_all ((ap_old z7).trans p7) rfl
  rw [← ap_nil (σ := τ7)]
  simp only [↓eD0, ↓eD1, eC0, eC1, eC2, eC3, eC4, eC5, eC6, wantedE, ↓reduceIte, Nat.reduceEqDiff, Option.map_some, Option.map_none, reread, List.nil_append, List.cons_append, List.map_cons, List.map_nil, List.length_nil, List.length_cons, Value.cells, List.getElem?_cons_zero, List.getElem?_cons_succ, outE, lks, lkR, rdV, neg1, evs, opt, Nat.reduceAdd, Nat.reduceMul, and_self, reduceCtorEq, List.size_toArray, List.all_cons, List.all_nil, Value.oneCell', List.set_cons_zero, List.set_cons_succ, sets, fillL, Nat.reduceLeDiff, List.drop_succ_cons, List.drop_zero, List.take_succ_cons, List.take_zero, List.toList_toArray, argsE, Array.append_empty, Array.empty_append, List.getElem?_toArray, Int.reduceLT, Int.reduceLE, Int.reduceToNat, Int.reduceEq, Nat.reduceLT, Int.cast_ofNat_Int, L1', M0', X7, rep7]
  refine appK_of (admit_app (B := B1) (t := T5) (hB7.Old .ap) srt1 (by decide)) ?_
  rintro _ τ8 ⟨ho8, l8, rfl, hB8, _⟩
  rw [show admitF B1 T5 = (B1, 2) by kernel_rfl] at hB8 ⊢
  obtain ⟨bs8, cp8, rfl, hr8, hc8⟩ := hB8
  have p8 : τ8[τ7.size]? = some (.cells 0 [.int .i64 0, .int .i64 0, .slice none 0 0] (0, 0)) := (ho8.2 _ (by simp [ap_size])).trans ap_new0
  have o78 : Old τ7 τ8 := Old.ap.trans ho8
  have w8 : wrN τ8 ⟨τ7.size, 0, none⟩ [.int .i64 B1.st, .int .i64 B1.pg, .slice bs8 B1.L.length cp8] = some (τ8.setIfInBounds τ7.size (.cells 1 [.int .i64 B1.st, .int .i64 B1.pg, .slice bs8 B1.L.length cp8] (0, 0))) := by
    rw [wrN_eq, if_neg (by simp), p8, wrc_cells]; rfl
  simp only [↓eD0, ↓eD1, eC0, eC1, eC2, eC3, eC4, eC5, eC6, wantedE, ↓reduceIte, Nat.reduceEqDiff, Option.map_some, Option.map_none, reread, List.nil_append, List.cons_append, List.map_cons, List.map_nil, List.length_nil, List.length_cons, Value.cells, List.getElem?_cons_zero, List.getElem?_cons_succ, outE, lks, lkR, rdV, neg1, evs, opt, Nat.reduceAdd, Nat.reduceMul, and_self, reduceCtorEq, List.size_toArray, List.all_cons, List.all_nil, Value.oneCell', List.set_cons_zero, List.set_cons_succ, sets, fillL, Nat.reduceLeDiff, List.drop_succ_cons, List.drop_zero, List.take_succ_cons, List.take_zero, List.toList_toArray, argsE, Array.append_empty, Array.empty_append, List.getElem?_toArray, Int.reduceLT, Int.reduceLE, Int.reduceToNat, Int.reduceEq, Nat.reduceLT, budV, w8]
  have o79 : Old τ7 (τ8.setIfInBounds τ7.size (.cells 1 [.int .i64 B1.st, .int .i64 B1.pg, .slice bs8 B1.L.length cp8] (0, 0))) := o78.set (Nat.le_refl _)
  generalize τ8.setIfInBounds τ7.size (.cells 1 [.int .i64 B1.st, .int .i64 B1.pg, .slice bs8 B1.L.length cp8] (0, 0)) = τ9 at o79 ⊢
  clear L1' M0' X7 w8 p8 o78 ho8 hr8 hc8
  have o9 : Old T τ9 := o7.trans o79
  have p9 := (o79.2 _ z7).trans p7
  have z9 := (Array.getElem?_eq_some_iff.1 p9).1
  have L0' := fun l => L0 (ap τ9 l) (o9.trans .ap)
  have M0' := fun l => M0 (ap τ9 l) (o9.trans .ap)
  have X9 : ∀ l, rdN (ap τ9 l) ⟨τ5.size, 0, none⟩ 3 = some [.int .i64 B1.st, .int .i64 B1.pg, .slice bs B1.L.length cp] := fun l => rdN_all ((ap_old z9).trans p9) rfl
  rw [← ap_nil (σ := τ9)]
  simp only [↓eD0, ↓eD1, eC0, eC1, eC2, eC3, eC4, eC5, eC6, wantedE, ↓reduceIte, Nat.reduceEqDiff, Option.map_some, Option.map_none, reread, List.nil_append, List.cons_append, List.map_cons, List.map_nil, List.length_nil, List.length_cons, Value.cells, List.getElem?_cons_zero, List.getElem?_cons_succ, outE, lks, lkR, rdV, neg1, evs, opt, Nat.reduceAdd, Nat.reduceMul, and_self, reduceCtorEq, List.size_toArray, List.all_cons, List.all_nil, Value.oneCell', List.set_cons_zero, List.set_cons_succ, sets, fillL, Nat.reduceLeDiff, List.drop_succ_cons, List.drop_zero, List.take_succ_cons, List.take_zero, List.toList_toArray, argsE, Array.append_empty, Array.empty_append, List.getElem?_toArray, Int.reduceLT, Int.reduceLE, Int.reduceToNat, Int.reduceEq, Nat.reduceLT, Int.cast_ofNat_Int, L0', M0', X9, rep7]
  refine appK_of (admit_app (B := B1) (t := T4') (hB7.Old (o79.trans .ap)) srt1 (by decide)) ?_
  rintro _ τa ⟨hoa, la, rfl, hBa, _⟩
  rw [show admitF B1 T4' = (B1, 6) by kernel_rfl] at hBa ⊢
  obtain ⟨bsa, cpa, rfl, hra, hca⟩ := hBa
  have pa : τa[τ9.size]? = some (.cells 0 [.int .i64 0, .int .i64 0, .slice none 0 0] (0, 0)) := (hoa.2 _ (by simp [ap_size])).trans ap_new0
  have o9a : Old τ9 τa := Old.ap.trans hoa
  have wa : wrN τa ⟨τ9.size, 0, none⟩ [.int .i64 B1.st, .int .i64 B1.pg, .slice bsa B1.L.length cpa] = some (τa.setIfInBounds τ9.size (.cells 1 [.int .i64 B1.st, .int .i64 B1.pg, .slice bsa B1.L.length cpa] (0, 0))) := by
    rw [wrN_eq, if_neg (by simp), pa, wrc_cells]; rfl
  have o9b : Old τ9 (τa.setIfInBounds τ9.size (.cells 1 [.int .i64 B1.st, .int .i64 B1.pg, .slice bsa B1.L.length cpa] (0, 0))) := o9a.set (Nat.le_refl _)
  have Xb : rdN (τa.setIfInBounds τ9.size (.cells 1 [.int .i64 B1.st, .int .i64 B1.pg, .slice bsa B1.L.length cpa] (0, 0))) ⟨τ5.size, 0, none⟩ 3 = some [.int .i64 B1.st, .int .i64 B1.pg, .slice bs B1.L.length cp] := rdN_all ((o9b.2 _ z9).trans p9) rfl
  simp only [↓eD0, ↓eD1, eC0, eC1, eC2, eC3, eC4, eC5, eC6, wantedE, ↓reduceIte, Nat.reduceEqDiff, Option.map_some, Option.map_none, reread, List.nil_append, List.cons_append, List.map_cons, List.map_nil, List.length_nil, List.length_cons, Value.cells, List.getElem?_cons_zero, List.getElem?_cons_succ, outE, lks, lkR, rdV, neg1, evs, opt, Nat.reduceAdd, Nat.reduceMul, and_self, reduceCtorEq, List.size_toArray, List.all_cons, List.all_nil, Value.oneCell', List.set_cons_zero, List.set_cons_succ, sets, fillL, Nat.reduceLeDiff, List.drop_succ_cons, List.drop_zero, List.take_succ_cons, List.take_zero, List.toList_toArray, argsE, Array.append_empty, Array.empty_append, List.getElem?_toArray, Int.reduceLT, Int.reduceLE, Int.reduceToNat, Int.reduceEq, Nat.reduceLT, budV, wa, undef_eq]
  generalize τa.setIfInBounds τ9.size (.cells 1 [.int .i64 B1.st, .int .i64 B1.pg, .slice bsa B1.L.length cpa] (0, 0)) = τb at o9b Xb ⊢
  clear wa pa o9a hoa hra hca
  simp only [↓eD0, ↓eD1, eC0, eC1, eC2, eC3, eC4, eC5, eC6, wantedE, ↓reduceIte, Nat.reduceEqDiff, Option.map_some, Option.map_none, reread, List.nil_append, List.cons_append, List.map_cons, List.map_nil, List.length_nil, List.length_cons, Value.cells, List.getElem?_cons_zero, List.getElem?_cons_succ, outE, lks, lkR, rdV, neg1, evs, opt, Nat.reduceAdd, Nat.reduceMul, and_self, reduceCtorEq, List.size_toArray, List.all_cons, List.all_nil, Value.oneCell', List.set_cons_zero, List.set_cons_succ, sets, fillL, Nat.reduceLeDiff, List.drop_succ_cons, List.drop_zero, List.take_succ_cons, List.take_zero, List.toList_toArray, argsE, Array.append_empty, Array.empty_append, List.getElem?_toArray, Int.reduceLT, Int.reduceLE, Int.reduceToNat, Int.reduceEq, Nat.reduceLT, Xb, undef_eq]
  have o5b : Old τ5 τb := (o57.trans o79).trans o9b
  refine appK_of (valid_app (B := B1) (hB7.Old (o79.trans o9b))) ?_
  rintro _ _ ⟨e2, rfl⟩
  rw [e2, show validF B1 = true by kernel_rfl]
  clear e2
  rw [← ap_nil (σ := τb)]
  simp only [↓eD0, ↓eD1, eC0, eC1, eC2, eC3, eC4, eC5, eC6, wantedE, ↓reduceIte, Nat.reduceEqDiff, Option.map_some, Option.map_none, reread, List.nil_append, List.cons_append, List.map_cons, List.map_nil, List.length_nil, List.length_cons, Value.cells, List.getElem?_cons_zero, List.getElem?_cons_succ, outE, lks, lkR, rdV, neg1, evs, opt, Nat.reduceAdd, Nat.reduceMul, and_self, reduceCtorEq, List.size_toArray, List.all_cons, List.all_nil, Value.oneCell', List.set_cons_zero, List.set_cons_succ, sets, fillL, Nat.reduceLeDiff, List.drop_succ_cons, List.drop_zero, List.take_succ_cons, List.take_zero, List.toList_toArray, argsE, Array.append_empty, Array.empty_append, List.getElem?_toArray, Int.reduceLT, Int.reduceLE, Int.reduceToNat, Int.reduceEq, Nat.reduceLT, undef_eq]
  have tl : ∀ {l : List Blk} {a b : Int} {j : Nat}, l[j]? = some (.cells 0 [.int .i64 a, .int .i64 b] (0, 0)) → Row (ap τb l) 1 (.slice (some ⟨τb.size + j, 0, none⟩) 2 2) ([a, b].map intV) := fun h => row_lit (ap_new.trans h) (by intro r hr; obtain ⟨x, _, rfl⟩ := List.mem_map.1 hr; rfl) rfl (by decide)
  refine appK_of (sameInts_app (a := [34, 66]) (b := [34, 66]) (ra5.Old (o5b.trans .ap)) (tl (j := 0) rfl) (by decide)) ?_
  rintro _ _ ⟨e2, rfl⟩
  rw [e2, show decide (([34, 66] : List Int) = [34, 66]) = true by decide]
  clear e2
  simp only [↓eD0, ↓eD1, eC0, eC1, eC2, eC3, eC4, eC5, eC6, wantedE, ↓reduceIte, Nat.reduceEqDiff, Option.map_some, Option.map_none, reread, List.nil_append, List.cons_append, List.map_cons, List.map_nil, List.length_nil, List.length_cons, Value.cells, List.getElem?_cons_zero, List.getElem?_cons_succ, outE, lks, lkR, rdV, neg1, evs, opt, Nat.reduceAdd, Nat.reduceMul, and_self, reduceCtorEq, List.size_toArray, List.all_cons, List.all_nil, Value.oneCell', List.set_cons_zero, List.set_cons_succ, sets, fillL, Nat.reduceLeDiff, List.drop_succ_cons, List.drop_zero, List.take_succ_cons, List.take_zero, List.toList_toArray, argsE, Array.append_empty, Array.empty_append, List.getElem?_toArray, Int.reduceLT, Int.reduceLE, Int.reduceToNat, Int.reduceEq, Nat.reduceLT, undef_eq]
  refine appK_of (sameInts_app (a := [5, 95]) (b := [5, 95]) (rb5.Old (o5b.trans .ap)) (tl (j := 1) rfl) (by decide)) ?_
  rintro _ _ ⟨e2, rfl⟩
  rw [e2, show decide (([5, 95] : List Int) = [5, 95]) = true by decide]
  clear e2
  simp only [↓eD0, ↓eD1, eC0, eC1, eC2, eC3, eC4, eC5, eC6, wantedE, ↓reduceIte, Nat.reduceEqDiff, Option.map_some, Option.map_none, reread, List.nil_append, List.cons_append, List.map_cons, List.map_nil, List.length_nil, List.length_cons, Value.cells, List.getElem?_cons_zero, List.getElem?_cons_succ, outE, lks, lkR, rdV, neg1, evs, opt, Nat.reduceAdd, Nat.reduceMul, and_self, reduceCtorEq, List.size_toArray, List.all_cons, List.all_nil, Value.oneCell', List.set_cons_zero, List.set_cons_succ, sets, fillL, Nat.reduceLeDiff, List.drop_succ_cons, List.drop_zero, List.take_succ_cons, List.take_zero, List.toList_toArray, argsE, Array.append_empty, Array.empty_append, List.getElem?_toArray, Int.reduceLT, Int.reduceLE, Int.reduceToNat, Int.reduceEq, Nat.reduceLT, undef_eq]
  refine appK_of (sameInts_app (a := [10, 20]) (b := [10, 20]) (rc5.Old (o5b.trans .ap)) (tl (j := 2) rfl) (by decide)) ?_
  rintro _ _ ⟨e2, rfl⟩
  rw [e2, show decide (([10, 20] : List Int) = [10, 20]) = true by decide]
  clear e2
  simp only [↓eD0, ↓eD1, eC0, eC1, eC2, eC3, eC4, eC5, eC6, wantedE, ↓reduceIte, Nat.reduceEqDiff, Option.map_some, Option.map_none, reread, List.nil_append, List.cons_append, List.map_cons, List.map_nil, List.length_nil, List.length_cons, Value.cells, List.getElem?_cons_zero, List.getElem?_cons_succ, outE, lks, lkR, rdV, neg1, evs, opt, Nat.reduceAdd, Nat.reduceMul, and_self, reduceCtorEq, List.size_toArray, List.all_cons, List.all_nil, Value.oneCell', List.set_cons_zero, List.set_cons_succ, sets, fillL, Nat.reduceLeDiff, List.drop_succ_cons, List.drop_zero, List.take_succ_cons, List.take_zero, List.toList_toArray, argsE, Array.append_empty, Array.empty_append, List.getElem?_toArray, Int.reduceLT, Int.reduceLE, Int.reduceToNat, Int.reduceEq, Nat.reduceLT, undef_eq]
  refine appK_of (sameInts_app (a := [20, 30]) (b := [20, 30]) (rd5.Old (o5b.trans .ap)) (tl (j := 3) rfl) (by decide)) ?_
  rintro _ _ ⟨e2, rfl⟩
  rw [e2, show decide (([20, 30] : List Int) = [20, 30]) = true by decide]
  clear e2
  simp only [↓eD0, ↓eD1, eC0, eC1, eC2, eC3, eC4, eC5, eC6, wantedE, ↓reduceIte, Nat.reduceEqDiff, Option.map_some, Option.map_none, reread, List.nil_append, List.cons_append, List.map_cons, List.map_nil, List.length_nil, List.length_cons, Value.cells, List.getElem?_cons_zero, List.getElem?_cons_succ, outE, lks, lkR, rdV, neg1, evs, opt, Nat.reduceAdd, Nat.reduceMul, and_self, reduceCtorEq, List.size_toArray, List.all_cons, List.all_nil, Value.oneCell', List.set_cons_zero, List.set_cons_succ, sets, fillL, Nat.reduceLeDiff, List.drop_succ_cons, List.drop_zero, List.take_succ_cons, List.take_zero, List.toList_toArray, argsE, Array.append_empty, Array.empty_append, List.getElem?_toArray, Int.reduceLT, Int.reduceLE, Int.reduceToNat, Int.reduceEq, Nat.reduceLT, undef_eq]
  have rep8 : ∀ v : Value, List.replicate 8 v = [v, v, v, v, v, v, v, v] := fun _ => rfl
  simp only [↓eD0, ↓eD1, eC0, eC1, eC2, eC3, eC4, eC5, eC6, wantedE, ↓reduceIte, Nat.reduceEqDiff, Option.map_some, Option.map_none, reread, List.nil_append, List.cons_append, List.map_cons, List.map_nil, List.length_nil, List.length_cons, Value.cells, List.getElem?_cons_zero, List.getElem?_cons_succ, outE, lks, lkR, rdV, neg1, evs, opt, Nat.reduceAdd, Nat.reduceMul, and_self, reduceCtorEq, List.size_toArray, List.all_cons, List.all_nil, Value.oneCell', List.set_cons_zero, List.set_cons_succ, sets, fillL, Nat.reduceLeDiff, List.drop_succ_cons, List.drop_zero, List.take_succ_cons, List.take_zero, List.toList_toArray, argsE, Array.append_empty, Array.empty_append, List.getElem?_toArray, Int.reduceLT, Int.reduceLE, Int.reduceToNat, Int.reduceEq, Nat.reduceLT, rep8]
  refine appK_of (sameTurns_app (a := [⟨1, 2⟩, ⟨2, 2⟩, ⟨1, 2⟩, ⟨1, 1⟩]) (b := [⟨1, 2⟩, ⟨2, 2⟩, ⟨1, 2⟩, ⟨1, 1⟩]) (re.Old (o5b.trans .ap)) (row_lit (rows := [⟨1, 2⟩, ⟨2, 2⟩, ⟨1, 2⟩, ⟨1, 1⟩].map trnV) (ap_new (i := 4)) (by decide) rfl (by decide)) (by decide)) ?_
  rintro _ _ ⟨e2, rfl⟩
  rw [e2, show decide (([⟨1, 2⟩, ⟨2, 2⟩, ⟨1, 2⟩, ⟨1, 1⟩] : List Trn) = [⟨1, 2⟩, ⟨2, 2⟩, ⟨1, 2⟩, ⟨1, 1⟩]) = true by decide]
  clear e2
  simp only [↓eD0, ↓eD1, eC0, eC1, eC2, eC3, eC4, eC5, eC6, wantedE, ↓reduceIte, Nat.reduceEqDiff, Option.map_some, Option.map_none, reread, List.nil_append, List.cons_append, List.map_cons, List.map_nil, List.length_nil, List.length_cons, Value.cells, List.getElem?_cons_zero, List.getElem?_cons_succ, outE, lks, lkR, rdV, neg1, evs, opt, Nat.reduceAdd, Nat.reduceMul, and_self, reduceCtorEq, List.size_toArray, List.all_cons, List.all_nil, Value.oneCell', List.set_cons_zero, List.set_cons_succ, sets, fillL, Nat.reduceLeDiff, List.drop_succ_cons, List.drop_zero, List.take_succ_cons, List.take_zero, List.toList_toArray, argsE, Array.append_empty, Array.empty_append, List.getElem?_toArray, Int.reduceLT, Int.reduceLE, Int.reduceToNat, Int.reduceEq, Nat.reduceLT, undef_eq]
  exact ⟨(hoT.trans (o5.trans o5b)).trans .ap, rfl⟩
end Go.Proofs.Ytimcgoghjebalaa
