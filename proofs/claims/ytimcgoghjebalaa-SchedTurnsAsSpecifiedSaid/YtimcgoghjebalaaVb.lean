/- Walks of the functions that the claim reaches. Conditions: none. -/
import Derived.Test.YtimcgoghjebalaaVa
set_option linter.all false
set_option linter.unusedSimpArgs false
set_option linter.unusedVariables false
set_option maxRecDepth 10000
set_option maxHeartbeats 1000000
namespace Go.Proofs.Ytimcgoghjebalaa
open Go Go.Cn Go.RowKit

theorem sets_all : ∀ {l z : List Value} {o : Nat}, o + l.length ≤ z.length → sets z o l = z.take o ++ l ++ z.drop (o + l.length)
  | [], z, o, _ => by simp [sets]
  | v :: l, z, o, h => by
    simp only [List.length_cons] at h
    rw [sets, sets_all (by simp; omega)]
    have ho : o < z.length := by omega
    rw [List.take_set, List.drop_set_of_lt (by omega)]
    rw [List.take_succ_eq_append_getElem ho, List.set_append_right _ _ (by simp; omega)]
    simp only [List.length_take, Nat.min_eq_left (Nat.le_of_lt ho), Nat.sub_self, List.set_cons_zero, List.length_cons, List.append_assoc, List.cons_append, List.nil_append]
    rw [show o + 1 + l.length = o + (l.length + 1) by omega]
theorem sets_mid {a z b l : List Value} {o : Nat} (ho : a.length = o) (hl : l.length = z.length) : sets (a ++ z ++ b) o l = a ++ l ++ b := by
  subst ho
  have h1 : (a ++ z ++ b).take a.length = a := by rw [List.append_assoc, List.take_left' rfl]
  have h2 : (a ++ z ++ b).drop (a.length + l.length) = b := by rw [hl, ← List.length_append, List.drop_left' rfl]
  rw [sets_all (by simp; omega), h1, h2]

/-- A block of rows that is filled from its beginning. -/
def part (rows : List (List Value)) (z : List Value) (k : Nat) : List Value := rows.flatten ++ (List.replicate k z).flatten
theorem part_zero {rows : List (List Value)} {z : List Value} : part rows z 0 = rows.flatten := by simp [part]
theorem part_nil {z : List Value} {k : Nat} : (List.replicate k z).flatten = part [] z k := by simp [part]
theorem part_set {rows : List (List Value)} {z x : List Value} {k s : Nat} (hr : ∀ r ∈ rows, r.length = s) (hx : x.length = s) (hz : z.length = s) (hk : 0 < k) :
    sets (part rows z k) (rows.length * s) x = part (rows ++ [x]) z (k - 1) := by
  obtain ⟨k, rfl⟩ : ∃ j, k = j + 1 := ⟨k - 1, by omega⟩
  unfold part
  rw [List.replicate_succ, List.flatten_cons, ← List.append_assoc, sets_mid (flatten_length hr) (by rw [hx, hz])]
  simp
theorem part_length {rows : List (List Value)} {z : List Value} {k s : Nat} (hr : ∀ r ∈ rows, r.length = s) (hz : z.length = s) : (part rows z k).length = (rows.length + k) * s := by
  unfold part
  rw [List.length_append, flatten_length hr, flatten_length (s := s) (by intro r hr; rw [(List.mem_replicate.1 hr).2]; exact hz), List.length_replicate, Nat.add_mul]

/-- What is left. -/
def leftG (L : Int) : List Cl → Int → Int
  | [], left => left
  | c :: r, left => leftG L r (left - mn left (atC c (L + 1) - atC c L))
theorem leftG_snoc {L : Int} {c : Cl} : ∀ {a : List Cl} {left : Int}, leftG L (a ++ [c]) left = leftG L a left - mn (leftG L a left) (atC c (L + 1) - atC c L)
  | [], _ => rfl
  | x :: a, left => by rw [List.cons_append, leftG, leftG_snoc]; rfl
theorem fillG_snoc {L : Int} {c : Cl} : ∀ {a : List Cl} {left : Int}, fillG L (a ++ [c]) left = fillG L a left ++ [atC c L + mn (leftG L a left) (atC c (L + 1) - atC c L)]
  | [], _ => rfl
  | x :: a, left => by rw [List.cons_append, fillG, fillG_snoc]; rfl
theorem leftG_bounds {L : Int} : ∀ {a : List Cl} {left : Int}, AllOk a → 0 ≤ left → 0 ≤ leftG L a left ∧ leftG L a left ≤ left
  | [], left, _, h => ⟨h, Int.le_refl _⟩
  | c :: a, left, ok, h => by
    have h1 := mn_le left (atC c (L + 1) - atC c L)
    have h2 := atC_mono (t := L) (u := L + 1) (ok c (by simp)) (by omega)
    have := leftG_bounds (L := L) (a := a) (left := left - mn left (atC c (L + 1) - atC c L)) (fun x hx => ok x (by simp [hx])) (by omega)
    rw [leftG]
    omega
theorem fillG_len {L : Int} : ∀ {a : List Cl} {left : Int}, (fillG L a left).length = a.length
  | [], _ => rfl
  | c :: a, left => by rw [fillG, List.length_cons, List.length_cons, fillG_len]

theorem fill_app {σ : H} {l : List Ctr} {ds : List Int} {lv dv : Value} {cap : Int} (hl : Row σ 3 lv (l.map ctrV)) (hd : Row σ 1 dv (ds.map intV)) (hF : Filled cap l ds) :
    App Try.prog (.func 16) #[] #[.int .i64 cap, lv, dv] σ fun v σ' => Old σ σ' ∧ Row σ' 1 v ((fillC (claimsF l ds) cap).map intV) := by
  refine App.of_sem mixed Try.func16 t16 k16 r16 (Nat.le_of_ble_eq_true rfl) ?_
  obtain ⟨base, cp, rfl⟩ := hl.slice
  obtain ⟨base2, cp2, rfl⟩ := hd.slice
  obtain ⟨hamt, few, len, ok, am, hle⟩ := hF
  simp only [List.length_map] at hl hd ⊢
  have hcl := claims_len len
  have hok := claims_ok ok am
  have hL := level_ok hle
  generalize hcs : claimsF l ds = cs at hcl hok hL hle ⊢
  have hget : ∀ i (h : i < cs.length) (h1 : i < l.length) (h2 : i < ds.length), cs[i] = clF l[i] ds[i] := by
    intro i h h1 h2
    subst hcs
    simp [claimsF]
  unfold fillC
  generalize levelF cs cap = L at hL ⊢
  have n0 : (0:Int) ≤ (l.length : Int) := by omega
  have n1 : (l.length:Int) ≤ (l.length : Int) := by omega
  have n2 : 24 * (l.length:Int) ≤ 140737488355328 := by omega
  have n3 : (l.length:Int) < 9223372036854775808 := by omega
  have n4 : 8 * (l.length:Int) ≤ 140737488355328 := by omega
  have e0 : ap σ [] = σ := ap_nil
  rw [← e0]
  unfold s16
  simp only [↓eD0, ↓eD1, eC0, eC1, eC2, eC3, eC4, eC5, eC6, wantedE, ↓reduceIte, Nat.reduceEqDiff, Option.map_some, Option.map_none, reread, List.nil_append, List.cons_append, List.map_cons, List.map_nil, List.length_nil, List.length_cons, Value.cells, List.getElem?_cons_zero, List.getElem?_cons_succ, outE, lks, lkR, rdV, neg1, evs, opt, Nat.reduceAdd, Nat.reduceMul, and_self, reduceCtorEq, List.size_toArray, List.all_cons, List.all_nil, Value.oneCell', List.set_cons_zero, List.set_cons_succ, sets, fillL, Nat.reduceLeDiff, List.drop_succ_cons, List.drop_zero, List.take_succ_cons, List.take_zero, List.toList_toArray, argsE, Array.append_empty, Array.empty_append, List.getElem?_toArray, Int.reduceLT, Int.reduceLE, Int.reduceToNat, Int.reduceEq, Nat.reduceLT, n0, n1, n2, n3, Int.cast_ofNat_Int, Int.toNat_natCast, part_nil]
  refine loop_for (J := fun i e τ => i ≤ l.length ∧ Old σ τ ∧ e = [(1, .slice base l.length cp), (2, .slice base2 ds.length cp2), (3, .pointer (some ⟨σ.size, 0, none⟩)), (7, .pointer (some ⟨σ.size + 2, 0, none⟩)), (21, .slice base l.length cp), (22, .int .i64 l.length), (23, .int .i64 i)] ∧
      τ[σ.size]? = some (.cells 0 [.int .i64 cap] (0, 0)) ∧ (∃ ver, τ[σ.size + 1]? = some (.cells ver (part ((cs.take i).map clV) [.int .i64 0, .int .i64 0, .int .i64 0] (l.length - i)) (0, 0))) ∧ (∃ ver, τ[σ.size + 2]? = some (.cells ver [.slice (some ⟨σ.size + 1, 0, none⟩) l.length l.length] (0, 0)))) l.length
    ⟨by omega, .ap, rfl, ap_new0, ⟨0, ap_new⟩, ⟨1, ap_new⟩⟩ ?_
  rintro i e τ hi ⟨_, ho, rfl, q0, ⟨v1, q1⟩, ⟨v2, q2⟩⟩
  have e1 : ap τ [] = τ := ap_nil
  have z0 := (Array.getElem?_eq_some_iff.1 q0).1
  have z1 := (Array.getElem?_eq_some_iff.1 q1).1
  have z2 := (Array.getElem?_eq_some_iff.1 q2).1
  have r2 : ∀ L, rd1 (ap τ L) ⟨σ.size + 2, 0, none⟩ = some (.slice (some ⟨σ.size + 1, 0, none⟩) l.length l.length) := fun L => by rw [rd1_eq, ap_old z2, q2]; rfl
  rw [← e1]
  by_cases hlt : i < l.length
  · have dl : decide ((i:Int) < (l.length : Int)) = true := by simpa using hlt
    have hx : (l.map ctrV)[i]? = some (ctrV l[i]) := by simp [hlt]
    have hx2 : (ds.map intV)[i]? = some (intV ds[i]) := by simp [len, hlt]
    obtain ⟨b, off, rfl, h1⟩ := hl.at hx
    obtain ⟨b2, off2, rfl, h2⟩ := hd.at hx2
    have h3 : ∀ L, rdN (ap τ L) ⟨b, off + i * 3, none⟩ 3 = some (ctrV l[i]) := fun L => rdN_Old (ho.trans .ap) h1
    have h4 : ∀ L, rd1 (ap τ L) ⟨b2, off2 + i, none⟩ = some (.int .i64 ds[i]) := fun L => rd1_Old (ho.trans .ap) (by simpa using rd1_row h2 (j := 0) rfl)
    have hb : (0:Int) ≤ (i:Int) ∧ (i:Int) < (l.length : Int) := by omega
    have hb2 : (0:Int) ≤ (i:Int) ∧ (i:Int) < (ds.length : Int) := by omega
    have hw : IntKind.wrap .i64 ((i:Int) + 1) = ((i + 1 : Nat) : Int) := by rw [wrap64 (by omega) (by omega)]; omega
    have hrows : ∀ r ∈ (cs.take i).map clV, r.length = 3 := by intro r hr; obtain ⟨c, _, rfl⟩ := List.mem_map.1 hr; rfl
    have hpl := part_length (z := [Value.int .i64 0, .int .i64 0, .int .i64 0]) (k := l.length - i) hrows rfl
    have hps := part_set (x := clV (clF l[i] ds[i])) (z := [Value.int .i64 0, .int .i64 0, .int .i64 0]) (k := l.length - i) hrows rfl rfl (by omega)
    have hti : ((cs.take i).map clV).length = i := by simp; omega
    rw [hti] at hps hpl
    have hw3 : ∀ L, wrN (ap τ L) ⟨σ.size + 1, i * 3, none⟩ [.int .i64 (mn l[i].r ds[i]), .int .i64 (mn l[i].l ds[i]), .int .i64 l[i].s] = some ((ap τ L).setIfInBounds (σ.size + 1) (.cells (v1 + 1) (part ((cs.take (i + 1)).map clV) [.int .i64 0, .int .i64 0, .int .i64 0] (l.length - (i + 1))) (0, 0))) := fun L => by
      rw [wrN_eq, if_neg (by simp), ap_old z1, q1, wrc_cells, if_pos ⟨by rw [hpl]; simp; omega, by rfl⟩]
      rw [show [Value.int .i64 (mn l[i].r ds[i]), .int .i64 (mn l[i].l ds[i]), .int .i64 l[i].s] = clV (clF l[i] ds[i]) from rfl, hps]
      rw [List.take_succ_eq_append_getElem (by omega), List.map_append, List.map_singleton, hget i (by omega) hlt (by omega), Nat.sub_sub]
      rfl
    simp only [↓eD0, ↓eD1, eC0, eC1, eC2, eC3, eC4, eC5, eC6, wantedE, ↓reduceIte, Nat.reduceEqDiff, Option.map_some, Option.map_none, reread, List.nil_append, List.cons_append, List.map_cons, List.map_nil, List.length_nil, List.length_cons, Value.cells, List.getElem?_cons_zero, List.getElem?_cons_succ, outE, lks, lkR, rdV, neg1, evs, opt, Nat.reduceAdd, Nat.reduceMul, and_self, reduceCtorEq, List.size_toArray, List.all_cons, List.all_nil, Value.oneCell', List.set_cons_zero, List.set_cons_succ, sets, fillL, Nat.reduceLeDiff, List.drop_succ_cons, List.drop_zero, List.take_succ_cons, List.take_zero, List.toList_toArray, argsE, Array.append_empty, Array.empty_append, List.getElem?_toArray, Int.reduceLT, Int.reduceLE, Int.reduceToNat, Int.reduceEq, Nat.reduceLT, dl, hb, hb2, Int.toNat_natCast, h3, h4, ctrV, r2, mn_eq, hw, hw3]
    have hn1 : σ.size + 1 ≠ σ.size := by omega
    refine ⟨hlt, by omega, (ho.trans .ap).set (by omega), ?_, ⟨v1 + 1, ?_⟩, ⟨v2, ?_⟩⟩
    · rw [get_set_ne (by omega), ap_old z0]; exact q0
    · exact get_set ((ap_old z1).trans q1)
    · rw [get_set_ne (by omega), ap_old z2]; exact q2
  · have : i = l.length := by omega
    subst this
    have dl : decide ((l.length:Int) < (l.length : Int)) = false := by simp
    rw [Nat.sub_self, part_zero, List.take_of_length_le (by omega)] at q1
    have hrows : ∀ r ∈ cs.map clV, r.length = 3 := by intro r hr; obtain ⟨c, _, rfl⟩ := List.mem_map.1 hr; rfl
    have hRow : Row τ 3 (.slice (some ⟨σ.size + 1, 0, none⟩) l.length l.length) (cs.map clV) := by
      have := Grown.Row (σ0 := σ) (rows := cs.map clV) (s := 3) (by
        have := Grown.lit (σ0 := σ) (σ := τ) (s := 3) (n := l.length) (b := σ.size + 1) (cs := (cs.map clV).flatten) (by rw [flatten_length hrows]; simp [hcl]) (by unfold big; omega) (by omega) q1
        simpa [hcl] using this) hrows
      simpa [hcl] using this
    simp only [↓eD0, ↓eD1, eC0, eC1, eC2, eC3, eC4, eC5, eC6, wantedE, ↓reduceIte, Nat.reduceEqDiff, Option.map_some, Option.map_none, reread, List.nil_append, List.cons_append, List.map_cons, List.map_nil, List.length_nil, List.length_cons, Value.cells, List.getElem?_cons_zero, List.getElem?_cons_succ, outE, lks, lkR, rdV, neg1, evs, opt, Nat.reduceAdd, Nat.reduceMul, and_self, reduceCtorEq, List.size_toArray, List.all_cons, List.all_nil, Value.oneCell', List.set_cons_zero, List.set_cons_succ, sets, fillL, Nat.reduceLeDiff, List.drop_succ_cons, List.drop_zero, List.take_succ_cons, List.take_zero, List.toList_toArray, argsE, Array.append_empty, Array.empty_append, List.getElem?_toArray, Int.reduceLT, Int.reduceLE, Int.reduceToNat, Int.reduceEq, Nat.reduceLT, dl]
    have p0 := q0
    refine appK_of (search_app (L := L) hL.h0 hL.hM (by omega) (fun t τ' h0 h1 ho' => ?_)) ?_
    · refine App.mono (over_app (cs := cs) (cap := cap) (t := t) (b3 := σ.size + 2) (rd1_Old ho' (by rw [rd1_ap0]; rfl)) (rd1_Old ho' (by rw [rd1_eq, ap_old z0, q0]; rfl)) (rd1_Old ho' (r2 _)) (hRow.Old (Old.trans .ap ho')) hok (by omega) h0 h1) ?_
      rintro v σ' ⟨g1, g2⟩
      refine ⟨g1, ?_⟩
      rw [g2, decide_eq_decide.2 (hL.lt hok h0 h1)]
    rintro _ _ ⟨e2, rfl⟩
    rw [e2]
    clear e2
    have r0 : ∀ L, rd1 (ap τ L) ⟨σ.size, 0, none⟩ = some (.int .i64 cap) := fun L => by rw [rd1_eq, ap_old z0, q0]; rfl
    have sL := sumC_bounds (cs := cs) (t := L) hok hL.h0
    have ws : IntKind.wrap .i64 (cap - sumC cs L) = cap - sumC cs L := wrap64 (by have := hamt.1; omega) (by have := hamt.2; omega)
    simp only [↓eD0, ↓eD1, eC0, eC1, eC2, eC3, eC4, eC5, eC6, wantedE, ↓reduceIte, Nat.reduceEqDiff, Option.map_some, Option.map_none, reread, List.nil_append, List.cons_append, List.map_cons, List.map_nil, List.length_nil, List.length_cons, Value.cells, List.getElem?_cons_zero, List.getElem?_cons_succ, outE, lks, lkR, rdV, neg1, evs, opt, Nat.reduceAdd, Nat.reduceMul, and_self, reduceCtorEq, List.size_toArray, List.all_cons, List.all_nil, Value.oneCell', List.set_cons_zero, List.set_cons_succ, sets, fillL, Nat.reduceLeDiff, List.drop_succ_cons, List.drop_zero, List.take_succ_cons, List.take_zero, List.toList_toArray, argsE, Array.append_empty, Array.empty_append, List.getElem?_toArray, Int.reduceLT, Int.reduceLE, Int.reduceToNat, Int.reduceEq, Nat.reduceLT, r0, r2]
    refine appK_of (sum1_app (cs := cs) (t := L) (r2 _) (hRow.Old .ap) hok (by omega) ⟨hL.h0, by have := hL.hM; omega⟩) ?_
    rintro _ _ ⟨e2, rfl⟩
    rw [e2]
    clear e2
    simp only [↓eD0, ↓eD1, eC0, eC1, eC2, eC3, eC4, eC5, eC6, wantedE, ↓reduceIte, Nat.reduceEqDiff, Option.map_some, Option.map_none, reread, List.nil_append, List.cons_append, List.map_cons, List.map_nil, List.length_nil, List.length_cons, Value.cells, List.getElem?_cons_zero, List.getElem?_cons_succ, outE, lks, lkR, rdV, neg1, evs, opt, Nat.reduceAdd, Nat.reduceMul, and_self, reduceCtorEq, List.size_toArray, List.all_cons, List.all_nil, Value.oneCell', List.set_cons_zero, List.set_cons_succ, sets, fillL, Nat.reduceLeDiff, List.drop_succ_cons, List.drop_zero, List.take_succ_cons, List.take_zero, List.toList_toArray, argsE, Array.append_empty, Array.empty_append, List.getElem?_toArray, Int.reduceLT, Int.reduceLE, Int.reduceToNat, Int.reduceEq, Nat.reduceLT, Int.cast_ofNat_Int, r0, r2, ws, n0, n1, n3, n4, Int.toNat_natCast, part_nil]
    have hleft : 0 ≤ cap - sumC cs L := by have := hL.le; omega
    have hleft2 : cap - sumC cs L ≤ 1073741824 := by have := hamt.2; omega
    generalize cap - sumC cs L = left at hleft hleft2 ⊢
    have hT : ∀ L, Old τ (ap τ L) := fun L => .ap
    refine loop_for (J := fun i e ρ => i ≤ l.length ∧ Old τ ρ ∧ e = [(11, .int .i64 L), (12, .int .i64 (leftG L (cs.take i) left)), (13, .slice (some ⟨τ.size + 1, 0, none⟩) l.length l.length), (60, .slice (some ⟨σ.size + 1, 0, none⟩) l.length l.length), (61, .int .i64 l.length), (62, .int .i64 i)] ∧
        (∃ ver, ρ[τ.size + 1]? = some (.cells ver (part ((fillG L (cs.take i) left).map intV) [.int .i64 0] (l.length - i)) (0, 0)))) l.length
      ⟨by omega, .ap, rfl, ⟨0, ap_new⟩⟩ ?_
    rintro i e ρ hi ⟨_, hoρ, rfl, ⟨v3, q3⟩⟩
    have e3 : ap ρ [] = ρ := ap_nil
    have z3 := (Array.getElem?_eq_some_iff.1 q3).1
    have hrows1 : ∀ (xs : List Int), ∀ r ∈ xs.map intV, r.length = 1 := by intro xs r hr; obtain ⟨c, _, rfl⟩ := List.mem_map.1 hr; rfl
    rw [← e3]
    by_cases hlt : i < l.length
    · have dl : decide ((i:Int) < (l.length : Int)) = true := by simpa using hlt
      have hx : (cs.map clV)[i]? = some (clV cs[i]) := by simp [hcl, hlt]
      obtain ⟨b, off, hbo, h1⟩ := hRow.at hx
      injection hbo with hbo
      injection hbo with hb1 hb2 hb3
      subst hb1 hb2
      have h3 : ∀ L, rdN (ap ρ L) ⟨σ.size + 1, i * 3, none⟩ 3 = some (clV cs[i]) := fun L => by
        have := rdN_Old (hoρ.trans (Old.ap (l := L))) h1
        simpa using this
      have hb : (0:Int) ≤ (i:Int) ∧ (i:Int) < (l.length : Int) := by omega
      have hw : IntKind.wrap .i64 ((i:Int) + 1) = ((i + 1 : Nat) : Int) := by rw [wrap64 (by omega) (by omega)]; omega
      have hoki := hok cs[i] (by simp)
      have a1 := atC_bounds (t := L) hoki hL.h0
      have a2 := atC_bounds (t := L + 1) hoki (by have := hL.h0; omega)
      have a3 := atC_mono (t := L) (u := L + 1) hoki (by omega)
      have lb := leftG_bounds (L := L) (a := cs.take i) (left := left) (fun x hx => hok x (List.mem_of_mem_take hx)) hleft
      have mb := mn_le (leftG L (cs.take i) left) (atC cs[i] (L + 1) - atC cs[i] L)
      have hL0 := hL.h0
      have hLM := hL.hM
      have w1 : IntKind.wrap .i64 (L + 1) = L + 1 := wrap64 (by omega) (by omega)
      have w2 : IntKind.wrap .i64 (atC cs[i] (L + 1) - atC cs[i] L) = atC cs[i] (L + 1) - atC cs[i] L := wrap64 (by omega) (by omega)
      have w3 : IntKind.wrap .i64 (atC cs[i] L + mn (leftG L (cs.take i) left) (atC cs[i] (L + 1) - atC cs[i] L)) = atC cs[i] L + mn (leftG L (cs.take i) left) (atC cs[i] (L + 1) - atC cs[i] L) := wrap64 (by omega) (by omega)
      have w4 : IntKind.wrap .i64 (leftG L (cs.take i) left - mn (leftG L (cs.take i) left) (atC cs[i] (L + 1) - atC cs[i] L)) = leftG L (cs.take i) left - mn (leftG L (cs.take i) left) (atC cs[i] (L + 1) - atC cs[i] L) := wrap64 (by omega) (by omega)
      have hpl := part_length (z := [Value.int .i64 0]) (k := l.length - i) (hrows1 (fillG L (cs.take i) left)) rfl
      have hps := part_set (x := intV (atC cs[i] L + mn (leftG L (cs.take i) left) (atC cs[i] (L + 1) - atC cs[i] L))) (z := [Value.int .i64 0]) (k := l.length - i) (hrows1 (fillG L (cs.take i) left)) rfl rfl (by omega)
      have hti : ((fillG L (cs.take i) left).map intV).length = i := by simp [fillG_len]; omega
      rw [hti] at hps hpl
      have tk : cs.take (i + 1) = cs.take i ++ [cs[i]] := List.take_succ_eq_append_getElem (by omega)
      have hw3 : ∀ Q, wrN (ap ρ Q) ⟨τ.size + 1, i, none⟩ [.int .i64 (atC cs[i] L + mn (leftG L (cs.take i) left) (atC cs[i] (L + 1) - atC cs[i] L))] = some ((ap ρ Q).setIfInBounds (τ.size + 1) (.cells (v3 + 1) (part ((fillG L (cs.take (i + 1)) left).map intV) [.int .i64 0] (l.length - (i + 1))) (0, 0))) := fun Q => by
        rw [wrN_eq, if_neg (by simp), ap_old z3, q3, wrc_cells, if_pos ⟨by rw [hpl]; simp; omega, by rfl⟩]
        rw [Nat.mul_one] at hps
        rw [show [Value.int .i64 (atC cs[i] L + mn (leftG L (cs.take i) left) (atC cs[i] (L + 1) - atC cs[i] L))] = intV (atC cs[i] L + mn (leftG L (cs.take i) left) (atC cs[i] (L + 1) - atC cs[i] L)) from rfl, hps]
        rw [tk, fillG_snoc, List.map_append, List.map_singleton, Nat.sub_sub]
        rfl
      simp only [↓eD0, ↓eD1, eC0, eC1, eC2, eC3, eC4, eC5, eC6, wantedE, ↓reduceIte, Nat.reduceEqDiff, Option.map_some, Option.map_none, reread, List.nil_append, List.cons_append, List.map_cons, List.map_nil, List.length_nil, List.length_cons, Value.cells, List.getElem?_cons_zero, List.getElem?_cons_succ, outE, lks, lkR, rdV, neg1, evs, opt, Nat.reduceAdd, Nat.reduceMul, and_self, reduceCtorEq, List.size_toArray, List.all_cons, List.all_nil, Value.oneCell', List.set_cons_zero, List.set_cons_succ, sets, fillL, Nat.reduceLeDiff, List.drop_succ_cons, List.drop_zero, List.take_succ_cons, List.take_zero, List.toList_toArray, argsE, Array.append_empty, Array.empty_append, List.getElem?_toArray, Int.reduceLT, Int.reduceLE, Int.reduceToNat, Int.reduceEq, Nat.reduceLT, dl, hb, Int.toNat_natCast, h3, clV]
      refine appK_of (cat_app (c := cs[i]) (t := L) hoki ⟨hL0, by omega⟩) ?_
      rintro _ _ ⟨e2, rfl⟩
      rw [e2]
      clear e2
      simp only [↓eD0, ↓eD1, eC0, eC1, eC2, eC3, eC4, eC5, eC6, wantedE, ↓reduceIte, Nat.reduceEqDiff, Option.map_some, Option.map_none, reread, List.nil_append, List.cons_append, List.map_cons, List.map_nil, List.length_nil, List.length_cons, Value.cells, List.getElem?_cons_zero, List.getElem?_cons_succ, outE, lks, lkR, rdV, neg1, evs, opt, Nat.reduceAdd, Nat.reduceMul, and_self, reduceCtorEq, List.size_toArray, List.all_cons, List.all_nil, Value.oneCell', List.set_cons_zero, List.set_cons_succ, sets, fillL, Nat.reduceLeDiff, List.drop_succ_cons, List.drop_zero, List.take_succ_cons, List.take_zero, List.toList_toArray, argsE, Array.append_empty, Array.empty_append, List.getElem?_toArray, Int.reduceLT, Int.reduceLE, Int.reduceToNat, Int.reduceEq, Nat.reduceLT, w1]
      refine appK_of (cat_app (c := cs[i]) (t := L + 1) hoki ⟨by omega, by omega⟩) ?_
      rintro _ _ ⟨e2, rfl⟩
      rw [e2]
      clear e2
      simp only [↓eD0, ↓eD1, eC0, eC1, eC2, eC3, eC4, eC5, eC6, wantedE, ↓reduceIte, Nat.reduceEqDiff, Option.map_some, Option.map_none, reread, List.nil_append, List.cons_append, List.map_cons, List.map_nil, List.length_nil, List.length_cons, Value.cells, List.getElem?_cons_zero, List.getElem?_cons_succ, outE, lks, lkR, rdV, neg1, evs, opt, Nat.reduceAdd, Nat.reduceMul, and_self, reduceCtorEq, List.size_toArray, List.all_cons, List.all_nil, Value.oneCell', List.set_cons_zero, List.set_cons_succ, sets, fillL, Nat.reduceLeDiff, List.drop_succ_cons, List.drop_zero, List.take_succ_cons, List.take_zero, List.toList_toArray, argsE, Array.append_empty, Array.empty_append, List.getElem?_toArray, Int.reduceLT, Int.reduceLE, Int.reduceToNat, Int.reduceEq, Nat.reduceLT, hb, Int.toNat_natCast, mn_eq, w2, w3, w4, hw, hw3]
      refine ⟨hlt, by omega, (hoρ.trans .ap).set (by omega), ?_, ⟨v3 + 1, ?_⟩⟩
      · rw [tk, leftG_snoc]
      · exact get_set ((ap_old z3).trans q3)
    · have : i = l.length := by omega
      subst this
      have dl : decide ((l.length:Int) < (l.length : Int)) = false := by simp
      simp only [↓eD0, ↓eD1, eC0, eC1, eC2, eC3, eC4, eC5, eC6, wantedE, ↓reduceIte, Nat.reduceEqDiff, Option.map_some, Option.map_none, reread, List.nil_append, List.cons_append, List.map_cons, List.map_nil, List.length_nil, List.length_cons, Value.cells, List.getElem?_cons_zero, List.getElem?_cons_succ, outE, lks, lkR, rdV, neg1, evs, opt, Nat.reduceAdd, Nat.reduceMul, and_self, reduceCtorEq, List.size_toArray, List.all_cons, List.all_nil, Value.oneCell', List.set_cons_zero, List.set_cons_succ, sets, fillL, Nat.reduceLeDiff, List.drop_succ_cons, List.drop_zero, List.take_succ_cons, List.take_zero, List.toList_toArray, argsE, Array.append_empty, Array.empty_append, List.getElem?_toArray, Int.reduceLT, Int.reduceLE, Int.reduceToNat, Int.reduceEq, Nat.reduceLT, dl]
      rw [Nat.sub_self, part_zero, List.take_of_length_le (by omega)] at q3
      refine ⟨(ho.trans hoρ).trans .ap, ?_⟩
      have hlen : (fillG L cs left).length = l.length := by rw [fillG_len, hcl]
      have := Grown.Row (σ0 := σ) (σ := ap ρ []) (rows := (fillG L cs left).map intV) (s := 1) (by
        have := Grown.lit (σ0 := σ) (σ := ap ρ []) (s := 1) (n := l.length) (b := τ.size + 1) (cs := ((fillG L cs left).map intV).flatten) (by rw [flatten_length (hrows1 _)]; simp [hlen]) (by unfold big; omega) (by have := ho.1; omega) ((ap_old z3).trans q3)
        simpa [hlen] using this) (hrows1 _)
      simpa [hlen] using this
end Go.Proofs.Ytimcgoghjebalaa
