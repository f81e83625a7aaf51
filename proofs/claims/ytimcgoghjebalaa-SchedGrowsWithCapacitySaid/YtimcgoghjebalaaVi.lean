/- Walks and plain laws. Conditions: none. -/
import Derived.Test.YtimcgoghjebalaaVg
set_option linter.all false
set_option linter.unusedSimpArgs false
set_option linter.unusedVariables false
set_option maxRecDepth 10000
set_option maxHeartbeats 1000000
namespace Go.Proofs.Ytimcgoghjebalaa
open Go Go.Cn Go.RowKit

theorem leftG_mono {L : Int} : ∀ {a : List Cl} {x y : Int}, AllOk a → x ≤ y → leftG L a x ≤ leftG L a y
  | [], _, _, _, h => h
  | c :: a, x, y, ok, h => by
    have h2 := atC_mono (t := L) (u := L + 1) (ok c (by simp)) (by omega)
    rw [leftG, leftG]
    refine leftG_mono (fun z hz => ok z (by simp [hz])) ?_
    unfold mn
    split <;> split <;> omega
theorem grows {cs : List Cl} {cap cap' : Int} (ok : AllOk cs) (h0 : sumC cs 0 ≤ cap) (h : cap ≤ cap') {i : Nat} (hi : i < (fillC cs cap).length) (hi' : i < (fillC cs cap').length) : (fillC cs cap)[i] ≤ (fillC cs cap')[i] := by
  have hL := level_ok h0
  have hL' := level_ok (cs := cs) (cap := cap') (by omega)
  have hic : i < cs.length := by rw [← fillC_len (cap := cap)]; exact hi
  have hll : levelF cs cap ≤ levelF cs cap' := (hL'.le' ok hL.h0 hL.hM).1 (by have := hL.le; omega)
  have f1 := fill_get ok hL hic hi
  have f2 := fill_get ok hL' hic hi'
  have hc := ok cs[i] (by simp)
  by_cases he : levelF cs cap < levelF cs cap'
  · have := atC_mono (t := levelF cs cap + 1) (u := levelF cs cap') hc (by omega)
    omega
  · have he : levelF cs cap' = levelF cs cap := by omega
    have g1 := fillG_get (L := levelF cs cap) (cs := cs) (left := cap - sumC cs (levelF cs cap)) hic
    have g2 := fillG_get (L := levelF cs cap') (cs := cs) (left := cap' - sumC cs (levelF cs cap')) hic
    have e1 : (fillC cs cap)[i]? = _ := g1
    have e2 : (fillC cs cap')[i]? = _ := g2
    rw [List.getElem?_eq_getElem hi] at e1
    rw [List.getElem?_eq_getElem hi'] at e2
    injection e1 with e1
    injection e2 with e2
    rw [e1, e2, he]
    have hm := leftG_mono (L := levelF cs cap) (a := cs.take i) (x := cap - sumC cs (levelF cs cap)) (y := cap' - sumC cs (levelF cs cap)) (fun z hz => ok z (List.mem_of_mem_take hz)) (by omega)
    unfold mn
    split <;> split <;> omega

def highP (c : Ctr) (d : Int) : Int := if c.l ≤ d then 1073741824 else d
def highF (l : List Ctr) (ds : List Int) : List Int := List.zipWith highP l ds
theorem high_clF {c : Ctr} {d : Int} (hc : c.Ok) (hd : Amt d) : clF c (highP c d) = clF c d := by
  obtain ⟨h1, h2, h3, h4, h5⟩ := hc
  unfold clF highP
  split
  · have e1 : mn c.r 1073741824 = mn c.r d := by unfold mn; split <;> split <;> omega
    have e2 : mn c.l 1073741824 = mn c.l d := by unfold mn; split <;> split <;> omega
    rw [e1, e2]
  · rfl
theorem high_claims : ∀ {l : List Ctr} {ds : List Int}, (∀ c ∈ l, c.Ok) → (∀ d ∈ ds, Amt d) → claimsF l (highF l ds) = claimsF l ds
  | [], _, _, _ => by simp [claimsF]
  | c :: l, [], _, _ => by simp [claimsF, highF]
  | c :: l, d :: ds, h1, h2 => by
    have ih := high_claims (l := l) (ds := ds) (fun x hx => h1 x (by simp [hx])) (fun x hx => h2 x (by simp [hx]))
    simp only [claimsF, highF, List.zipWith_cons_cons] at ih ⊢
    rw [ih, high_clF (h1 c (by simp)) (h2 d (by simp))]
theorem high_amt {l : List Ctr} {ds : List Int} (h2 : ∀ d ∈ ds, Amt d) : ∀ d ∈ highF l ds, Amt d := by
  intro d hd
  obtain ⟨i, hi, rfl⟩ := List.getElem_of_mem hd
  simp only [highF, List.getElem_zipWith, highP]
  split
  · exact ⟨by decide, by decide⟩
  · exact h2 _ (by simp)

theorem law6 {σ : H} {l : List Ctr} {ds : List Int} {lv dv : Value} {cap more : Int} (hl : Row σ 3 lv (l.map ctrV)) (hd : Row σ 1 dv (ds.map intV)) (hm0 : 0 ≤ more) (hm1 : more ≤ 4294967295) :
    App Try.prog (.func 6) #[] #[.int .i64 cap, .int .u32 more, lv, dv] σ fun v σ' => Old σ σ' ∧ v = .bool true := by
  refine App.of_sem mixed Try.func6 t6 k6 r6 (Nat.le_of_ble_eq_true rfl) ?_
  rw [← ap_nil (σ := σ)]
  unfold s6
  simp only [↓eD0, ↓eD1, eC0, eC1, eC2, eC3, eC4, eC5, eC6, wantedE, ↓reduceIte, Nat.reduceEqDiff, Option.map_some, Option.map_none, reread, List.nil_append, List.cons_append, List.map_cons, List.map_nil, List.length_nil, List.length_cons, Value.cells, List.getElem?_cons_zero, List.getElem?_cons_succ, outE, lks, lkR, rdV, neg1, evs, opt, Nat.reduceAdd, Nat.reduceMul, and_self, reduceCtorEq, List.size_toArray, List.all_cons, List.all_nil, Value.oneCell', List.set_cons_zero, List.set_cons_succ, sets, fillL, Nat.reduceLeDiff, List.drop_succ_cons, List.drop_zero, List.take_succ_cons, List.take_zero, List.toList_toArray, argsE, Array.append_empty, Array.empty_append, List.getElem?_toArray, Int.reduceLT, Int.reduceLE, Int.reduceToNat, Int.reduceEq, Nat.reduceLT]
  refine appK_of (filled_app (hl.Old .ap) (hd.Old .ap)) ?_
  rintro _ _ ⟨e2, rfl⟩
  rw [e2]
  clear e2
  cases hF : filledF cap l ds
  · simp only [↓eD0, ↓eD1, eC0, eC1, eC2, eC3, eC4, eC5, eC6, wantedE, ↓reduceIte, Nat.reduceEqDiff, Option.map_some, Option.map_none, reread, List.nil_append, List.cons_append, List.map_cons, List.map_nil, List.length_nil, List.length_cons, Value.cells, List.getElem?_cons_zero, List.getElem?_cons_succ, outE, lks, lkR, rdV, neg1, evs, opt, Nat.reduceAdd, Nat.reduceMul, and_self, reduceCtorEq, List.size_toArray, List.all_cons, List.all_nil, Value.oneCell', List.set_cons_zero, List.set_cons_succ, sets, fillL, Nat.reduceLeDiff, List.drop_succ_cons, List.drop_zero, List.take_succ_cons, List.take_zero, List.toList_toArray, argsE, Array.append_empty, Array.empty_append, List.getElem?_toArray, Int.reduceLT, Int.reduceLE, Int.reduceToNat, Int.reduceEq, Nat.reduceLT, hF]
    refine appK_of sanity_app ?_
    rintro _ _ ⟨e2, rfl⟩
    rw [e2]
    clear e2
    simp only [↓eD0, ↓eD1, eC0, eC1, eC2, eC3, eC4, eC5, eC6, wantedE, ↓reduceIte, Nat.reduceEqDiff, Option.map_some, Option.map_none, reread, List.nil_append, List.cons_append, List.map_cons, List.map_nil, List.length_nil, List.length_cons, Value.cells, List.getElem?_cons_zero, List.getElem?_cons_succ, outE, lks, lkR, rdV, neg1, evs, opt, Nat.reduceAdd, Nat.reduceMul, and_self, reduceCtorEq, List.size_toArray, List.all_cons, List.all_nil, Value.oneCell', List.set_cons_zero, List.set_cons_succ, sets, fillL, Nat.reduceLeDiff, List.drop_succ_cons, List.drop_zero, List.take_succ_cons, List.take_zero, List.toList_toArray, argsE, Array.append_empty, Array.empty_append, List.getElem?_toArray, Int.reduceLT, Int.reduceLE, Int.reduceToNat, Int.reduceEq, Nat.reduceLT]
    exact .ap
  have hFd := filled_of hF
  simp only [↓eD0, ↓eD1, eC0, eC1, eC2, eC3, eC4, eC5, eC6, wantedE, ↓reduceIte, Nat.reduceEqDiff, Option.map_some, Option.map_none, reread, List.nil_append, List.cons_append, List.map_cons, List.map_nil, List.length_nil, List.length_cons, Value.cells, List.getElem?_cons_zero, List.getElem?_cons_succ, outE, lks, lkR, rdV, neg1, evs, opt, Nat.reduceAdd, Nat.reduceMul, and_self, reduceCtorEq, List.size_toArray, List.all_cons, List.all_nil, Value.oneCell', List.set_cons_zero, List.set_cons_succ, sets, fillL, Nat.reduceLeDiff, List.drop_succ_cons, List.drop_zero, List.take_succ_cons, List.take_zero, List.toList_toArray, argsE, Array.append_empty, Array.empty_append, List.getElem?_toArray, Int.reduceLT, Int.reduceLE, Int.reduceToNat, Int.reduceEq, Nat.reduceLT, hF]
  refine appK_of (fill_app (hl.Old .ap) (hd.Old .ap) hFd) ?_
  rintro av τ0 ⟨ho0, ha⟩
  rw [ap_nil] at ho0
  have hFd' := hFd
  obtain ⟨hamt, few, len, ok, am, hle⟩ := hFd'
  obtain ⟨c1, c2⟩ := hamt
  have mc := mn_le 1073741824 (cap + more)
  have hF2 : Filled (mn 1073741824 (cap + more)) l ds := ⟨⟨by omega, by omega⟩, few, len, ok, am, by omega⟩
  have w1 : IntKind.wrap .i64 more = more := wrap64 (by omega) (by omega)
  have w2 : IntKind.wrap .i64 (cap + more) = cap + more := wrap64 (by omega) (by omega)
  rw [← ap_nil (σ := τ0)]
  simp only [↓eD0, ↓eD1, eC0, eC1, eC2, eC3, eC4, eC5, eC6, wantedE, ↓reduceIte, Nat.reduceEqDiff, Option.map_some, Option.map_none, reread, List.nil_append, List.cons_append, List.map_cons, List.map_nil, List.length_nil, List.length_cons, Value.cells, List.getElem?_cons_zero, List.getElem?_cons_succ, outE, lks, lkR, rdV, neg1, evs, opt, Nat.reduceAdd, Nat.reduceMul, and_self, reduceCtorEq, List.size_toArray, List.all_cons, List.all_nil, Value.oneCell', List.set_cons_zero, List.set_cons_succ, sets, fillL, Nat.reduceLeDiff, List.drop_succ_cons, List.drop_zero, List.take_succ_cons, List.take_zero, List.toList_toArray, argsE, Array.append_empty, Array.empty_append, List.getElem?_toArray, Int.reduceLT, Int.reduceLE, Int.reduceToNat, Int.reduceEq, Nat.reduceLT, w1, w2, mn_eq]
  refine appK_of (fill_app (hl.Old (ho0.trans .ap)) (hd.Old (ho0.trans .ap)) hF2) ?_
  rintro bv τ1 ⟨ho1, hb⟩
  rw [ap_nil] at ho1
  have hcl := claims_len len
  have hok := claims_ok ok am
  have hgr := fun i h h' => grows (cap := cap) (cap' := mn 1073741824 (cap + more)) (i := i) hok hle (by omega) h h'
  have hla := fillC_len (cs := claimsF l ds) (cap := cap)
  have hlb := fillC_len (cs := claimsF l ds) (cap := mn 1073741824 (cap + more))
  have hhc := high_claims ok am
  have hFh : Filled cap l (highF l ds) := ⟨⟨c1, c2⟩, few, by simp [highF, len], ok, high_amt am, by rw [hhc]; exact hle⟩
  have hrh : ∀ {τ : H} {v : Value}, Row τ 1 v ((fillC (claimsF l (highF l ds)) cap).map intV) → Row τ 1 v ((fillC (claimsF l ds) cap).map intV) := fun h => by rw [← hhc]; exact h
  have hhl : (highF l ds).length = l.length := by simp [highF, len]
  generalize fillC (claimsF l ds) cap = a at ha hla hgr hrh
  generalize fillC (claimsF l ds) (mn 1073741824 (cap + more)) = b at hb hlb hgr
  obtain ⟨base, cp, rfl⟩ := hl.slice
  obtain ⟨base2, cp2, rfl⟩ := hd.slice
  obtain ⟨base3, cp3, rfl⟩ := ha.slice
  obtain ⟨base4, cp4, rfl⟩ := hb.slice
  simp only [List.length_map] at hl hd ha hb ⊢
  have o1 : Old σ τ1 := ho0.trans ho1
  have hl' := hl.Old o1
  have hd' := hd.Old o1
  have ha' := ha.Old ho1
  rw [← ap_nil (σ := τ1)]
  simp only [↓eD0, ↓eD1, eC0, eC1, eC2, eC3, eC4, eC5, eC6, wantedE, ↓reduceIte, Nat.reduceEqDiff, Option.map_some, Option.map_none, reread, List.nil_append, List.cons_append, List.map_cons, List.map_nil, List.length_nil, List.length_cons, Value.cells, List.getElem?_cons_zero, List.getElem?_cons_succ, outE, lks, lkR, rdV, neg1, evs, opt, Nat.reduceAdd, Nat.reduceMul, and_self, reduceCtorEq, List.size_toArray, List.all_cons, List.all_nil, Value.oneCell', List.set_cons_zero, List.set_cons_succ, sets, fillL, Nat.reduceLeDiff, List.drop_succ_cons, List.drop_zero, List.take_succ_cons, List.take_zero, List.toList_toArray, argsE, Array.append_empty, Array.empty_append, List.getElem?_toArray, Int.reduceLT, Int.reduceLE, Int.reduceToNat, Int.reduceEq, Nat.reduceLT]
  refine loop_for (J := fun i e τ => Old τ1 τ ∧ i ≤ l.length ∧ ∃ v, e = [(0, .int .i64 cap), (2, .slice base l.length cp), (9, .slice base3 a.length cp3), (10, .slice base4 b.length cp4), (11, v), (33, .slice base2 ds.length cp2), (34, .int .i64 ds.length), (35, .int .i64 i)] ∧
      Grown τ1 τ 1 v (((highF l ds).take i).map intV).flatten ((highF l ds).take i).length) l.length ⟨.ap, by omega, _, rfl, .nil⟩ ?_
  rintro i e τ hi ⟨ho, _, v, rfl, hg⟩
  rw [← ap_nil (σ := τ)]
  by_cases hlt : i < l.length
  · have hlt2 : i < ds.length := by omega
    have dl : decide ((i:Int) < (ds.length : Int)) = true := by simpa using hlt2
    have hx : (l.map ctrV)[i]? = some (ctrV l[i]) := by simp [hlt]
    have hx2 : (ds.map intV)[i]? = some (intV ds[i]) := by simp [hlt2]
    obtain ⟨b1, off, rfl, h1⟩ := hl'.at hx
    obtain ⟨b2, off2, rfl, h2⟩ := hd'.at hx2
    have g1 : ∀ L, rd1 (ap τ L) ⟨b1, off + i * 3 + 1, none⟩ = some (.int .i64 l[i].l) := fun L => rd1_Old (ho.trans .ap) (rd1_row h1 (j := 1) rfl)
    have g2 : ∀ L, rd1 (ap τ L) ⟨b2, off2 + i, none⟩ = some (.int .i64 ds[i]) := fun L => rd1_Old (ho.trans .ap) (by simpa using rd1_row h2 (j := 0) rfl)
    have hb1 : (0:Int) ≤ (i:Int) ∧ (i:Int) < (l.length : Int) := by omega
    have hb2 : (0:Int) ≤ (i:Int) ∧ (i:Int) < (ds.length : Int) := by omega
    have hw : IntKind.wrap .i64 ((i:Int) + 1) = ((i + 1 : Nat) : Int) := by rw [wrap64 (by omega) (by omega)]; omega
    have htk : (highF l ds).take (i + 1) = (highF l ds).take i ++ [highP l[i] ds[i]] := by
      rw [List.take_succ_eq_append_getElem (by omega)]; simp [highF]
    have app : ∀ (x : Int), x = highP l[i] ds[i] → ∃ v' τ', append 1 8 v (.slice (some ⟨τ.size, 0, none⟩) 1 1) (ap τ [.cells 0 [.int .i64 x] (0, 0)]) = some (v', τ') ∧ Old τ1 τ' ∧ Grown τ1 τ' 1 v' (((highF l ds).take (i + 1)).map intV).flatten ((highF l ds).take (i + 1)).length := fun x hx => by
      obtain ⟨v', τ', ha1, hA⟩ := append_grown (σ := ap τ [.cells 0 [.int .i64 x] (0, 0)]) (xa := .slice (some ⟨τ.size, 0, none⟩) 1 1) (bytes := 8) (m := 1) (new := intV x) (hg.old .ap) (by omega) (Nat.le_trans ho.1 (Old.ap (l := _)).1) (by
        show (rdN (ap τ _) ⟨τ.size, 0, none⟩ 1).map (1, ·) = _
        rw [rdN_ap0]; rfl) rfl rfl (by simp only [List.length_take]; omega) (by omega)
      refine ⟨v', τ', ha1, hA.Old (hg.old .ap) (ho.trans .ap), ?_⟩
      rw [htk, ← hx]
      simpa using hA.grown
    by_cases hge : l[i].l ≤ ds[i]
    · have dg : decide (l[i].l ≤ ds[i]) = true := by simpa using hge
      obtain ⟨v', τ', q1, q2, q3⟩ := app 1073741824 (by rw [highP, if_pos hge])
      simp only [↓eD0, ↓eD1, eC0, eC1, eC2, eC3, eC4, eC5, eC6, wantedE, ↓reduceIte, Nat.reduceEqDiff, Option.map_some, Option.map_none, reread, List.nil_append, List.cons_append, List.map_cons, List.map_nil, List.length_nil, List.length_cons, Value.cells, List.getElem?_cons_zero, List.getElem?_cons_succ, outE, lks, lkR, rdV, neg1, evs, opt, Nat.reduceAdd, Nat.reduceMul, and_self, reduceCtorEq, List.size_toArray, List.all_cons, List.all_nil, Value.oneCell', List.set_cons_zero, List.set_cons_succ, sets, fillL, Nat.reduceLeDiff, List.drop_succ_cons, List.drop_zero, List.take_succ_cons, List.take_zero, List.toList_toArray, argsE, Array.append_empty, Array.empty_append, List.getElem?_toArray, Int.reduceLT, Int.reduceLE, Int.reduceToNat, Int.reduceEq, Nat.reduceLT, dl, hb1, hb2, Int.toNat_natCast, g1, g2, dg]
      refine onV_of q1 ?_
      simp only [↓eD0, ↓eD1, eC0, eC1, eC2, eC3, eC4, eC5, eC6, wantedE, ↓reduceIte, Nat.reduceEqDiff, Option.map_some, Option.map_none, reread, List.nil_append, List.cons_append, List.map_cons, List.map_nil, List.length_nil, List.length_cons, Value.cells, List.getElem?_cons_zero, List.getElem?_cons_succ, outE, lks, lkR, rdV, neg1, evs, opt, Nat.reduceAdd, Nat.reduceMul, and_self, reduceCtorEq, List.size_toArray, List.all_cons, List.all_nil, Value.oneCell', List.set_cons_zero, List.set_cons_succ, sets, fillL, Nat.reduceLeDiff, List.drop_succ_cons, List.drop_zero, List.take_succ_cons, List.take_zero, List.toList_toArray, argsE, Array.append_empty, Array.empty_append, List.getElem?_toArray, Int.reduceLT, Int.reduceLE, Int.reduceToNat, Int.reduceEq, Nat.reduceLT, hw]
      exact ⟨hlt, q2, by omega, v', rfl, q3⟩
    · have dg : decide (l[i].l ≤ ds[i]) = false := by simpa using hge
      obtain ⟨v', τ', q1, q2, q3⟩ := app ds[i] (by rw [highP, if_neg hge])
      simp only [↓eD0, ↓eD1, eC0, eC1, eC2, eC3, eC4, eC5, eC6, wantedE, ↓reduceIte, Nat.reduceEqDiff, Option.map_some, Option.map_none, reread, List.nil_append, List.cons_append, List.map_cons, List.map_nil, List.length_nil, List.length_cons, Value.cells, List.getElem?_cons_zero, List.getElem?_cons_succ, outE, lks, lkR, rdV, neg1, evs, opt, Nat.reduceAdd, Nat.reduceMul, and_self, reduceCtorEq, List.size_toArray, List.all_cons, List.all_nil, Value.oneCell', List.set_cons_zero, List.set_cons_succ, sets, fillL, Nat.reduceLeDiff, List.drop_succ_cons, List.drop_zero, List.take_succ_cons, List.take_zero, List.toList_toArray, argsE, Array.append_empty, Array.empty_append, List.getElem?_toArray, Int.reduceLT, Int.reduceLE, Int.reduceToNat, Int.reduceEq, Nat.reduceLT, dl, hb1, hb2, Int.toNat_natCast, g1, g2, dg]
      refine onV_of q1 ?_
      simp only [↓eD0, ↓eD1, eC0, eC1, eC2, eC3, eC4, eC5, eC6, wantedE, ↓reduceIte, Nat.reduceEqDiff, Option.map_some, Option.map_none, reread, List.nil_append, List.cons_append, List.map_cons, List.map_nil, List.length_nil, List.length_cons, Value.cells, List.getElem?_cons_zero, List.getElem?_cons_succ, outE, lks, lkR, rdV, neg1, evs, opt, Nat.reduceAdd, Nat.reduceMul, and_self, reduceCtorEq, List.size_toArray, List.all_cons, List.all_nil, Value.oneCell', List.set_cons_zero, List.set_cons_succ, sets, fillL, Nat.reduceLeDiff, List.drop_succ_cons, List.drop_zero, List.take_succ_cons, List.take_zero, List.toList_toArray, argsE, Array.append_empty, Array.empty_append, List.getElem?_toArray, Int.reduceLT, Int.reduceLE, Int.reduceToNat, Int.reduceEq, Nat.reduceLT, hw]
      exact ⟨hlt, q2, by omega, v', rfl, q3⟩
  · have : i = l.length := by omega
    subst this
    have dl : decide ((l.length:Int) < (ds.length : Int)) = false := by rw [decide_eq_false]; omega
    rw [List.take_of_length_le (by omega)] at hg
    have hrow : Row τ 1 v ((highF l ds).map intV) := Grown.Row (by simpa using hg) (by intro r hr; obtain ⟨c, _, rfl⟩ := List.mem_map.1 hr; rfl)
    have d1 : decide ((a.length:Int) = (l.length:Int)) = true := by simp; omega
    have d2 : decide ((b.length:Int) = (l.length:Int)) = true := by simp; omega
    have o2 : Old σ τ := o1.trans ho
    simp only [↓eD0, ↓eD1, eC0, eC1, eC2, eC3, eC4, eC5, eC6, wantedE, ↓reduceIte, Nat.reduceEqDiff, Option.map_some, Option.map_none, reread, List.nil_append, List.cons_append, List.map_cons, List.map_nil, List.length_nil, List.length_cons, Value.cells, List.getElem?_cons_zero, List.getElem?_cons_succ, outE, lks, lkR, rdV, neg1, evs, opt, Nat.reduceAdd, Nat.reduceMul, and_self, reduceCtorEq, List.size_toArray, List.all_cons, List.all_nil, Value.oneCell', List.set_cons_zero, List.set_cons_succ, sets, fillL, Nat.reduceLeDiff, List.drop_succ_cons, List.drop_zero, List.take_succ_cons, List.take_zero, List.toList_toArray, argsE, Array.append_empty, Array.empty_append, List.getElem?_toArray, Int.reduceLT, Int.reduceLE, Int.reduceToNat, Int.reduceEq, Nat.reduceLT, dl, d1, d2, undef_eq]
    refine appK_of (fill_app (hl.Old (o2.trans .ap)) (hrow.Old .ap) hFh) ?_
    rintro cv τ2 ⟨ho2, hc⟩
    rw [ap_nil] at ho2
    have hc := hrh hc
    have ha2 := ha'.Old (ho.trans ho2)
    have hb2 := hb.Old (ho.trans ho2)
    rw [← ap_nil (σ := τ2)]
    simp only [↓eD0, ↓eD1, eC0, eC1, eC2, eC3, eC4, eC5, eC6, wantedE, ↓reduceIte, Nat.reduceEqDiff, Option.map_some, Option.map_none, reread, List.nil_append, List.cons_append, List.map_cons, List.map_nil, List.length_nil, List.length_cons, Value.cells, List.getElem?_cons_zero, List.getElem?_cons_succ, outE, lks, lkR, rdV, neg1, evs, opt, Nat.reduceAdd, Nat.reduceMul, and_self, reduceCtorEq, List.size_toArray, List.all_cons, List.all_nil, Value.oneCell', List.set_cons_zero, List.set_cons_succ, sets, fillL, Nat.reduceLeDiff, List.drop_succ_cons, List.drop_zero, List.take_succ_cons, List.take_zero, List.toList_toArray, argsE, Array.append_empty, Array.empty_append, List.getElem?_toArray, Int.reduceLT, Int.reduceLE, Int.reduceToNat, Int.reduceEq, Nat.reduceLT, undef_eq]
    refine appK_of (sameInts_app (a := a) (b := a) (hc.Old .ap) (ha2.Old .ap) (by omega)) ?_
    rintro _ _ ⟨e2, rfl⟩
    rw [e2, show decide (a = a) = true by simp]
    clear e2
    simp only [↓eD0, ↓eD1, eC0, eC1, eC2, eC3, eC4, eC5, eC6, wantedE, ↓reduceIte, Nat.reduceEqDiff, Option.map_some, Option.map_none, reread, List.nil_append, List.cons_append, List.map_cons, List.map_nil, List.length_nil, List.length_cons, Value.cells, List.getElem?_cons_zero, List.getElem?_cons_succ, outE, lks, lkR, rdV, neg1, evs, opt, Nat.reduceAdd, Nat.reduceMul, and_self, reduceCtorEq, List.size_toArray, List.all_cons, List.all_nil, Value.oneCell', List.set_cons_zero, List.set_cons_succ, sets, fillL, Nat.reduceLeDiff, List.drop_succ_cons, List.drop_zero, List.take_succ_cons, List.take_zero, List.toList_toArray, argsE, Array.append_empty, Array.empty_append, List.getElem?_toArray, Int.reduceLT, Int.reduceLE, Int.reduceToNat, Int.reduceEq, Nat.reduceLT, undef_eq]
    refine loop_for (J := fun i e ρ => Old τ2 ρ ∧ i ≤ l.length ∧ e = [(9, .slice base3 a.length cp3), (10, .slice base4 b.length cp4), (74, .int .i64 l.length), (75, .int .i64 i)]) l.length ⟨.ap, by omega, rfl⟩ ?_
    rintro i e ρ hi ⟨hoρ, _, rfl⟩
    rw [← ap_nil (σ := ρ)]
    by_cases hlt : i < l.length
    · have dl : decide ((i:Int) < (l.length : Int)) = true := by simpa using hlt
      have hx : (a.map intV)[i]? = some (intV a[i]) := by simp [hla, hcl, hlt]
      have hx2 : (b.map intV)[i]? = some (intV b[i]) := by simp [hlb, hcl, hlt]
      obtain ⟨b1, off, rfl, h1⟩ := ha2.at hx
      obtain ⟨b2, off2, rfl, h2⟩ := hb2.at hx2
      have g1 : ∀ L, rd1 (ap ρ L) ⟨b1, off + i, none⟩ = some (.int .i64 a[i]) := fun L => rd1_Old (hoρ.trans .ap) (by simpa using rd1_row h1 (j := 0) rfl)
      have g2 : ∀ L, rd1 (ap ρ L) ⟨b2, off2 + i, none⟩ = some (.int .i64 b[i]) := fun L => rd1_Old (hoρ.trans .ap) (by simpa using rd1_row h2 (j := 0) rfl)
      have hb1 : (0:Int) ≤ (i:Int) ∧ (i:Int) < (a.length : Int) := by omega
      have hb2' : (0:Int) ≤ (i:Int) ∧ (i:Int) < (b.length : Int) := by omega
      have hw : IntKind.wrap .i64 ((i:Int) + 1) = ((i + 1 : Nat) : Int) := by rw [wrap64 (by omega) (by omega)]; omega
      have hgi := hgr i (by omega) (by omega)
      have dg : decide (b[i] < a[i]) = false := by rw [decide_eq_false]; omega
      simp only [↓eD0, ↓eD1, eC0, eC1, eC2, eC3, eC4, eC5, eC6, wantedE, ↓reduceIte, Nat.reduceEqDiff, Option.map_some, Option.map_none, reread, List.nil_append, List.cons_append, List.map_cons, List.map_nil, List.length_nil, List.length_cons, Value.cells, List.getElem?_cons_zero, List.getElem?_cons_succ, outE, lks, lkR, rdV, neg1, evs, opt, Nat.reduceAdd, Nat.reduceMul, and_self, reduceCtorEq, List.size_toArray, List.all_cons, List.all_nil, Value.oneCell', List.set_cons_zero, List.set_cons_succ, sets, fillL, Nat.reduceLeDiff, List.drop_succ_cons, List.drop_zero, List.take_succ_cons, List.take_zero, List.toList_toArray, argsE, Array.append_empty, Array.empty_append, List.getElem?_toArray, Int.reduceLT, Int.reduceLE, Int.reduceToNat, Int.reduceEq, Nat.reduceLT, dl, hb1, hb2', Int.toNat_natCast, g1, g2, dg, hw]
      exact ⟨hlt, hoρ.trans .ap, by omega⟩
    · have : i = l.length := by omega
      subst this
      have dl : decide ((l.length:Int) < (l.length : Int)) = false := by simp
      simp only [↓eD0, ↓eD1, eC0, eC1, eC2, eC3, eC4, eC5, eC6, wantedE, ↓reduceIte, Nat.reduceEqDiff, Option.map_some, Option.map_none, reread, List.nil_append, List.cons_append, List.map_cons, List.map_nil, List.length_nil, List.length_cons, Value.cells, List.getElem?_cons_zero, List.getElem?_cons_succ, outE, lks, lkR, rdV, neg1, evs, opt, Nat.reduceAdd, Nat.reduceMul, and_self, reduceCtorEq, List.size_toArray, List.all_cons, List.all_nil, Value.oneCell', List.set_cons_zero, List.set_cons_succ, sets, fillL, Nat.reduceLeDiff, List.drop_succ_cons, List.drop_zero, List.take_succ_cons, List.take_zero, List.toList_toArray, argsE, Array.append_empty, Array.empty_append, List.getElem?_toArray, Int.reduceLT, Int.reduceLE, Int.reduceToNat, Int.reduceEq, Nat.reduceLT, dl]
      refine appK_of sanity_app ?_
      rintro _ _ ⟨e2, rfl⟩
      rw [e2]
      clear e2
      simp only [↓eD0, ↓eD1, eC0, eC1, eC2, eC3, eC4, eC5, eC6, wantedE, ↓reduceIte, Nat.reduceEqDiff, Option.map_some, Option.map_none, reread, List.nil_append, List.cons_append, List.map_cons, List.map_nil, List.length_nil, List.length_cons, Value.cells, List.getElem?_cons_zero, List.getElem?_cons_succ, outE, lks, lkR, rdV, neg1, evs, opt, Nat.reduceAdd, Nat.reduceMul, and_self, reduceCtorEq, List.size_toArray, List.all_cons, List.all_nil, Value.oneCell', List.set_cons_zero, List.set_cons_succ, sets, fillL, Nat.reduceLeDiff, List.drop_succ_cons, List.drop_zero, List.take_succ_cons, List.take_zero, List.toList_toArray, argsE, Array.append_empty, Array.empty_append, List.getElem?_toArray, Int.reduceLT, Int.reduceLE, Int.reduceToNat, Int.reduceEq, Nat.reduceLT]
      exact ((o2.trans ho2).trans hoρ).trans .ap
end Go.Proofs.Ytimcgoghjebalaa
