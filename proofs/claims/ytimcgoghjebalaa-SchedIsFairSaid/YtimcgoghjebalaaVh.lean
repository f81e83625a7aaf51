/- Walks and plain laws. Conditions: none. -/
import Derived.Test.YtimcgoghjebalaaVg
set_option linter.all false
set_option linter.unusedSimpArgs false
set_option linter.unusedVariables false
set_option maxRecDepth 10000
set_option maxHeartbeats 1000000
namespace Go.Proofs.Ytimcgoghjebalaa
open Go Go.Cn Go.RowKit

/-- The least number of shares that a contract has more than its base, less one. -/
def riseF (g : Int) (c : Cl) : Int := (g - c.b + c.s - 1) / c.s - 1
def topsF : List Int → List Cl → Int → Int
  | g :: r, c :: cs, t => topsF r cs (mx t (riseF g c))
  | _, _, t => t
theorem tops_snoc {g : Int} {c : Cl} : ∀ {r : List Int} {cs : List Cl} {t : Int}, r.length = cs.length → topsF (r ++ [g]) (cs ++ [c]) t = mx (topsF r cs t) (riseF g c)
  | [], [], t, _ => rfl
  | x :: r, y :: cs, t, h => by rw [List.cons_append, List.cons_append, topsF, tops_snoc (by simpa using h)]; rfl
theorem tops_ge : ∀ {r : List Int} {cs : List Cl} {t : Int}, t ≤ topsF r cs t ∧ ∀ i (h : i < r.length) (h' : i < cs.length), riseF r[i] cs[i] ≤ topsF r cs t
  | [], _, t => ⟨by rw [topsF]; exact Int.le_refl _; simp, fun i h _ => by simp at h⟩
  | x :: r, [], t => ⟨by rw [topsF]; exact Int.le_refl _; simp, fun i _ h => by simp at h⟩
  | x :: r, y :: cs, t => by
    obtain ⟨h1, h2⟩ := tops_ge (r := r) (cs := cs) (t := mx t (riseF x y))
    have := mx_ge t (riseF x y)
    rw [topsF]
    refine ⟨by omega, fun i h h' => ?_⟩
    cases i with
    | zero => simp only [List.getElem_cons_zero]; omega
    | succ i => exact h2 i (by simpa using h) (by simpa using h')
theorem tops_le {L : Int} : ∀ {r : List Int} {cs : List Cl} {t : Int}, t ≤ L → (∀ i (h : i < r.length) (h' : i < cs.length), riseF r[i] cs[i] ≤ L) → topsF r cs t ≤ L
  | [], _, t, h, _ => by rw [topsF]; exact h; simp
  | x :: r, [], t, h, _ => by rw [topsF]; exact h; simp
  | x :: r, y :: cs, t, h, h2 => by
    have := mx_ge t (riseF x y)
    have h0 := h2 0 (by simp) (by simp)
    simp only [List.getElem_cons_zero] at h0
    rw [topsF]
    exact tops_le (by omega) fun i hi hi' => h2 (i + 1) (by simpa using hi) (by simpa using hi')
theorem rise_le {g L : Int} {c : Cl} (hs : 1 ≤ c.s) (h : g ≤ c.b + (L + 1) * c.s) : riseF g c ≤ L := by
  unfold riseF
  have h1 : g - c.b + c.s - 1 < (L + 2) * c.s := by
    rw [show L + 2 = (L + 1) + 1 by omega, Int.add_mul (L + 1) 1, Int.one_mul]; omega
  have := Int.ediv_lt_of_lt_mul (by omega : 0 < c.s) h1
  omega
theorem rise_ge {g : Int} {c : Cl} {t : Int} (hs : 1 ≤ c.s) (h : riseF g c ≤ t) : g ≤ c.b + (t + 1) * c.s := by
  unfold riseF at h
  have h1 : (g - c.b + c.s - 1) / c.s ≤ t + 1 := by omega
  have h2 : g - c.b + c.s - 1 < ((g - c.b + c.s - 1) / c.s + 1) * c.s := Int.lt_ediv_add_one_mul_self _ (by omega)
  have h3 : (g - c.b + c.s - 1) / c.s * c.s ≤ (t + 1) * c.s := Int.mul_le_mul_of_nonneg_right h1 (by omega)
  rw [Int.add_mul _ 1, Int.one_mul] at h2
  omega

theorem law5 {σ : H} {l : List Ctr} {ds : List Int} {lv dv : Value} {cap : Int} (hl : Row σ 3 lv (l.map ctrV)) (hd : Row σ 1 dv (ds.map intV)) :
    App Try.prog (.func 5) #[] #[.int .i64 cap, lv, dv] σ fun v σ' => Old σ σ' ∧ v = .bool true := by
  refine App.of_sem mixed Try.func5 t5 k5 r5 (Nat.le_of_ble_eq_true rfl) ?_
  rw [← ap_nil (σ := σ)]
  unfold s5
  simp only [↓eD0, ↓eD1, eC0, eC1, eC2, eC3, eC4, eC5, eC6, wantedE, ↓reduceIte, Nat.reduceEqDiff, Option.map_some, Option.map_none, reread, List.nil_append, List.cons_append, List.map_cons, List.map_nil, List.length_nil, List.length_cons, Value.cells, List.getElem?_cons_zero, List.getElem?_cons_succ, outE, lks, lkR, rdV, neg1, evs, opt, Nat.reduceAdd, Nat.reduceMul, and_self, reduceCtorEq, List.size_toArray, List.all_cons, List.all_nil, Value.oneCell', List.set_cons_zero, List.set_cons_succ, sets, fillL, Nat.reduceLeDiff, List.drop_succ_cons, List.drop_zero, List.take_succ_cons, List.take_zero, List.toList_toArray, argsE, Array.append_empty, Array.empty_append, List.getElem?_toArray, Int.reduceLT, Int.reduceLE, Int.reduceToNat, Int.reduceEq, Nat.reduceLT]
  refine appK_of (filled_app (hl.Old .ap) (hd.Old .ap)) ?_
  rintro _ _ ⟨e2, rfl⟩
  rw [e2]
  clear e2
  cases hF : filledF cap l ds
  · simp only [↓eD0, ↓eD1, eC0, eC1, eC2, eC3, eC4, eC5, eC6, wantedE, ↓reduceIte, Nat.reduceEqDiff, Option.map_some, Option.map_none, reread, List.nil_append, List.cons_append, List.map_cons, List.map_nil, List.length_nil, List.length_cons, Value.cells, List.getElem?_cons_zero, List.getElem?_cons_succ, outE, lks, lkR, rdV, neg1, evs, opt, Nat.reduceAdd, Nat.reduceMul, and_self, reduceCtorEq, List.size_toArray, List.all_cons, List.all_nil, Value.oneCell', List.set_cons_zero, List.set_cons_succ, sets, fillL, Nat.reduceLeDiff, List.drop_succ_cons, List.drop_zero, List.take_succ_cons, List.take_zero, List.toList_toArray, argsE, Array.append_empty, Array.empty_append, List.getElem?_toArray, Int.reduceLT, Int.reduceLE, Int.reduceToNat, Int.reduceEq, Nat.reduceLT, hF]
    refine appK_of sanity_app ?_
    rintro _ _ ⟨e2, rfl⟩
    rw [e2]
    clear e2
    simp only [↓eD0, ↓eD1, eC0, eC1, eC2, eC3, eC4, eC5, eC6, wantedE, ↓reduceIte, Nat.reduceEqDiff, Option.map_some, Option.map_none, reread, List.nil_append, List.cons_append, List.map_cons, List.map_nil, List.length_nil, List.length_cons, Value.cells, List.getElem?_cons_zero, List.getElem?_cons_succ, outE, lks, lkR, rdV, neg1, evs, opt, Nat.reduceAdd, Nat.reduceMul, and_self, reduceCtorEq, List.size_toArray, List.all_cons, List.all_nil, Value.oneCell', List.set_cons_zero, List.set_cons_succ, sets, fillL, Nat.reduceLeDiff, List.drop_succ_cons, List.drop_zero, List.take_succ_cons, List.take_zero, List.toList_toArray, argsE, Array.append_empty, Array.empty_append, List.getElem?_toArray, Int.reduceLT, Int.reduceLE, Int.reduceToNat, Int.reduceEq, Nat.reduceLT]
    exact .ap
  have hFd := filled_of hF
  simp only [↓eD0, ↓eD1, eC0, eC1, eC2, eC3, eC4, eC5, eC6, wantedE, ↓reduceIte, Nat.reduceEqDiff, Option.map_some, Option.map_none, reread, List.nil_append, List.cons_append, List.map_cons, List.map_nil, List.length_nil, List.length_cons, Value.cells, List.getElem?_cons_zero, List.getElem?_cons_succ, outE, lks, lkR, rdV, neg1, evs, opt, Nat.reduceAdd, Nat.reduceMul, and_self, reduceCtorEq, List.size_toArray, List.all_cons, List.all_nil, Value.oneCell', List.set_cons_zero, List.set_cons_succ, sets, fillL, Nat.reduceLeDiff, List.drop_succ_cons, List.drop_zero, List.take_succ_cons, List.take_zero, List.toList_toArray, argsE, Array.append_empty, Array.empty_append, List.getElem?_toArray, Int.reduceLT, Int.reduceLE, Int.reduceToNat, Int.reduceEq, Nat.reduceLT, hF]
  refine appK_of (fill_app (hl.Old .ap) (hd.Old .ap) hFd) ?_
  rintro gv τ0 ⟨ho0, hg⟩
  rw [ap_nil] at ho0
  obtain ⟨hamt, few, len, ok, am, hle⟩ := hFd
  have hcl := claims_len len
  have hok := claims_ok ok am
  have hL := level_ok hle
  have hget : ∀ i (h : i < (claimsF l ds).length) (h1 : i < l.length) (h2 : i < ds.length), (claimsF l ds)[i] = clF l[i] ds[i] := by
    intro i h h1 h2
    simp [claimsF]
  have hgl := fillC_len (cs := claimsF l ds) (cap := cap)
  have hfg := fun i h h' => fill_get (i := i) hok hL h h'
  generalize fillC (claimsF l ds) cap = got at hg hgl hfg
  generalize claimsF l ds = cs at hcl hok hL hget hgl hfg
  generalize levelF cs cap = L at hL hfg
  have hL0 := hL.h0
  have hLM := hL.hM
  have hri : ∀ i (h : i < got.length) (h' : i < cs.length), riseF got[i] cs[i] ≤ L := fun i h h' => by
    have h1 := hfg i h' h
    have h2 := atC_bounds (t := L + 1) (hok cs[i] (by simp)) (by omega)
    exact rise_le (hok cs[i] (by simp)).2.2.2.1 (by omega)
  obtain ⟨base, cp, rfl⟩ := hl.slice
  obtain ⟨base2, cp2, rfl⟩ := hd.slice
  obtain ⟨base3, cp3, rfl⟩ := hg.slice
  simp only [List.length_map] at hl hd hg ⊢
  have de : decide ((got.length:Int) = (l.length:Int)) = true := by simp; omega
  have hl' := hl.Old ho0
  have hd' := hd.Old ho0
  have c1 := hamt.1
  have c2 := hamt.2
  rw [← ap_nil (σ := τ0)]
  simp only [↓eD0, ↓eD1, eC0, eC1, eC2, eC3, eC4, eC5, eC6, wantedE, ↓reduceIte, Nat.reduceEqDiff, Option.map_some, Option.map_none, reread, List.nil_append, List.cons_append, List.map_cons, List.map_nil, List.length_nil, List.length_cons, Value.cells, List.getElem?_cons_zero, List.getElem?_cons_succ, outE, lks, lkR, rdV, neg1, evs, opt, Nat.reduceAdd, Nat.reduceMul, and_self, reduceCtorEq, List.size_toArray, List.all_cons, List.all_nil, Value.oneCell', List.set_cons_zero, List.set_cons_succ, sets, fillL, Nat.reduceLeDiff, List.drop_succ_cons, List.drop_zero, List.take_succ_cons, List.take_zero, List.toList_toArray, argsE, Array.append_empty, Array.empty_append, List.getElem?_toArray, Int.reduceLT, Int.reduceLE, Int.reduceToNat, Int.reduceEq, Nat.reduceLT, de]
  refine loop_for (J := fun i e τ => Old τ0 τ ∧ i ≤ l.length ∧ e = [(1, .slice base l.length cp), (2, .slice base2 ds.length cp2), (7, .slice base3 got.length cp3), (8, .int .i64 (topsF (got.take i) (cs.take i) 0)), (31, .slice base l.length cp), (32, .int .i64 l.length), (33, .int .i64 i)]) l.length ⟨.ap, by omega, rfl⟩ ?_
  rintro i e τ hi ⟨ho, _, rfl⟩
  rw [← ap_nil (σ := τ)]
  by_cases hlt : i < l.length
  · have dl : decide ((i:Int) < (l.length : Int)) = true := by simpa using hlt
    have hx : (l.map ctrV)[i]? = some (ctrV l[i]) := by simp [hlt]
    have hx2 : (ds.map intV)[i]? = some (intV ds[i]) := by simp [len, hlt]
    have hx3 : (got.map intV)[i]? = some (intV got[i]) := by simp [hgl, hcl, hlt]
    obtain ⟨b, off, rfl, h1⟩ := hl'.at hx
    obtain ⟨b2, off2, rfl, h2⟩ := hd'.at hx2
    obtain ⟨b3, off3, rfl, h3⟩ := hg.at hx3
    have g1 : ∀ L, rdN (ap τ L) ⟨b, off + i * 3, none⟩ 3 = some (ctrV l[i]) := fun L => rdN_Old (ho.trans .ap) h1
    have g2 : ∀ L, rd1 (ap τ L) ⟨b2, off2 + i, none⟩ = some (.int .i64 ds[i]) := fun L => rd1_Old (ho.trans .ap) (by simpa using rd1_row h2 (j := 0) rfl)
    have g3 : ∀ L, rd1 (ap τ L) ⟨b3, off3 + i, none⟩ = some (.int .i64 got[i]) := fun L => rd1_Old (ho.trans .ap) (by simpa using rd1_row h3 (j := 0) rfl)
    have hb : (0:Int) ≤ (i:Int) ∧ (i:Int) < (l.length : Int) := by omega
    have hb2 : (0:Int) ≤ (i:Int) ∧ (i:Int) < (ds.length : Int) := by omega
    have hb3 : (0:Int) ≤ (i:Int) ∧ (i:Int) < (got.length : Int) := by omega
    have hw : IntKind.wrap .i64 ((i:Int) + 1) = ((i + 1 : Nat) : Int) := by rw [wrap64 (by omega) (by omega)]; omega
    have hge := hget i (by omega) hlt (by omega)
    have hf := hfg i (by omega) (by omega)
    have hoki : (clF l[i] ds[i]).Ok := by rw [← hge]; exact hok _ (by simp)
    have hr := hri i (by omega) (by omega)
    rw [hge] at hf hr
    simp only [clF] at hf
    obtain ⟨k1, k2, k3, k4, k5⟩ := hoki
    simp only [clF] at k1 k2 k3 k4 k5
    have hs0 : (l[i].s = 0) = False := by simp; omega
    have w1 : IntKind.wrap .i64 (got[i] - mn l[i].r ds[i]) = got[i] - mn l[i].r ds[i] := wrap64 (by omega) (by omega)
    have w2 : IntKind.wrap .i64 (got[i] - mn l[i].r ds[i] + l[i].s) = got[i] - mn l[i].r ds[i] + l[i].s := wrap64 (by omega) (by omega)
    have w3 : IntKind.wrap .i64 (got[i] - mn l[i].r ds[i] + l[i].s - 1) = got[i] - mn l[i].r ds[i] + l[i].s - 1 := wrap64 (by omega) (by omega)
    have q1 : Int.tdiv (got[i] - mn l[i].r ds[i] + l[i].s - 1) l[i].s = (got[i] - mn l[i].r ds[i] + l[i].s - 1) / l[i].s := Int.tdiv_eq_ediv_of_nonneg (by omega)
    have q2 : 0 ≤ (got[i] - mn l[i].r ds[i] + l[i].s - 1) / l[i].s := Int.ediv_nonneg (by omega) (by omega)
    have q3 : (got[i] - mn l[i].r ds[i] + l[i].s - 1) / l[i].s ≤ got[i] - mn l[i].r ds[i] + l[i].s - 1 := Int.ediv_le_self _ (by omega)
    have w4 : IntKind.wrap .i64 ((got[i] - mn l[i].r ds[i] + l[i].s - 1) / l[i].s) = (got[i] - mn l[i].r ds[i] + l[i].s - 1) / l[i].s := wrap64 (by omega) (by omega)
    have w5 : IntKind.wrap .i64 ((got[i] - mn l[i].r ds[i] + l[i].s - 1) / l[i].s - 1) = riseF got[i] (clF l[i] ds[i]) := wrap64 (by omega) (by omega)
    have ht : mx (topsF (got.take i) (cs.take i) 0) (riseF got[i] (clF l[i] ds[i])) = topsF (got.take (i + 1)) (cs.take (i + 1)) 0 := by
      rw [List.take_succ_eq_append_getElem (by omega), List.take_succ_eq_append_getElem (by omega), tops_snoc (by simp; omega), hge]
    simp only [↓eD0, ↓eD1, eC0, eC1, eC2, eC3, eC4, eC5, eC6, wantedE, ↓reduceIte, Nat.reduceEqDiff, Option.map_some, Option.map_none, reread, List.nil_append, List.cons_append, List.map_cons, List.map_nil, List.length_nil, List.length_cons, Value.cells, List.getElem?_cons_zero, List.getElem?_cons_succ, outE, lks, lkR, rdV, neg1, evs, opt, Nat.reduceAdd, Nat.reduceMul, and_self, reduceCtorEq, List.size_toArray, List.all_cons, List.all_nil, Value.oneCell', List.set_cons_zero, List.set_cons_succ, sets, fillL, Nat.reduceLeDiff, List.drop_succ_cons, List.drop_zero, List.take_succ_cons, List.take_zero, List.toList_toArray, argsE, Array.append_empty, Array.empty_append, List.getElem?_toArray, Int.reduceLT, Int.reduceLE, Int.reduceToNat, Int.reduceEq, Nat.reduceLT, dl, hb, hb2, hb3, Int.toNat_natCast, g1, g2, g3, ctrV, mn_eq, mx_eq, hs0, w1, w2, w3, q1, w4, w5, ht, hw]
    exact ⟨hlt, ho.trans .ap, by omega⟩
  · have : i = l.length := by omega
    subst this
    have dl : decide ((l.length:Int) < (l.length : Int)) = false := by simp
    have htk : got.take l.length = got := List.take_of_length_le (by omega)
    have htk2 : cs.take l.length = cs := List.take_of_length_le (by omega)
    simp only [↓eD0, ↓eD1, eC0, eC1, eC2, eC3, eC4, eC5, eC6, wantedE, ↓reduceIte, Nat.reduceEqDiff, Option.map_some, Option.map_none, reread, List.nil_append, List.cons_append, List.map_cons, List.map_nil, List.length_nil, List.length_cons, Value.cells, List.getElem?_cons_zero, List.getElem?_cons_succ, outE, lks, lkR, rdV, neg1, evs, opt, Nat.reduceAdd, Nat.reduceMul, and_self, reduceCtorEq, List.size_toArray, List.all_cons, List.all_nil, Value.oneCell', List.set_cons_zero, List.set_cons_succ, sets, fillL, Nat.reduceLeDiff, List.drop_succ_cons, List.drop_zero, List.take_succ_cons, List.take_zero, List.toList_toArray, argsE, Array.append_empty, Array.empty_append, List.getElem?_toArray, Int.reduceLT, Int.reduceLE, Int.reduceToNat, Int.reduceEq, Nat.reduceLT, dl, htk, htk2]
    have hT := tops_ge (r := got) (cs := cs) (t := 0)
    have hT2 := tops_le (r := got) (cs := cs) (t := 0) hL0 hri
    generalize topsF got cs 0 = T at hT hT2
    have hT1 := hT.1
    refine loop_for (J := fun i e ρ => Old τ0 ρ ∧ i ≤ l.length ∧ e = [(2, .slice base2 ds.length cp2), (7, .slice base3 got.length cp3), (8, .int .i64 T), (62, .slice base l.length cp), (63, .int .i64 l.length), (64, .int .i64 i)]) l.length ⟨ho.trans .ap, by omega, rfl⟩ ?_
    rintro i e ρ hi ⟨hoρ, _, rfl⟩
    rw [← ap_nil (σ := ρ)]
    by_cases hlt : i < l.length
    · have dl : decide ((i:Int) < (l.length : Int)) = true := by simpa using hlt
      have hx : (l.map ctrV)[i]? = some (ctrV l[i]) := by simp [hlt]
      have hx2 : (ds.map intV)[i]? = some (intV ds[i]) := by simp [len, hlt]
      have hx3 : (got.map intV)[i]? = some (intV got[i]) := by simp [hgl, hcl, hlt]
      obtain ⟨b, off, rfl, h1⟩ := hl'.at hx
      obtain ⟨b2, off2, rfl, h2⟩ := hd'.at hx2
      obtain ⟨b3, off3, rfl, h3⟩ := hg.at hx3
      have g1 : ∀ L, rdN (ap ρ L) ⟨b, off + i * 3, none⟩ 3 = some (ctrV l[i]) := fun L => rdN_Old (hoρ.trans .ap) h1
      have g2 : ∀ L, rd1 (ap ρ L) ⟨b2, off2 + i, none⟩ = some (.int .i64 ds[i]) := fun L => rd1_Old (hoρ.trans .ap) (by simpa using rd1_row h2 (j := 0) rfl)
      have g3 : ∀ L, rd1 (ap ρ L) ⟨b3, off3 + i, none⟩ = some (.int .i64 got[i]) := fun L => rd1_Old (hoρ.trans .ap) (by simpa using rd1_row h3 (j := 0) rfl)
      have hb : (0:Int) ≤ (i:Int) ∧ (i:Int) < (l.length : Int) := by omega
      have hb2 : (0:Int) ≤ (i:Int) ∧ (i:Int) < (ds.length : Int) := by omega
      have hb3 : (0:Int) ≤ (i:Int) ∧ (i:Int) < (got.length : Int) := by omega
      have hw : IntKind.wrap .i64 ((i:Int) + 1) = ((i + 1 : Nat) : Int) := by rw [wrap64 (by omega) (by omega)]; omega
      have hge := hget i (by omega) hlt (by omega)
      have hf := hfg i (by omega) (by omega)
      have hoki : (clF l[i] ds[i]).Ok := by rw [← hge]; exact hok _ (by simp)
      have hr := hT.2 i (by omega) (by omega)
      have ha := atC_mono (t := T) (u := L) hoki hT2
      rw [hge] at hf hr
      have hgr := rise_ge hoki.2.2.2.1 hr
      obtain ⟨k1, k2, k3, k4, k5⟩ := hoki
      unfold atC at hf ha
      simp only [clF] at hf k1 k2 k3 k4 k5 hgr ha
      have mb := mul_bounds (t := T) (s := l[i].s) ⟨by omega, by omega⟩ ⟨k4, k5⟩
      have mb2 := mul_bounds (t := T + 1) (s := l[i].s) ⟨by omega, by omega⟩ ⟨k4, k5⟩
      have w1 : IntKind.wrap .i64 (T * l[i].s) = T * l[i].s := wrap64 (by omega) (by omega)
      have w2 : IntKind.wrap .i64 (mn l[i].r ds[i] + T * l[i].s) = mn l[i].r ds[i] + T * l[i].s := wrap64 (by omega) (by omega)
      have w3 : IntKind.wrap .i64 (T + 1) = T + 1 := wrap64 (by omega) (by omega)
      have w4 : IntKind.wrap .i64 ((T + 1) * l[i].s) = (T + 1) * l[i].s := wrap64 (by omega) (by omega)
      have w5 : IntKind.wrap .i64 (mn l[i].r ds[i] + (T + 1) * l[i].s) = mn l[i].r ds[i] + (T + 1) * l[i].s := wrap64 (by omega) (by omega)
      have d1 : decide (got[i] < mn (mn l[i].l ds[i]) (mn l[i].r ds[i] + T * l[i].s)) = false := by rw [decide_eq_false]; omega
      have d2 : decide (mn l[i].r ds[i] + (T + 1) * l[i].s < got[i]) = false := by rw [decide_eq_false]; omega
      simp only [↓eD0, ↓eD1, eC0, eC1, eC2, eC3, eC4, eC5, eC6, wantedE, ↓reduceIte, Nat.reduceEqDiff, Option.map_some, Option.map_none, reread, List.nil_append, List.cons_append, List.map_cons, List.map_nil, List.length_nil, List.length_cons, Value.cells, List.getElem?_cons_zero, List.getElem?_cons_succ, outE, lks, lkR, rdV, neg1, evs, opt, Nat.reduceAdd, Nat.reduceMul, and_self, reduceCtorEq, List.size_toArray, List.all_cons, List.all_nil, Value.oneCell', List.set_cons_zero, List.set_cons_succ, sets, fillL, Nat.reduceLeDiff, List.drop_succ_cons, List.drop_zero, List.take_succ_cons, List.take_zero, List.toList_toArray, argsE, Array.append_empty, Array.empty_append, List.getElem?_toArray, Int.reduceLT, Int.reduceLE, Int.reduceToNat, Int.reduceEq, Nat.reduceLT, dl, hb, hb2, hb3, Int.toNat_natCast, g1, g2, g3, ctrV, mn_eq, mx_eq, w1, w2, w3, w4, w5, d1, d2, undef_eq, hw]
      exact ⟨hlt, hoρ.trans .ap, by omega⟩
    · have : i = l.length := by omega
      subst this
      have dl : decide ((l.length:Int) < (l.length : Int)) = false := by simp
      simp only [↓eD0, ↓eD1, eC0, eC1, eC2, eC3, eC4, eC5, eC6, wantedE, ↓reduceIte, Nat.reduceEqDiff, Option.map_some, Option.map_none, reread, List.nil_append, List.cons_append, List.map_cons, List.map_nil, List.length_nil, List.length_cons, Value.cells, List.getElem?_cons_zero, List.getElem?_cons_succ, outE, lks, lkR, rdV, neg1, evs, opt, Nat.reduceAdd, Nat.reduceMul, and_self, reduceCtorEq, List.size_toArray, List.all_cons, List.all_nil, Value.oneCell', List.set_cons_zero, List.set_cons_succ, sets, fillL, Nat.reduceLeDiff, List.drop_succ_cons, List.drop_zero, List.take_succ_cons, List.take_zero, List.toList_toArray, argsE, Array.append_empty, Array.empty_append, List.getElem?_toArray, Int.reduceLT, Int.reduceLE, Int.reduceToNat, Int.reduceEq, Nat.reduceLT, dl]
      refine appK_of sanity_app ?_
      rintro _ _ ⟨e2, rfl⟩
      rw [e2]
      clear e2
      simp only [↓eD0, ↓eD1, eC0, eC1, eC2, eC3, eC4, eC5, eC6, wantedE, ↓reduceIte, Nat.reduceEqDiff, Option.map_some, Option.map_none, reread, List.nil_append, List.cons_append, List.map_cons, List.map_nil, List.length_nil, List.length_cons, Value.cells, List.getElem?_cons_zero, List.getElem?_cons_succ, outE, lks, lkR, rdV, neg1, evs, opt, Nat.reduceAdd, Nat.reduceMul, and_self, reduceCtorEq, List.size_toArray, List.all_cons, List.all_nil, Value.oneCell', List.set_cons_zero, List.set_cons_succ, sets, fillL, Nat.reduceLeDiff, List.drop_succ_cons, List.drop_zero, List.take_succ_cons, List.take_zero, List.toList_toArray, argsE, Array.append_empty, Array.empty_append, List.getElem?_toArray, Int.reduceLT, Int.reduceLE, Int.reduceToNat, Int.reduceEq, Nat.reduceLT]
      exact (ho0.trans hoρ).trans .ap
end Go.Proofs.Ytimcgoghjebalaa
