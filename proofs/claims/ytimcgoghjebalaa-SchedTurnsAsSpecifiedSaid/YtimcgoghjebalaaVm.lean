/- Walks and plain laws. Conditions: none. -/
import Derived.Test.YtimcgoghjebalaaVl
set_option linter.all false
set_option linter.unusedSimpArgs false
set_option linter.unusedVariables false
set_option maxRecDepth 10000
set_option maxHeartbeats 1000000
namespace Go.Proofs.Ytimcgoghjebalaa
open Go Go.Cn Go.RowKit

/-! ### Maps from integers -/
def IntKeys (es : List MapEntry) : Prop := ∀ e ∈ es, ∃ n, e.key = .int .i64 n
def IntMap (es : Array MapEntry) (f : Int → Option Value) : Prop := IntKeys es.toList ∧ ∀ k : Int, ∃ r, findK (.int .i64 k) es.toList 0 = some r ∧ r.map Prod.snd = f k
theorem leaf_int {a b : Int} : leafEq (.int .i64 a) (.int .i64 b) = some (decide (a = b)) := by simp [leafEq]
theorem findK_app {k k' c : Int} {v : Value} {n : Nat} : ∀ {es : List MapEntry} {j : Nat}, IntKeys es → findK (.int .i64 k') (es ++ [⟨.int .i64 k, v, n⟩]) j =
    match findK (.int .i64 k') es j with | some none => (if k' = k then some (some (j + es.length, v)) else some none) | r => r
  | [], j, _ => by
    simp only [List.nil_append, findK, leaf_int]
    by_cases h : k' = k <;> simp [h]
  | e :: es, j, h => by
    obtain ⟨m, hm⟩ := h e (by simp)
    have ih := findK_app (k := k) (k' := k') (c := c) (v := v) (n := n) (es := es) (j := j + 1) fun x hx => h x (by simp [hx])
    simp only [List.cons_append, findK, hm, leaf_int]
    by_cases hk : k' = m
    · simp [hk]
    · simp only [hk, decide_false]
      rw [ih]
      have : j + 1 + es.length = j + (e :: es).length := by simp; omega
      rw [this]
theorem findK_mod {k k' : Int} {v v0 : Value} : ∀ {es : List MapEntry} {j i : Nat}, IntKeys es → findK (.int .i64 k) es j = some (some (j + i, v0)) →
    findK (.int .i64 k') (es.modify i fun e => { e with key := .int .i64 k, val := v }) j = if k' = k then some (some (j + i, v)) else findK (.int .i64 k') es j
  | [], j, i, _, h => by simp [findK] at h
  | e :: es, j, i, hk, h => by
    obtain ⟨m, hm⟩ := hk e (by simp)
    have hk' : IntKeys es := fun x hx => hk x (by simp [hx])
    simp only [findK, hm, leaf_int] at h
    by_cases hkm : k = m
    · simp only [hkm, decide_true, Option.some.injEq, Prod.mk.injEq] at h
      have : i = 0 := by omega
      subst this
      simp only [List.modify_zero_cons, findK, hm, leaf_int, hkm]
      by_cases h' : k' = m <;> simp [h']
    · simp only [hkm, decide_false] at h
      have hb : ∀ {es : List MapEntry} {j i : Nat} {w : Value}, findK (.int .i64 k) es j = some (some (i, w)) → j ≤ i := by
        intro es
        induction es with
        | nil => intro j i w h; simp [findK] at h
        | cons x es ih =>
          intro j i w h
          simp only [findK] at h
          split at h
          · injection h with h; injection h with h; injection h with h _; omega
          · have := ih h; omega
          · cases h
      have hji := hb h
      obtain ⟨i', rfl⟩ : ∃ i', i = i' + 1 := ⟨i - 1, by omega⟩
      have ih := findK_mod (k := k) (k' := k') (v := v) (v0 := v0) (es := es) (j := j + 1) (i := i') hk' (by rw [h]; congr 3; omega)
      simp only [List.modify_succ_cons, findK, hm, leaf_int]
      by_cases h' : k' = m
      · have : k' ≠ k := by omega
        have h2 : ¬ m = k := by omega
        simp [h', h2]
      · simp only [h', decide_false]
        rw [ih]
        have : j + 1 + i' = j + (i' + 1) := by omega
        rw [this]
theorem intKeys_mod {es : List MapEntry} {i : Nat} {k : Int} {v : Value} (h : IntKeys es) : IntKeys (es.modify i fun e => { e with key := .int .i64 k, val := v }) := by
  intro e he
  obtain ⟨j, hj⟩ := List.getElem?_of_mem he
  rw [List.getElem?_modify] at hj
  cases hx : es[j]? with
  | none => rw [hx] at hj; simp at hj
  | some x =>
    rw [hx] at hj
    have hj : (if i = j then ({ x with key := .int .i64 k, val := v } : MapEntry) else x) = e := by simpa using hj
    split at hj
    · exact ⟨k, by rw [← hj]⟩
    · rw [← hj]; exact h x (List.mem_of_getElem? hx)
theorem intMap_empty : IntMap #[] fun _ => none := ⟨fun e he => by simp at he, fun k => ⟨none, by simp [findK], rfl⟩⟩
theorem map_put {σ : H} {b ver clock : Nat} {es : Array MapEntry} {f : Int → Option Value} {k : Int} {v : Value} (hm : IntMap es f) (hb : σ[b]? = some (.map ver es clock)) :
    ∃ es' clock', mapPut (.int .i64) (.map (some b)) (.int .i64 k) v σ = some (σ.setIfInBounds b (.map (ver + 1) es' clock')) ∧ IntMap es' fun k' => if k' = k then some v else f k' := by
  obtain ⟨hk, hf⟩ := hm
  obtain ⟨r, h1, h2⟩ := hf k
  have fits : Leaf.fits (.int .i64) (.int .i64 k) = true := by simp [Leaf.fits]
  cases r with
  | none =>
    refine ⟨es.push { key := .int .i64 k, val := v, born := clock }, clock + 1, by simp only [mapPut, hb, fits, if_true, h1], ?_, fun k' => ?_⟩
    · intro e he
      rw [Array.toList_push] at he
      rcases List.mem_append.1 he with he | he
      · exact hk e he
      · simp at he; exact ⟨k, by rw [he]⟩
    · obtain ⟨r', g1, g2⟩ := hf k'
      rw [Array.toList_push, findK_app (c := 0) hk, g1]
      cases r' with
      | none =>
        by_cases hkk : k' = k
        · exact ⟨_, by rw [if_pos hkk], by simp [hkk]⟩
        · exact ⟨_, by rw [if_neg hkk], by show _ = (if k' = k then some v else f k'); rw [if_neg hkk, ← g2]⟩
      | some q =>
        have hkk : k' ≠ k := by
          intro h; subst h; rw [h1] at g1; cases g1
        exact ⟨_, rfl, by show _ = (if k' = k then some v else f k'); rw [if_neg hkk, ← g2]⟩
  | some q =>
    obtain ⟨i, v0⟩ := q
    refine ⟨es.modify i fun e => { e with key := .int .i64 k, val := v }, clock, by simp only [mapPut, hb, fits, if_true, h1], ?_, fun k' => ?_⟩
    · rw [Array.toList_modify]; exact intKeys_mod hk
    · obtain ⟨r', g1, g2⟩ := hf k'
      rw [Array.toList_modify, findK_mod (v0 := v0) (j := 0) (i := i) hk (by rw [h1, Nat.zero_add])]
      by_cases hkk : k' = k
      · exact ⟨_, by rw [if_pos hkk], by simp [hkk]⟩
      · exact ⟨r', by rw [if_neg hkk, g1], by show _ = (if k' = k then some v else f k'); rw [if_neg hkk, ← g2]⟩
theorem map_get {σ : H} {b ver clock : Nat} {es : Array MapEntry} {f : Int → Option Value} {k : Int} {z : Value} (hm : IntMap es f) (hb : σ[b]? = some (.map ver es clock)) :
    lookupV (.int .i64) z false (.map (some b)) (.int .i64 k) σ = some ((f k).getD z) := by
  obtain ⟨r, h1, h2⟩ := hm.2 k
  have fits : Leaf.fits (.int .i64) (.int .i64 k) = true := by simp [Leaf.fits]
  simp only [lookupV, mapOf, hb, fits, if_true, h1]
  cases r with
  | none => rw [← h2]; rfl
  | some q => rw [← h2]; rfl

/-! ### More slices that grow side by side -/
structure Sl where
  s : Nat
  v : Value
  cs : List Value
  n : Nat
structure Gs (n0 : Nat) (τ : H) (gs : List Sl) : Prop where
  sz : n0 ≤ τ.size
  all : ∀ (i : Nat) (g : Sl), gs[i]? = some g → Grown (sized n0) τ g.s g.v g.cs g.n
  dis : ∀ (i j : Nat) (g h : Sl), i ≠ j → gs[i]? = some g → gs[j]? = some h → ∀ c, baseOf g.v = some c → baseOf h.v ≠ some c
theorem Gs.old {n0 : Nat} {τ τ' : H} {gs : List Sl} (h : Gs n0 τ gs) (ho : Old τ τ') : Gs n0 τ' gs := ⟨Nat.le_trans h.sz ho.1, fun i g hg => (h.all i g hg).old ho, h.dis⟩
theorem Gs.base {n0 : Nat} {τ : H} {gs : List Sl} (h : Gs n0 τ gs) {i : Nat} {g : Sl} (hg : gs[i]? = some g) {c : Nat} (hc : baseOf g.v = some c) : n0 ≤ c ∧ c < τ.size := by
  have := (h.all i g hg).base hc
  rwa [sized_size] at this

theorem gs_push {n0 : Nat} {τ : H} {gs : List Sl} (h : Gs n0 τ gs) (l : List Blk) {i : Nat} {g : Sl} (hg : gs[i]? = some g) (new : List Value) (hn : new.length = g.s) (one : new.all Value.oneCell' = true) (hs : 0 < g.s) {bytes : Nat} (hb : (g.n + 1) * bytes ≤ 140737488355328) (hb0 : 0 < bytes) :
    ∃ bs cp τ', append g.s bytes g.v (.slice (some ⟨τ.size + l.length, 0, none⟩) 1 1) (ap τ (l ++ [.cells 0 new (0, 0)])) = some (.slice bs (g.n + 1) cp, τ') ∧
      Gs n0 τ' (gs.set i ⟨g.s, .slice bs (g.n + 1) cp, g.cs ++ new, g.n + 1⟩) ∧
      (∀ c k, (ap τ (l ++ [.cells 0 new (0, 0)]))[c]? = some k → baseOf g.v ≠ some c → τ'[c]? = some k) ∧ (∀ ρ : H, ρ.size ≤ n0 → Old ρ τ → Old ρ τ') := by
  have hz : (sized n0).size = n0 := sized_size
  have hA := h.old (Old.ap (l := l ++ [.cells 0 new (0, 0)]))
  have hx : (ap τ (l ++ [.cells 0 new (0, 0)]))[τ.size + l.length]? = some (.cells 0 new (0, 0)) := by rw [ap_new]; simp
  have g1 := hA.all i g hg
  obtain ⟨v', τ', ha, A⟩ := append_grown (bytes := bytes) (m := 1) (new := new) (xa := .slice (some ⟨τ.size + l.length, 0, none⟩) 1 1) g1 hs (by rw [hz]; exact hA.sz) (by show (rdN _ ⟨τ.size + l.length, 0, none⟩ (1 * g.s)).map (1, ·) = _; rw [rdN_all hx (by omega)]; rfl) (by omega) one hb hb0
  obtain ⟨bs, cp, rfl⟩ := A.grown.slice
  refine ⟨bs, cp, τ', ha, ⟨Nat.le_trans hA.sz A.size, fun j q hq => ?_, fun j k q r hjk hq hr c hc hd => ?_⟩, fun c k hk hb => A.frame c k hk hb, fun ρ hρ ho => A.Old' g1 (by rw [hz]; exact hρ) (ho.trans .ap)⟩
  · rw [List.getElem?_set] at hq
    split at hq
    · split at hq
      · injection hq with hq; subst hq; exact A.grown
      · cases hq
    · rename_i hji
      exact (hA.all j q hq).keep fun c k hc hk => A.frame c k hk fun hb => h.dis i j g q hji hg hq c hb hc
  · have base' : ∀ c, baseOf (.slice bs (g.n + 1) cp) = some c → baseOf g.v = some c ∨ c = (ap τ (l ++ [.cells 0 new (0, 0)])).size := fun c hc => by
      rcases A.base with hb | hb
      · rw [hb] at hc; exact .inl hc
      · rw [hb] at hc; injection hc with hc; exact .inr hc.symm
    rw [List.getElem?_set] at hq hr
    split at hq
    · rename_i hij
      split at hq
      · injection hq with hq
        subst hq
        split at hr
        · rename_i hik; omega
        · rename_i hik
          rcases base' c hc with hc | hc
          · exact h.dis i k g r hik hg hr c hc hd
          · have := (hA.base hr hd).2; omega
      · cases hq
    · rename_i hij
      split at hr
      · split at hr
        · injection hr with hr
          subst hr
          rcases base' c hd with hd | hd
          · exact h.dis j i q g (Ne.symm hij) hq hg c hc hd
          · have := (hA.base hq hc).2; omega
        · cases hr
      · exact h.dis j k q r hjk hq hr c hc hd
end Go.Proofs.Ytimcgoghjebalaa

set_option linter.unusedSimpArgs false
set_option linter.unusedVariables false
set_option maxRecDepth 10000
set_option maxHeartbeats 1000000
namespace Go.Proofs.Ytimcgoghjebalaa
open Go Go.Cn Go.RowKit

theorem intV_rows {L : List Int} : ∀ r ∈ L.map intV, r.length = 1 := by intro r hr; obtain ⟨c, _, rfl⟩ := List.mem_map.1 hr; rfl
theorem ctrV_rows {L : List Ctr} : ∀ r ∈ L.map ctrV, r.length = 3 := by intro r hr; obtain ⟨c, _, rfl⟩ := List.mem_map.1 hr; rfl

theorem rfill_app {σ : H} {l : List Ctr} {ds : List Int} {lv dv : Value} {cap : Int} (hl : Row σ 3 lv (l.map ctrV)) (hd : Row σ 1 dv (ds.map intV)) (hF : Filled cap l ds) :
    App Try.prog (.func 27) #[] #[.int .i64 cap, lv, dv] σ fun v σ' => Old σ σ' ∧ Row σ' 1 v ((fillC (claimsF l ds) cap).map intV) := by
  refine App.of_sem mixed Try.func27 t27 k27 r27 (Nat.le_of_ble_eq_true rfl) ?_
  obtain ⟨base, cp, rfl⟩ := hl.slice
  obtain ⟨base2, cp2, rfl⟩ := hd.slice
  obtain ⟨hamt, few, len, ok, am, hle⟩ := hF
  simp only [List.length_map] at hl hd ⊢
  have hcl := claims_len len
  have hok := claims_ok ok am
  have hL := level_ok hle
  have hget : ∀ i (h : i < (claimsF l ds).length) (h1 : i < l.length) (h2 : i < ds.length), (claimsF l ds)[i] = clF l[i] ds[i] := by
    intro i h h1 h2
    simp [claimsF]
  rw [← ap_nil (σ := σ)]
  unfold s27
  simp only [↓eD0, ↓eD1, eC0, eC1, eC2, eC3, eC4, eC5, eC6, wantedE, ↓reduceIte, Nat.reduceEqDiff, Option.map_some, Option.map_none, reread, List.nil_append, List.cons_append, List.map_cons, List.map_nil, List.length_nil, List.length_cons, Value.cells, List.getElem?_cons_zero, List.getElem?_cons_succ, outE, lks, lkR, rdV, neg1, evs, opt, Nat.reduceAdd, Nat.reduceMul, and_self, reduceCtorEq, List.size_toArray, List.all_cons, List.all_nil, Value.oneCell', List.set_cons_zero, List.set_cons_succ, sets, fillL, Nat.reduceLeDiff, List.drop_succ_cons, List.drop_zero, List.take_succ_cons, List.take_zero, List.toList_toArray, argsE, Array.append_empty, Array.empty_append, List.getElem?_toArray, Int.reduceLT, Int.reduceLE, Int.reduceToNat, Int.reduceEq, Nat.reduceLT]
  refine appK_of (rlevel_app (L := levelF (claimsF l ds) cap) (hl.Old .ap) (hd.Old .ap) few len ok am hL) ?_
  rintro _ _ ⟨e2, rfl⟩
  rw [e2]
  clear e2
  have hL0 := hL.h0
  have hLM := hL.hM
  have sL := sumC_bounds (t := levelF (claimsF l ds) cap) hok hL.h0
  have ws : IntKind.wrap .i64 (cap - sumC (claimsF l ds) (levelF (claimsF l ds) cap)) = cap - sumC (claimsF l ds) (levelF (claimsF l ds) cap) := wrap64 (by have := hamt.1; omega) (by have := hamt.2; omega)
  simp only [↓eD0, ↓eD1, eC0, eC1, eC2, eC3, eC4, eC5, eC6, wantedE, ↓reduceIte, Nat.reduceEqDiff, Option.map_some, Option.map_none, reread, List.nil_append, List.cons_append, List.map_cons, List.map_nil, List.length_nil, List.length_cons, Value.cells, List.getElem?_cons_zero, List.getElem?_cons_succ, outE, lks, lkR, rdV, neg1, evs, opt, Nat.reduceAdd, Nat.reduceMul, and_self, reduceCtorEq, List.size_toArray, List.all_cons, List.all_nil, Value.oneCell', List.set_cons_zero, List.set_cons_succ, sets, fillL, Nat.reduceLeDiff, List.drop_succ_cons, List.drop_zero, List.take_succ_cons, List.take_zero, List.toList_toArray, argsE, Array.append_empty, Array.empty_append, List.getElem?_toArray, Int.reduceLT, Int.reduceLE, Int.reduceToNat, Int.reduceEq, Nat.reduceLT]
  refine appK_of (rsum_app (t := levelF (claimsF l ds) cap) (hl.Old .ap) (hd.Old .ap) few len ok am ⟨hL0, by omega⟩) ?_
  rintro _ _ ⟨e2, rfl⟩
  rw [e2]
  clear e2
  simp only [↓eD0, ↓eD1, eC0, eC1, eC2, eC3, eC4, eC5, eC6, wantedE, ↓reduceIte, Nat.reduceEqDiff, Option.map_some, Option.map_none, reread, List.nil_append, List.cons_append, List.map_cons, List.map_nil, List.length_nil, List.length_cons, Value.cells, List.getElem?_cons_zero, List.getElem?_cons_succ, outE, lks, lkR, rdV, neg1, evs, opt, Nat.reduceAdd, Nat.reduceMul, and_self, reduceCtorEq, List.size_toArray, List.all_cons, List.all_nil, Value.oneCell', List.set_cons_zero, List.set_cons_succ, sets, fillL, Nat.reduceLeDiff, List.drop_succ_cons, List.drop_zero, List.take_succ_cons, List.take_zero, List.toList_toArray, argsE, Array.append_empty, Array.empty_append, List.getElem?_toArray, Int.reduceLT, Int.reduceLE, Int.reduceToNat, Int.reduceEq, Nat.reduceLT, ws]
  unfold fillC
  have hleft : 0 ≤ cap - sumC (claimsF l ds) (levelF (claimsF l ds) cap) := by have := hL.le; omega
  have hleft2 : cap - sumC (claimsF l ds) (levelF (claimsF l ds) cap) ≤ 1073741824 := by have := hamt.2; omega
  generalize cap - sumC (claimsF l ds) (levelF (claimsF l ds) cap) = left at hleft hleft2 ⊢
  generalize levelF (claimsF l ds) cap = L at hL0 hLM ⊢
  generalize claimsF l ds = cs at hcl hok hget ⊢
  refine loop_for (J := fun i e ρ => i ≤ l.length ∧ Old σ ρ ∧ ∃ v, e = [(1, .slice base l.length cp), (2, .slice base2 ds.length cp2), (7, .int .i64 L), (8, .int .i64 (leftG L (cs.take i) left)), (9, v), (10, .int .i64 i)] ∧ Grown σ ρ 1 v ((fillG L (cs.take i) left).map intV).flatten (fillG L (cs.take i) left).length) l.length
    ⟨by omega, .ap, _, rfl, Grown.nil⟩ ?_
  rintro i e ρ hi ⟨_, ho, v, rfl, hg⟩
  rw [← ap_nil (σ := ρ)]
  by_cases hlt : i < l.length
  · have dl : decide ((i:Int) < (l.length : Int)) = true := by simpa using hlt
    have hx : (l.map ctrV)[i]? = some (ctrV l[i]) := by simp [hlt]
    have hx2 : (ds.map intV)[i]? = some (intV ds[i]) := by simp [len, hlt]
    obtain ⟨b, off, rfl, h1⟩ := hl.at hx
    obtain ⟨b2, off2, rfl, h2⟩ := hd.at hx2
    have g1 : ∀ L, rdN (ap ρ L) ⟨b, off + i * 3, none⟩ 3 = some (ctrV l[i]) := fun L => rdN_Old (ho.trans .ap) h1
    have g2 : ∀ L, rd1 (ap ρ L) ⟨b2, off2 + i, none⟩ = some (.int .i64 ds[i]) := fun L => rd1_Old (ho.trans .ap) (by simpa using rd1_row h2 (j := 0) rfl)
    have hb : (0:Int) ≤ (i:Int) ∧ (i:Int) < (l.length : Int) := by omega
    have hb2 : (0:Int) ≤ (i:Int) ∧ (i:Int) < (ds.length : Int) := by omega
    have hw : IntKind.wrap .i64 ((i:Int) + 1) = ((i + 1 : Nat) : Int) := by rw [wrap64 (by omega) (by omega)]; omega
    have hge := hget i (by omega) hlt (by omega)
    have tk : cs.take (i + 1) = cs.take i ++ [clF l[i] ds[i]] := by rw [List.take_succ_eq_append_getElem (by omega), hge]
    have hoki : (clF l[i] ds[i]).Ok := by rw [← hge]; exact hok _ (by simp)
    have a1 := atC_bounds (t := L) hoki hL0
    have a2 := atC_bounds (t := L + 1) hoki (by omega)
    have a3 := atC_mono (t := L) (u := L + 1) hoki (by omega)
    have lb := leftG_bounds (L := L) (a := cs.take i) (left := left) (fun x hx => hok x (List.mem_of_mem_take hx)) hleft
    have mb := mn_le (leftG L (cs.take i) left) (atC (clF l[i] ds[i]) (L + 1) - atC (clF l[i] ds[i]) L)
    have w1 : IntKind.wrap .i64 (L + 1) = L + 1 := wrap64 (by omega) (by omega)
    have w2 : IntKind.wrap .i64 (atC (clF l[i] ds[i]) (L + 1) - atC (clF l[i] ds[i]) L) = atC (clF l[i] ds[i]) (L + 1) - atC (clF l[i] ds[i]) L := wrap64 (by omega) (by omega)
    have w3 : IntKind.wrap .i64 (atC (clF l[i] ds[i]) L + mn (leftG L (cs.take i) left) (atC (clF l[i] ds[i]) (L + 1) - atC (clF l[i] ds[i]) L)) = atC (clF l[i] ds[i]) L + mn (leftG L (cs.take i) left) (atC (clF l[i] ds[i]) (L + 1) - atC (clF l[i] ds[i]) L) := wrap64 (by omega) (by omega)
    have w4 : IntKind.wrap .i64 (leftG L (cs.take i) left - mn (leftG L (cs.take i) left) (atC (clF l[i] ds[i]) (L + 1) - atC (clF l[i] ds[i]) L)) = leftG L (cs.take i) left - mn (leftG L (cs.take i) left) (atC (clF l[i] ds[i]) (L + 1) - atC (clF l[i] ds[i]) L) := wrap64 (by omega) (by omega)
    have hfl : (fillG L (cs.take i) left).length = i := by rw [fillG_len]; simp; omega
    obtain ⟨v', τ', ha1, hA⟩ := append_grown (σ := ap ρ [.cells 0 (intV (atC (clF l[i] ds[i]) L + mn (leftG L (cs.take i) left) (atC (clF l[i] ds[i]) (L + 1) - atC (clF l[i] ds[i]) L))) (0, 0)]) (xa := .slice (some ⟨ρ.size, 0, none⟩) 1 1) (bytes := 8) (m := 1) (new := intV (atC (clF l[i] ds[i]) L + mn (leftG L (cs.take i) left) (atC (clF l[i] ds[i]) (L + 1) - atC (clF l[i] ds[i]) L))) (hg.old .ap) (by omega) (Nat.le_trans ho.1 (Old.ap (l := _)).1) (by
      show (rdN (ap ρ _) ⟨ρ.size, 0, none⟩ 1).map (1, ·) = _
      rw [rdN_ap0]; rfl) rfl rfl (by omega) (by omega)
    simp only [↓eD0, ↓eD1, eC0, eC1, eC2, eC3, eC4, eC5, eC6, wantedE, ↓reduceIte, Nat.reduceEqDiff, Option.map_some, Option.map_none, reread, List.nil_append, List.cons_append, List.map_cons, List.map_nil, List.length_nil, List.length_cons, Value.cells, List.getElem?_cons_zero, List.getElem?_cons_succ, outE, lks, lkR, rdV, neg1, evs, opt, Nat.reduceAdd, Nat.reduceMul, and_self, reduceCtorEq, List.size_toArray, List.all_cons, List.all_nil, Value.oneCell', List.set_cons_zero, List.set_cons_succ, sets, fillL, Nat.reduceLeDiff, List.drop_succ_cons, List.drop_zero, List.take_succ_cons, List.take_zero, List.toList_toArray, argsE, Array.append_empty, Array.empty_append, List.getElem?_toArray, Int.reduceLT, Int.reduceLE, Int.reduceToNat, Int.reduceEq, Nat.reduceLT, dl, hb, hb2, Int.toNat_natCast, g1, g2, ctrV]
    refine appK_of (rat_app (c := l[i]) (d := ds[i]) (t := L) (ok _ (by simp)) (am _ (by simp)) ⟨hL0, by omega⟩) ?_
    rintro _ _ ⟨e2, rfl⟩
    rw [e2]
    clear e2
    simp only [↓eD0, ↓eD1, eC0, eC1, eC2, eC3, eC4, eC5, eC6, wantedE, ↓reduceIte, Nat.reduceEqDiff, Option.map_some, Option.map_none, reread, List.nil_append, List.cons_append, List.map_cons, List.map_nil, List.length_nil, List.length_cons, Value.cells, List.getElem?_cons_zero, List.getElem?_cons_succ, outE, lks, lkR, rdV, neg1, evs, opt, Nat.reduceAdd, Nat.reduceMul, and_self, reduceCtorEq, List.size_toArray, List.all_cons, List.all_nil, Value.oneCell', List.set_cons_zero, List.set_cons_succ, sets, fillL, Nat.reduceLeDiff, List.drop_succ_cons, List.drop_zero, List.take_succ_cons, List.take_zero, List.toList_toArray, argsE, Array.append_empty, Array.empty_append, List.getElem?_toArray, Int.reduceLT, Int.reduceLE, Int.reduceToNat, Int.reduceEq, Nat.reduceLT, hb, hb2, Int.toNat_natCast, g1, g2, ctrV, w1]
    refine appK_of (rat_app (c := l[i]) (d := ds[i]) (t := L + 1) (ok _ (by simp)) (am _ (by simp)) ⟨by omega, by omega⟩) ?_
    rintro _ _ ⟨e2, rfl⟩
    rw [e2]
    clear e2
    simp only [↓eD0, ↓eD1, eC0, eC1, eC2, eC3, eC4, eC5, eC6, wantedE, ↓reduceIte, Nat.reduceEqDiff, Option.map_some, Option.map_none, reread, List.nil_append, List.cons_append, List.map_cons, List.map_nil, List.length_nil, List.length_cons, Value.cells, List.getElem?_cons_zero, List.getElem?_cons_succ, outE, lks, lkR, rdV, neg1, evs, opt, Nat.reduceAdd, Nat.reduceMul, and_self, reduceCtorEq, List.size_toArray, List.all_cons, List.all_nil, Value.oneCell', List.set_cons_zero, List.set_cons_succ, sets, fillL, Nat.reduceLeDiff, List.drop_succ_cons, List.drop_zero, List.take_succ_cons, List.take_zero, List.toList_toArray, argsE, Array.append_empty, Array.empty_append, List.getElem?_toArray, Int.reduceLT, Int.reduceLE, Int.reduceToNat, Int.reduceEq, Nat.reduceLT, mn_eq, w2, w3, w4]
    refine onV_of ha1 ?_
    simp only [↓eD0, ↓eD1, eC0, eC1, eC2, eC3, eC4, eC5, eC6, wantedE, ↓reduceIte, Nat.reduceEqDiff, Option.map_some, Option.map_none, reread, List.nil_append, List.cons_append, List.map_cons, List.map_nil, List.length_nil, List.length_cons, Value.cells, List.getElem?_cons_zero, List.getElem?_cons_succ, outE, lks, lkR, rdV, neg1, evs, opt, Nat.reduceAdd, Nat.reduceMul, and_self, reduceCtorEq, List.size_toArray, List.all_cons, List.all_nil, Value.oneCell', List.set_cons_zero, List.set_cons_succ, sets, fillL, Nat.reduceLeDiff, List.drop_succ_cons, List.drop_zero, List.take_succ_cons, List.take_zero, List.toList_toArray, argsE, Array.append_empty, Array.empty_append, List.getElem?_toArray, Int.reduceLT, Int.reduceLE, Int.reduceToNat, Int.reduceEq, Nat.reduceLT, hw]
    refine ⟨hlt, by omega, hA.Old (hg.old .ap) (ho.trans .ap), v', ?_, ?_⟩
    · rw [tk, leftG_snoc]
    · rw [tk, fillG_snoc]
      simpa using hA.grown
  · have : i = l.length := by omega
    subst this
    have dl : decide ((l.length:Int) < (l.length : Int)) = false := by simp
    rw [List.take_of_length_le (by omega)] at hg
    simp only [↓eD0, ↓eD1, eC0, eC1, eC2, eC3, eC4, eC5, eC6, wantedE, ↓reduceIte, Nat.reduceEqDiff, Option.map_some, Option.map_none, reread, List.nil_append, List.cons_append, List.map_cons, List.map_nil, List.length_nil, List.length_cons, Value.cells, List.getElem?_cons_zero, List.getElem?_cons_succ, outE, lks, lkR, rdV, neg1, evs, opt, Nat.reduceAdd, Nat.reduceMul, and_self, reduceCtorEq, List.size_toArray, List.all_cons, List.all_nil, Value.oneCell', List.set_cons_zero, List.set_cons_succ, sets, fillL, Nat.reduceLeDiff, List.drop_succ_cons, List.drop_zero, List.take_succ_cons, List.take_zero, List.toList_toArray, argsE, Array.append_empty, Array.empty_append, List.getElem?_toArray, Int.reduceLT, Int.reduceLE, Int.reduceToNat, Int.reduceEq, Nat.reduceLT, dl]
    exact ⟨ho.trans .ap, Grown.Row (by simpa using hg.old (Old.ap (l := []))) intV_rows⟩

/-! ### Demands -/
def findP (l : List Por) (m : Int) : Por := (l.find? fun p => decide (p.m = m)).getD ⟨m, 0, 0⟩
def clip (n : Int) : Int := mx 0 (mn n 1073741824)
theorem clip_amt {n : Int} : Amt (clip n) := by
  have := mn_le n 1073741824
  have := mx_ge 0 (mn n 1073741824)
  unfold clip
  exact ⟨by omega, by omega⟩
theorem clip_zero : clip 0 = 0 := by decide

theorem demand_app {σ : H} {l : List Por} {lv : Value} {m : Int} (hl : Row σ 3 lv (l.map porV)) (hn : l.length ≤ 1000000) :
    App Try.prog (.func 46) #[] #[lv, .int .i64 m] σ fun v σ' => σ' = σ ∧ v = .agg (porV ⟨m, clip (findP l m).st, clip (findP l m).pg⟩).toArray := by
  refine App.forget (App.of_sem mixed Try.func46 t46 k46 r46 (Nat.le_of_ble_eq_true rfl) ?_)
  obtain ⟨base, cp, rfl⟩ := hl.slice
  simp only [List.length_map] at hl ⊢
  rw [← ap_nil (σ := σ)]
  unfold s46
  simp only [↓eD0, ↓eD1, eC0, eC1, eC2, eC3, eC4, eC5, eC6, wantedE, ↓reduceIte, Nat.reduceEqDiff, Option.map_some, Option.map_none, reread, List.nil_append, List.cons_append, List.map_cons, List.map_nil, List.length_nil, List.length_cons, Value.cells, List.getElem?_cons_zero, List.getElem?_cons_succ, outE, lks, lkR, rdV, neg1, evs, opt, Nat.reduceAdd, Nat.reduceMul, and_self, reduceCtorEq, List.size_toArray, List.all_cons, List.all_nil, Value.oneCell', List.set_cons_zero, List.set_cons_succ, sets, fillL, Nat.reduceLeDiff, List.drop_succ_cons, List.drop_zero, List.take_succ_cons, List.take_zero, List.toList_toArray, argsE, Array.append_empty, Array.empty_append, List.getElem?_toArray, Int.reduceLT, Int.reduceLE, Int.reduceToNat, Int.reduceEq, Nat.reduceLT]
  refine loop_for (J := fun i e τ => i ≤ l.length ∧ e = [(0, .slice base l.length cp), (1, .int .i64 m), (4, .pointer (some ⟨σ.size, 0, none⟩)), (5, .int .i64 i)] ∧ τ = ap σ [.cells 0 [.int .i64 0, .int .i64 0, .int .i64 0] (0, 0)] ∧ (l.take i).find? (fun p => decide (p.m = m)) = none) l.length ⟨by omega, rfl, rfl, rfl⟩ ?_
  rintro i e τ hi ⟨_, rfl, rfl, hf⟩
  by_cases hlt : i < l.length
  · have dl : decide ((i:Int) < (l.length : Int)) = true := by simpa using hlt
    have hx : (l.map porV)[i]? = some (porV l[i]) := by simp [hlt]
    obtain ⟨b, off, rfl, h1⟩ := hl.at hx
    have g0 : ∀ L, rd1 (ap σ L) ⟨b, off + i * 3, none⟩ = some (.int .i64 l[i].m) := fun L => rd1_row (rdN_old h1) (j := 0) rfl
    have g1 : ∀ L, rd1 (ap σ L) ⟨b, off + i * 3 + 1, none⟩ = some (.int .i64 l[i].st) := fun L => rd1_row (rdN_old h1) (j := 1) rfl
    have g2 : ∀ L, rd1 (ap σ L) ⟨b, off + i * 3 + 2, none⟩ = some (.int .i64 l[i].pg) := fun L => rd1_row (rdN_old h1) (j := 2) rfl
    have hb : (0:Int) ≤ (i:Int) ∧ (i:Int) < (l.length : Int) := by omega
    have hw : IntKind.wrap .i64 ((i:Int) + 1) = ((i + 1 : Nat) : Int) := by rw [wrap64 (by omega) (by omega)]; omega
    have tk : l.take (i + 1) = l.take i ++ [l[i]] := List.take_succ_eq_append_getElem hlt
    by_cases he : l[i].m = m
    · have de : decide (l[i].m = m) = true := by simpa using he
      have hfp : findP l m = l[i] := by
        have e : l = l.take i ++ l[i] :: l.drop (i + 1) := by rw [← List.drop_eq_getElem_cons hlt, List.take_append_drop]
        have h3 : (l.take i ++ l[i] :: l.drop (i + 1)).find? (fun p => decide (p.m = m)) = some l[i] := by
          rw [List.find?_append, hf, List.find?_cons_of_pos (by simpa using he)]
          rfl
        rw [← e] at h3
        unfold findP
        rw [h3]
        rfl
      simp only [↓eD0, ↓eD1, eC0, eC1, eC2, eC3, eC4, eC5, eC6, wantedE, ↓reduceIte, Nat.reduceEqDiff, Option.map_some, Option.map_none, reread, List.nil_append, List.cons_append, List.map_cons, List.map_nil, List.length_nil, List.length_cons, Value.cells, List.getElem?_cons_zero, List.getElem?_cons_succ, outE, lks, lkR, rdV, neg1, evs, opt, Nat.reduceAdd, Nat.reduceMul, and_self, reduceCtorEq, List.size_toArray, List.all_cons, List.all_nil, Value.oneCell', List.set_cons_zero, List.set_cons_succ, sets, fillL, Nat.reduceLeDiff, List.drop_succ_cons, List.drop_zero, List.take_succ_cons, List.take_zero, List.toList_toArray, argsE, Array.append_empty, Array.empty_append, List.getElem?_toArray, Int.reduceLT, Int.reduceLE, Int.reduceToNat, Int.reduceEq, Nat.reduceLT, dl, hb, Int.toNat_natCast, g0, g1, g2, de]
      refine appK_of clip_app ?_
      rintro _ _ ⟨e2, rfl⟩
      rw [e2]
      clear e2
      simp only [↓eD0, ↓eD1, eC0, eC1, eC2, eC3, eC4, eC5, eC6, wantedE, ↓reduceIte, Nat.reduceEqDiff, Option.map_some, Option.map_none, reread, List.nil_append, List.cons_append, List.map_cons, List.map_nil, List.length_nil, List.length_cons, Value.cells, List.getElem?_cons_zero, List.getElem?_cons_succ, outE, lks, lkR, rdV, neg1, evs, opt, Nat.reduceAdd, Nat.reduceMul, and_self, reduceCtorEq, List.size_toArray, List.all_cons, List.all_nil, Value.oneCell', List.set_cons_zero, List.set_cons_succ, sets, fillL, Nat.reduceLeDiff, List.drop_succ_cons, List.drop_zero, List.take_succ_cons, List.take_zero, List.toList_toArray, argsE, Array.append_empty, Array.empty_append, List.getElem?_toArray, Int.reduceLT, Int.reduceLE, Int.reduceToNat, Int.reduceEq, Nat.reduceLT, g1, g2, undef_eq]
      refine appK_of clip_app ?_
      rintro _ _ ⟨e2, rfl⟩
      rw [e2]
      clear e2
      simp only [↓eD0, ↓eD1, eC0, eC1, eC2, eC3, eC4, eC5, eC6, wantedE, ↓reduceIte, Nat.reduceEqDiff, Option.map_some, Option.map_none, reread, List.nil_append, List.cons_append, List.map_cons, List.map_nil, List.length_nil, List.length_cons, Value.cells, List.getElem?_cons_zero, List.getElem?_cons_succ, outE, lks, lkR, rdV, neg1, evs, opt, Nat.reduceAdd, Nat.reduceMul, and_self, reduceCtorEq, List.size_toArray, List.all_cons, List.all_nil, Value.oneCell', List.set_cons_zero, List.set_cons_succ, sets, fillL, Nat.reduceLeDiff, List.drop_succ_cons, List.drop_zero, List.take_succ_cons, List.take_zero, List.toList_toArray, argsE, Array.append_empty, Array.empty_append, List.getElem?_toArray, Int.reduceLT, Int.reduceLE, Int.reduceToNat, Int.reduceEq, Nat.reduceLT]
      exact ⟨.ap, by simp [flat, flat.flat1], by rw [hfp]; rfl⟩
    · have de : decide (l[i].m = m) = false := by simpa using he
      simp only [↓eD0, ↓eD1, eC0, eC1, eC2, eC3, eC4, eC5, eC6, wantedE, ↓reduceIte, Nat.reduceEqDiff, Option.map_some, Option.map_none, reread, List.nil_append, List.cons_append, List.map_cons, List.map_nil, List.length_nil, List.length_cons, Value.cells, List.getElem?_cons_zero, List.getElem?_cons_succ, outE, lks, lkR, rdV, neg1, evs, opt, Nat.reduceAdd, Nat.reduceMul, and_self, reduceCtorEq, List.size_toArray, List.all_cons, List.all_nil, Value.oneCell', List.set_cons_zero, List.set_cons_succ, sets, fillL, Nat.reduceLeDiff, List.drop_succ_cons, List.drop_zero, List.take_succ_cons, List.take_zero, List.toList_toArray, argsE, Array.append_empty, Array.empty_append, List.getElem?_toArray, Int.reduceLT, Int.reduceLE, Int.reduceToNat, Int.reduceEq, Nat.reduceLT, dl, hb, Int.toNat_natCast, g0, de, hw]
      refine ⟨hlt, by omega, ?_⟩
      rw [tk, List.find?_append, hf]
      simp [he]
  · have : i = l.length := by omega
    subst this
    have dl : decide ((l.length:Int) < (l.length : Int)) = false := by simp
    rw [List.take_length] at hf
    simp only [↓eD0, ↓eD1, eC0, eC1, eC2, eC3, eC4, eC5, eC6, wantedE, ↓reduceIte, Nat.reduceEqDiff, Option.map_some, Option.map_none, reread, List.nil_append, List.cons_append, List.map_cons, List.map_nil, List.length_nil, List.length_cons, Value.cells, List.getElem?_cons_zero, List.getElem?_cons_succ, outE, lks, lkR, rdV, neg1, evs, opt, Nat.reduceAdd, Nat.reduceMul, and_self, reduceCtorEq, List.size_toArray, List.all_cons, List.all_nil, Value.oneCell', List.set_cons_zero, List.set_cons_succ, sets, fillL, Nat.reduceLeDiff, List.drop_succ_cons, List.drop_zero, List.take_succ_cons, List.take_zero, List.toList_toArray, argsE, Array.append_empty, Array.empty_append, List.getElem?_toArray, Int.reduceLT, Int.reduceLE, Int.reduceToNat, Int.reduceEq, Nat.reduceLT, dl]
    exact ⟨.ap, by simp [flat, flat.flat1], by simp [findP, hf, clip_zero, porV]⟩

theorem por_eq {a b c a' b' c' : Int} : aggEq [.int .i64, .int .i64, .int .i64] [.int .i64 a, .int .i64 b, .int .i64 c] [.int .i64 a', .int .i64 b', .int .i64 c'] = some (decide (a = a' ∧ b = b' ∧ c = c')) := by
  simp only [aggEq, Leaf.fits, leafEq, decide_true, and_self, ↓reduceIte]
  by_cases h1 : a = a' <;> by_cases h2 : b = b' <;> by_cases h3 : c = c' <;> simp [h1, h2, h3]

theorem samePors_app {σ : H} {a : List Por} {av bv : Value} (ha : Row σ 3 av (a.map porV)) (hb : Row σ 3 bv (a.map porV)) (hn : a.length < 4000000000000) :
    App Try.prog (.func 28) #[] #[av, bv] σ fun v σ' => σ' = σ ∧ v = .bool true := by
  refine App.forget (App.of_sem mixed Try.func28 t28 k28 r28 (Nat.le_of_ble_eq_true rfl) ?_)
  obtain ⟨base, cp, rfl⟩ := ha.slice
  obtain ⟨base2, cp2, rfl⟩ := hb.slice
  simp only [List.length_map] at ha hb ⊢
  rw [← ap_nil (σ := σ)]
  unfold s28
  have d : decide ((a.length:Int) = (a.length:Int)) = true := by simp
  simp only [↓eD0, ↓eD1, eC0, eC1, eC2, eC3, eC4, eC5, eC6, wantedE, ↓reduceIte, Nat.reduceEqDiff, Option.map_some, Option.map_none, reread, List.nil_append, List.cons_append, List.map_cons, List.map_nil, List.length_nil, List.length_cons, Value.cells, List.getElem?_cons_zero, List.getElem?_cons_succ, outE, lks, lkR, rdV, neg1, evs, opt, Nat.reduceAdd, Nat.reduceMul, and_self, reduceCtorEq, List.size_toArray, List.all_cons, List.all_nil, Value.oneCell', List.set_cons_zero, List.set_cons_succ, sets, fillL, Nat.reduceLeDiff, List.drop_succ_cons, List.drop_zero, List.take_succ_cons, List.take_zero, List.toList_toArray, argsE, Array.append_empty, Array.empty_append, List.getElem?_toArray, Int.reduceLT, Int.reduceLE, Int.reduceToNat, Int.reduceEq, Nat.reduceLT, d]
  refine loop_for (J := fun i e τ => Old σ τ ∧ i ≤ a.length ∧ e = [(0, .slice base a.length cp), (1, .slice base2 a.length cp2), (5, .int .i64 i)]) a.length ⟨.ap, by omega, rfl⟩ ?_
  rintro i e τ hi ⟨ho, _, rfl⟩
  rw [← ap_nil (σ := τ)]
  by_cases hlt : i < a.length
  · have dl : decide ((i:Int) < (a.length : Int)) = true := by simpa using hlt
    have hx : (a.map porV)[i]? = some (porV a[i]) := by simp [hlt]
    obtain ⟨b1, off, rfl, h1⟩ := ha.at hx
    obtain ⟨b2, off2, rfl, h2⟩ := hb.at hx
    have h3 : ∀ L, rdN (ap τ L) ⟨b1, off + i * 3, none⟩ 3 = some (porV a[i]) := fun L => rdN_Old (ho.trans .ap) h1
    have h4 : ∀ L, rdN (ap τ L) ⟨b2, off2 + i * 3, none⟩ 3 = some (porV a[i]) := fun L => rdN_Old (ho.trans .ap) h2
    have hb1 : (0:Int) ≤ (i:Int) ∧ (i:Int) < (a.length : Int) := by omega
    have hw : IntKind.wrap .i64 ((i:Int) + 1) = ((i + 1 : Nat) : Int) := by rw [wrap64 (by omega) (by omega)]; omega
    have de : ∀ a b c : Int, decide (a = a ∧ b = b ∧ c = c) = true := fun _ _ _ => by simp
    simp only [↓eD0, ↓eD1, eC0, eC1, eC2, eC3, eC4, eC5, eC6, wantedE, ↓reduceIte, Nat.reduceEqDiff, Option.map_some, Option.map_none, reread, List.nil_append, List.cons_append, List.map_cons, List.map_nil, List.length_nil, List.length_cons, Value.cells, List.getElem?_cons_zero, List.getElem?_cons_succ, outE, lks, lkR, rdV, neg1, evs, opt, Nat.reduceAdd, Nat.reduceMul, and_self, reduceCtorEq, List.size_toArray, List.all_cons, List.all_nil, Value.oneCell', List.set_cons_zero, List.set_cons_succ, sets, fillL, Nat.reduceLeDiff, List.drop_succ_cons, List.drop_zero, List.take_succ_cons, List.take_zero, List.toList_toArray, argsE, Array.append_empty, Array.empty_append, List.getElem?_toArray, Int.reduceLT, Int.reduceLE, Int.reduceToNat, Int.reduceEq, Nat.reduceLT, dl, hb1, Int.toNat_natCast, h3, h4, porV, por_eq, de, hw]
    exact ⟨hlt, ho.trans .ap, by omega⟩
  · have : i = a.length := by omega
    subst this
    have dl : decide ((a.length:Int) < (a.length : Int)) = false := by simp
    simp only [↓eD0, ↓eD1, eC0, eC1, eC2, eC3, eC4, eC5, eC6, wantedE, ↓reduceIte, Nat.reduceEqDiff, Option.map_some, Option.map_none, reread, List.nil_append, List.cons_append, List.map_cons, List.map_nil, List.length_nil, List.length_cons, Value.cells, List.getElem?_cons_zero, List.getElem?_cons_succ, outE, lks, lkR, rdV, neg1, evs, opt, Nat.reduceAdd, Nat.reduceMul, and_self, reduceCtorEq, List.size_toArray, List.all_cons, List.all_nil, Value.oneCell', List.set_cons_zero, List.set_cons_succ, sets, fillL, Nat.reduceLeDiff, List.drop_succ_cons, List.drop_zero, List.take_succ_cons, List.take_zero, List.toList_toArray, argsE, Array.append_empty, Array.empty_append, List.getElem?_toArray, Int.reduceLT, Int.reduceLE, Int.reduceToNat, Int.reduceEq, Nat.reduceLT, dl]
    exact ⟨ho.trans .ap, by simp [flat]⟩
end Go.Proofs.Ytimcgoghjebalaa
