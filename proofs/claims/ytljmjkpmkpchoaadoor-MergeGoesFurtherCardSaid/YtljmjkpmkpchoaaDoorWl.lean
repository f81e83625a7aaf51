/- Walks and plain laws. Conditions: none. -/
import Derived.Test.YtljmjkpmkpchoaaDoorWk
set_option linter.all false
set_option linter.unusedSimpArgs false
set_option maxRecDepth 10000
set_option maxHeartbeats 1000000
namespace Go.Proofs.YtljmjkpmkpchoaaDoor
open Go Go.Cn Go.RowKit

def spl (i n : Int) (k : Nat) (e : Ent) : List Ent :=
  if (k : Int) = i ∧ e.kind = 1 ∧ 1 ≤ n ∧ n < e.n then [⟨1, e.cpu, e.count, n, ⟨#[]⟩⟩, ⟨1, e.cpu, IntKind.wrap .i64 (e.count + n), IntKind.wrap .i64 (e.n - n), ⟨#[]⟩⟩] else [e]
def splitL (_ : List Ent) (i n : Int) (E : List Ent) : List Ent := E.zipIdx.flatMap fun q => spl i n q.2 q.1
theorem split_succ {E0 E : List Ent} {i n : Int} {k : Nat} (h : k < E.length) : splitL E0 i n (E.take (k + 1)) = splitL E0 i n (E.take k) ++ spl i n k E[k] := by
  unfold splitL
  rw [List.take_succ_eq_append_getElem h, List.zipIdx_append, List.flatMap_append]
  simp [List.zipIdx_cons, List.zipIdx_nil, Nat.min_eq_left (Nat.le_of_lt h)]
theorem ent_kind {x : Ent} (h : x.kind = 1) : x = ⟨1, x.cpu, x.count, x.n, x.data⟩ := by cases x; simp_all
theorem spl_len {i n : Int} {k : Nat} {e : Ent} : (spl i n k e).length ≤ 2 := by unfold spl; split <;> simp
theorem split_len {E0 E : List Ent} {i n : Int} {k : Nat} (hk : k ≤ E.length) : (splitL E0 i n (E.take k)).length ≤ k * 2 := by
  induction k with
  | zero => simp [splitL]
  | succ k ih =>
    rw [split_succ (by omega), List.length_append]
    have := spl_len (i := i) (n := n) (k := k) (e := E[k])
    have := ih (by omega)
    omega
def splitF (L : Lg) (i n : Int) : Lg := ⟨L.d, L.c, splitL L.E i n L.E, []⟩

theorem split_app {σ : H} {l : List Value} {L : Lg} {i n : Int} (h : IsLg σ l L) (hsm : L.E.length ≤ 100) :
    App Tryd.prog (.func 18) #[] #[.agg l.toArray, .int .i64 i, .int .i64 n] σ fun v σ' => Old σ σ' ∧ ∃ l', v = .agg l'.toArray ∧ IsLg σ' l' (splitF L i n) ∧ ∀ sl c, l'[17]? = some sl → baseOf sl = some c → σ.size + 3 ≤ c := by
  refine App.of_sem mixed Tryd.func18 t18 k18 r18 (Nat.le_of_ble_eq_true rfl) ?_
  obtain ⟨a1, b1, a2, b2, rfl, hv, hw, hcap⟩ := h.recs
  have hd := h.log.d16
  have hlE := h.fewE
  unfold s18
  have e0 : ap σ [] = σ := ap_nil
  rw [← e0]
  simp only [↓eD0, ↓eD1, eC0, eC1, eC2, eC3, eC4, eC5, eC6, wantedE, ↓reduceIte, Nat.reduceEqDiff, Option.map_some, Option.map_none, reread, List.nil_append, List.cons_append, List.map_cons, List.map_nil, List.length_nil, List.length_cons, Value.cells, List.getElem?_cons_zero, List.getElem?_cons_succ, outE, lks, lkR, rdV, neg1, evs, opt, Nat.reduceAdd, Nat.reduceMul, and_self, reduceCtorEq, List.size_toArray, List.all_cons, List.all_nil, Value.oneCell', List.set_cons_zero, List.set_cons_succ, sets, fillL, Nat.reduceLeDiff, List.drop_succ_cons, List.drop_zero, List.take_succ_cons, List.take_zero, List.toList_toArray, argsE, Array.append_empty, Array.empty_append, List.getElem?_toArray, Int.reduceLT, Int.reduceLE, Int.reduceToNat, Int.reduceEq, Nat.reduceLT, rec16 hd, rec17 hd, rec_len hd, rec_take16 hd, digC_len hd, rec_build hd, rec_s16 hd, rec_take hd, rec_sets hd, rec_one, rec_ne]
  refine loop_for (J := fun k e τ => k ≤ L.E.length ∧ ∃ v, Mk σ τ (recC L.d L.c (.slice a1 L.E.length b1) (.slice a2 L.S.length b2)) zeroL L.d L.c v (.slice none 0 0) ∧
    e = [(1, .int .i64 i), (2, .int .i64 n), (3, .pointer (some ⟨σ.size, 0, none⟩)), (6, .pointer (some ⟨σ.size + 1, 0, none⟩)), (7, .pointer (some ⟨σ.size + 2, 0, none⟩)), (8, .int .i64 k)] ∧
    Grown (sized (σ.size + 3)) τ 5 v ((splitL L.E i n (L.E.take k)).map entV).flatten (splitL L.E i n (L.E.take k)).length) L.E.length
    ⟨by omega, _, ⟨.ap, by simp [ap_size], ap_new0, ap_new, 1, ap_new⟩, rfl, .nil⟩ ?_
  rintro k e τ hk ⟨_, v, hM, rfl, hg⟩
  obtain ⟨ver, h5⟩ := hM.h5
  have hl2 := hM.len
  have e1 : ap τ [] = τ := ap_nil
  have t2 : ∀ l, rd1 (ap τ l) ⟨σ.size, 17, none⟩ = some (.slice a1 L.E.length b1) := fun l => by rw [rd1_eq, hM.ap.h2, rdc1_cells, rec17 hd]
  have t5 : ∀ l, rd1 (ap τ l) ⟨σ.size + 2, 17, none⟩ = some v := fun l => by obtain ⟨_, h5⟩ := (hM.ap (L := l)).h5; rw [rd1_eq, h5, rdc1_cells, rec17 hd]
  rw [← e1]
  simp only [↓eD0, ↓eD1, eC0, eC1, eC2, eC3, eC4, eC5, eC6, wantedE, ↓reduceIte, Nat.reduceEqDiff, Option.map_some, Option.map_none, reread, List.nil_append, List.cons_append, List.map_cons, List.map_nil, List.length_nil, List.length_cons, Value.cells, List.getElem?_cons_zero, List.getElem?_cons_succ, outE, lks, lkR, rdV, neg1, evs, opt, Nat.reduceAdd, Nat.reduceMul, and_self, reduceCtorEq, List.size_toArray, List.all_cons, List.all_nil, Value.oneCell', List.set_cons_zero, List.set_cons_succ, sets, fillL, Nat.reduceLeDiff, List.drop_succ_cons, List.drop_zero, List.take_succ_cons, List.take_zero, List.toList_toArray, argsE, Array.append_empty, Array.empty_append, List.getElem?_toArray, Int.reduceLT, Int.reduceLE, Int.reduceToNat, Int.reduceEq, Nat.reduceLT, t2, t5]
  refine onI_dec (fun hlt => ?_) (fun hge => ?_)
  · have hlt : k < L.E.length := by omega
    have hx : (L.E.map entV)[k]? = some (entV L.E[k]) := by simp [hlt]
    obtain ⟨b', off, rfl, h1⟩ := hv.at hx
    have hr : ∀ l, rdN (ap τ l) ⟨b', off + k * 5, none⟩ 5 = some (entV L.E[k]) := fun l => rdN_Old (hM.ap.old) h1
    have hb : (0:Int) ≤ (k:Int) ∧ (k:Int) < (L.E.length : Int) := by omega
    have hw' : IntKind.wrap .i64 ((k:Int) + 1) = ((k + 1 : Nat) : Int) := by rw [wrap64 (by omega) (by omega)]; omega
    have hst := split_succ (E0 := L.E) (i := i) (n := n) hlt
    have hlen := split_len (E0 := L.E) (E := L.E) (i := i) (n := n) (k := k) (by omega)
    by_cases hik : (k:Int) = i
    · have hdec : decide ((k:Int) = i) = true := by simpa using hik
      simp only [↓eD0, ↓eD1, eC0, eC1, eC2, eC3, eC4, eC5, eC6, wantedE, ↓reduceIte, Nat.reduceEqDiff, Option.map_some, Option.map_none, reread, List.nil_append, List.cons_append, List.map_cons, List.map_nil, List.length_nil, List.length_cons, Value.cells, List.getElem?_cons_zero, List.getElem?_cons_succ, outE, lks, lkR, rdV, neg1, evs, opt, Nat.reduceAdd, Nat.reduceMul, and_self, reduceCtorEq, List.size_toArray, List.all_cons, List.all_nil, Value.oneCell', List.set_cons_zero, List.set_cons_succ, sets, fillL, Nat.reduceLeDiff, List.drop_succ_cons, List.drop_zero, List.take_succ_cons, List.take_zero, List.toList_toArray, argsE, Array.append_empty, Array.empty_append, List.getElem?_toArray, Int.reduceLT, Int.reduceLE, Int.reduceToNat, Int.reduceEq, Nat.reduceLT, t2, t5, hb, Int.toNat_natCast, hr, entV, hdec]
      refine appK_of slice_lit ?_
      rintro _ _ ⟨e2, rfl⟩
      rw [e2]
      clear e2
      by_cases hk1 : L.E[k].kind = 1
      · by_cases hn1 : 1 ≤ n
        · by_cases hn2 : n < L.E[k].n
          · have hsp : spl i n k L.E[k] = [⟨1, L.E[k].cpu, L.E[k].count, n, ⟨#[]⟩⟩, ⟨1, L.E[k].cpu, IntKind.wrap .i64 (L.E[k].count + n), IntKind.wrap .i64 (L.E[k].n - n), ⟨#[]⟩⟩] := by rw [spl, if_pos ⟨hik, hk1, hn1, hn2⟩]
            simp only [↓eD0, ↓eD1, eC0, eC1, eC2, eC3, eC4, eC5, eC6, wantedE, ↓reduceIte, Nat.reduceEqDiff, Option.map_some, Option.map_none, reread, List.nil_append, List.cons_append, List.map_cons, List.map_nil, List.length_nil, List.length_cons, Value.cells, List.getElem?_cons_zero, List.getElem?_cons_succ, outE, lks, lkR, rdV, neg1, evs, opt, Nat.reduceAdd, Nat.reduceMul, and_self, reduceCtorEq, List.size_toArray, List.all_cons, List.all_nil, Value.oneCell', List.set_cons_zero, List.set_cons_succ, sets, fillL, Nat.reduceLeDiff, List.drop_succ_cons, List.drop_zero, List.take_succ_cons, List.take_zero, List.toList_toArray, argsE, Array.append_empty, Array.empty_append, List.getElem?_toArray, Int.reduceLT, Int.reduceLE, Int.reduceToNat, Int.reduceEq, Nat.reduceLT, t2, t5, hdec, hk1, hn1, hn2]
            obtain ⟨v', τ', ha, hA⟩ := append_grown (σ := ap τ [.cells 1 (entV ⟨1, L.E[k].cpu, L.E[k].count, L.E[k].n, L.E[k].data⟩) (0, 0), .cells 0 (entV ⟨1, L.E[k].cpu, L.E[k].count, n, ⟨#[]⟩⟩ ++ entV ⟨1, L.E[k].cpu, IntKind.wrap .i64 (L.E[k].count + n), IntKind.wrap .i64 (L.E[k].n - n), ⟨#[]⟩⟩) (0, 0)]) (xa := (.slice (some ⟨τ.size + 1, 0, none⟩) 2 2)) (bytes := 48) (m := 2) (new := entV ⟨1, L.E[k].cpu, L.E[k].count, n, ⟨#[]⟩⟩ ++ entV ⟨1, L.E[k].cpu, IntKind.wrap .i64 (L.E[k].count + n), IntKind.wrap .i64 (L.E[k].n - n), ⟨#[]⟩⟩) (hg.old .ap) (by omega) (by rw [sized_size, ap_size]; omega) (by
              simp only [xcells, rdN_ap, List.getElem?_cons_zero, List.getElem?_cons_succ, rdcN_cells]
              rfl) rfl rfl (by omega) (by omega)
            refine onV_of ha ?_
            have hM' := (hM.ap (L := [.cells 1 (entV ⟨1, L.E[k].cpu, L.E[k].count, L.E[k].n, L.E[k].data⟩) (0, 0), .cells 0 (entV ⟨1, L.E[k].cpu, L.E[k].count, n, ⟨#[]⟩⟩ ++ entV ⟨1, L.E[k].cpu, IntKind.wrap .i64 (L.E[k].count + n), IntKind.wrap .i64 (L.E[k].n - n), ⟨#[]⟩⟩) (0, 0)])).app hA (hg.old .ap) (Nat.le_refl _)
            obtain ⟨a', c', rfl⟩ := hA.grown.slice
            obtain ⟨ver', h5'⟩ := hM'.h5
            have hw17 : wrN τ' ⟨σ.size + 2, 17, none⟩ [.slice a' ((splitL L.E i n (L.E.take k)).length + 2) c'] = some (τ'.setIfInBounds (σ.size + 2) (.cells (ver' + 1) (recC L.d L.c (.slice a' ((splitL L.E i n (L.E.take k)).length + 2) c') (.slice none 0 0)) (0, 0))) := by
              rw [wrN_eq, if_neg (by simp), h5', wrc_cells, if_pos ⟨by rw [rec_len hd]; simp, rfl⟩, sets, rec_s17 hd]; rfl
            simp only [↓eD0, ↓eD1, eC0, eC1, eC2, eC3, eC4, eC5, eC6, wantedE, ↓reduceIte, Nat.reduceEqDiff, Option.map_some, Option.map_none, reread, List.nil_append, List.cons_append, List.map_cons, List.map_nil, List.length_nil, List.length_cons, Value.cells, List.getElem?_cons_zero, List.getElem?_cons_succ, outE, lks, lkR, rdV, neg1, evs, opt, Nat.reduceAdd, Nat.reduceMul, and_self, reduceCtorEq, List.size_toArray, List.all_cons, List.all_nil, Value.oneCell', List.set_cons_zero, List.set_cons_succ, sets, fillL, Nat.reduceLeDiff, List.drop_succ_cons, List.drop_zero, List.take_succ_cons, List.take_zero, List.toList_toArray, argsE, Array.append_empty, Array.empty_append, List.getElem?_toArray, Int.reduceLT, Int.reduceLE, Int.reduceToNat, Int.reduceEq, Nat.reduceLT, hw17, hw']
            have g := hA.grown.set (b := σ.size + 2) (k := .cells (ver' + 1) (recC L.d L.c (.slice a' ((splitL L.E i n (L.E.take k)).length + 2) c') (.slice none 0 0)) (0, 0)) (by rw [sized_size]; omega)
            refine ⟨hlt, by omega, _, hM'.set, ?_⟩
            rw [hst, hsp, List.map_append, List.flatten_append, List.length_append]
            first
            | exact ⟨rfl, by simpa using g⟩
            | simpa using g
          · have hsp : spl i n k L.E[k] = [⟨1, L.E[k].cpu, L.E[k].count, L.E[k].n, L.E[k].data⟩] := by rw [spl, if_neg (by omega), ← ent_kind hk1]
            simp only [↓eD0, ↓eD1, eC0, eC1, eC2, eC3, eC4, eC5, eC6, wantedE, ↓reduceIte, Nat.reduceEqDiff, Option.map_some, Option.map_none, reread, List.nil_append, List.cons_append, List.map_cons, List.map_nil, List.length_nil, List.length_cons, Value.cells, List.getElem?_cons_zero, List.getElem?_cons_succ, outE, lks, lkR, rdV, neg1, evs, opt, Nat.reduceAdd, Nat.reduceMul, and_self, reduceCtorEq, List.size_toArray, List.all_cons, List.all_nil, Value.oneCell', List.set_cons_zero, List.set_cons_succ, sets, fillL, Nat.reduceLeDiff, List.drop_succ_cons, List.drop_zero, List.take_succ_cons, List.take_zero, List.toList_toArray, argsE, Array.append_empty, Array.empty_append, List.getElem?_toArray, Int.reduceLT, Int.reduceLE, Int.reduceToNat, Int.reduceEq, Nat.reduceLT, t2, t5, hdec, hk1, hn1, hn2]
            obtain ⟨v', τ', ha, hA⟩ := append_grown (σ := ap τ [.cells 1 (entV ⟨1, L.E[k].cpu, L.E[k].count, L.E[k].n, L.E[k].data⟩) (0, 0), .cells 0 (entV ⟨1, L.E[k].cpu, L.E[k].count, L.E[k].n, L.E[k].data⟩) (0, 0)]) (xa := (.slice (some ⟨τ.size + 1, 0, none⟩) 1 1)) (bytes := 48) (m := 1) (new := entV ⟨1, L.E[k].cpu, L.E[k].count, L.E[k].n, L.E[k].data⟩) (hg.old .ap) (by omega) (by rw [sized_size, ap_size]; omega) (by
              simp only [xcells, rdN_ap, List.getElem?_cons_zero, List.getElem?_cons_succ, rdcN_cells]
              rfl) rfl rfl (by omega) (by omega)
            refine onV_of ha ?_
            have hM' := (hM.ap (L := [.cells 1 (entV ⟨1, L.E[k].cpu, L.E[k].count, L.E[k].n, L.E[k].data⟩) (0, 0), .cells 0 (entV ⟨1, L.E[k].cpu, L.E[k].count, L.E[k].n, L.E[k].data⟩) (0, 0)])).app hA (hg.old .ap) (Nat.le_refl _)
            obtain ⟨a', c', rfl⟩ := hA.grown.slice
            obtain ⟨ver', h5'⟩ := hM'.h5
            have hw17 : wrN τ' ⟨σ.size + 2, 17, none⟩ [.slice a' ((splitL L.E i n (L.E.take k)).length + 1) c'] = some (τ'.setIfInBounds (σ.size + 2) (.cells (ver' + 1) (recC L.d L.c (.slice a' ((splitL L.E i n (L.E.take k)).length + 1) c') (.slice none 0 0)) (0, 0))) := by
              rw [wrN_eq, if_neg (by simp), h5', wrc_cells, if_pos ⟨by rw [rec_len hd]; simp, rfl⟩, sets, rec_s17 hd]; rfl
            simp only [↓eD0, ↓eD1, eC0, eC1, eC2, eC3, eC4, eC5, eC6, wantedE, ↓reduceIte, Nat.reduceEqDiff, Option.map_some, Option.map_none, reread, List.nil_append, List.cons_append, List.map_cons, List.map_nil, List.length_nil, List.length_cons, Value.cells, List.getElem?_cons_zero, List.getElem?_cons_succ, outE, lks, lkR, rdV, neg1, evs, opt, Nat.reduceAdd, Nat.reduceMul, and_self, reduceCtorEq, List.size_toArray, List.all_cons, List.all_nil, Value.oneCell', List.set_cons_zero, List.set_cons_succ, sets, fillL, Nat.reduceLeDiff, List.drop_succ_cons, List.drop_zero, List.take_succ_cons, List.take_zero, List.toList_toArray, argsE, Array.append_empty, Array.empty_append, List.getElem?_toArray, Int.reduceLT, Int.reduceLE, Int.reduceToNat, Int.reduceEq, Nat.reduceLT, hw17, hw']
            have g := hA.grown.set (b := σ.size + 2) (k := .cells (ver' + 1) (recC L.d L.c (.slice a' ((splitL L.E i n (L.E.take k)).length + 1) c') (.slice none 0 0)) (0, 0)) (by rw [sized_size]; omega)
            refine ⟨hlt, by omega, _, hM'.set, ?_⟩
            rw [hst, hsp, List.map_append, List.flatten_append, List.length_append]
            first
            | exact ⟨rfl, by simpa using g⟩
            | simpa using g
        · have hsp : spl i n k L.E[k] = [⟨1, L.E[k].cpu, L.E[k].count, L.E[k].n, L.E[k].data⟩] := by rw [spl, if_neg (by omega), ← ent_kind hk1]
          simp only [↓eD0, ↓eD1, eC0, eC1, eC2, eC3, eC4, eC5, eC6, wantedE, ↓reduceIte, Nat.reduceEqDiff, Option.map_some, Option.map_none, reread, List.nil_append, List.cons_append, List.map_cons, List.map_nil, List.length_nil, List.length_cons, Value.cells, List.getElem?_cons_zero, List.getElem?_cons_succ, outE, lks, lkR, rdV, neg1, evs, opt, Nat.reduceAdd, Nat.reduceMul, and_self, reduceCtorEq, List.size_toArray, List.all_cons, List.all_nil, Value.oneCell', List.set_cons_zero, List.set_cons_succ, sets, fillL, Nat.reduceLeDiff, List.drop_succ_cons, List.drop_zero, List.take_succ_cons, List.take_zero, List.toList_toArray, argsE, Array.append_empty, Array.empty_append, List.getElem?_toArray, Int.reduceLT, Int.reduceLE, Int.reduceToNat, Int.reduceEq, Nat.reduceLT, t2, t5, hdec, hk1, hn1]
          obtain ⟨v', τ', ha, hA⟩ := append_grown (σ := ap τ [.cells 1 (entV ⟨1, L.E[k].cpu, L.E[k].count, L.E[k].n, L.E[k].data⟩) (0, 0), .cells 0 (entV ⟨1, L.E[k].cpu, L.E[k].count, L.E[k].n, L.E[k].data⟩) (0, 0)]) (xa := (.slice (some ⟨τ.size + 1, 0, none⟩) 1 1)) (bytes := 48) (m := 1) (new := entV ⟨1, L.E[k].cpu, L.E[k].count, L.E[k].n, L.E[k].data⟩) (hg.old .ap) (by omega) (by rw [sized_size, ap_size]; omega) (by
            simp only [xcells, rdN_ap, List.getElem?_cons_zero, List.getElem?_cons_succ, rdcN_cells]
            rfl) rfl rfl (by omega) (by omega)
          refine onV_of ha ?_
          have hM' := (hM.ap (L := [.cells 1 (entV ⟨1, L.E[k].cpu, L.E[k].count, L.E[k].n, L.E[k].data⟩) (0, 0), .cells 0 (entV ⟨1, L.E[k].cpu, L.E[k].count, L.E[k].n, L.E[k].data⟩) (0, 0)])).app hA (hg.old .ap) (Nat.le_refl _)
          obtain ⟨a', c', rfl⟩ := hA.grown.slice
          obtain ⟨ver', h5'⟩ := hM'.h5
          have hw17 : wrN τ' ⟨σ.size + 2, 17, none⟩ [.slice a' ((splitL L.E i n (L.E.take k)).length + 1) c'] = some (τ'.setIfInBounds (σ.size + 2) (.cells (ver' + 1) (recC L.d L.c (.slice a' ((splitL L.E i n (L.E.take k)).length + 1) c') (.slice none 0 0)) (0, 0))) := by
            rw [wrN_eq, if_neg (by simp), h5', wrc_cells, if_pos ⟨by rw [rec_len hd]; simp, rfl⟩, sets, rec_s17 hd]; rfl
          simp only [↓eD0, ↓eD1, eC0, eC1, eC2, eC3, eC4, eC5, eC6, wantedE, ↓reduceIte, Nat.reduceEqDiff, Option.map_some, Option.map_none, reread, List.nil_append, List.cons_append, List.map_cons, List.map_nil, List.length_nil, List.length_cons, Value.cells, List.getElem?_cons_zero, List.getElem?_cons_succ, outE, lks, lkR, rdV, neg1, evs, opt, Nat.reduceAdd, Nat.reduceMul, and_self, reduceCtorEq, List.size_toArray, List.all_cons, List.all_nil, Value.oneCell', List.set_cons_zero, List.set_cons_succ, sets, fillL, Nat.reduceLeDiff, List.drop_succ_cons, List.drop_zero, List.take_succ_cons, List.take_zero, List.toList_toArray, argsE, Array.append_empty, Array.empty_append, List.getElem?_toArray, Int.reduceLT, Int.reduceLE, Int.reduceToNat, Int.reduceEq, Nat.reduceLT, hw17, hw']
          have g := hA.grown.set (b := σ.size + 2) (k := .cells (ver' + 1) (recC L.d L.c (.slice a' ((splitL L.E i n (L.E.take k)).length + 1) c') (.slice none 0 0)) (0, 0)) (by rw [sized_size]; omega)
          refine ⟨hlt, by omega, _, hM'.set, ?_⟩
          rw [hst, hsp, List.map_append, List.flatten_append, List.length_append]
          first
          | exact ⟨rfl, by simpa using g⟩
          | simpa using g
      · have hsp : spl i n k L.E[k] = [L.E[k]] := by rw [spl, if_neg (by omega)]
        simp only [↓eD0, ↓eD1, eC0, eC1, eC2, eC3, eC4, eC5, eC6, wantedE, ↓reduceIte, Nat.reduceEqDiff, Option.map_some, Option.map_none, reread, List.nil_append, List.cons_append, List.map_cons, List.map_nil, List.length_nil, List.length_cons, Value.cells, List.getElem?_cons_zero, List.getElem?_cons_succ, outE, lks, lkR, rdV, neg1, evs, opt, Nat.reduceAdd, Nat.reduceMul, and_self, reduceCtorEq, List.size_toArray, List.all_cons, List.all_nil, Value.oneCell', List.set_cons_zero, List.set_cons_succ, sets, fillL, Nat.reduceLeDiff, List.drop_succ_cons, List.drop_zero, List.take_succ_cons, List.take_zero, List.toList_toArray, argsE, Array.append_empty, Array.empty_append, List.getElem?_toArray, Int.reduceLT, Int.reduceLE, Int.reduceToNat, Int.reduceEq, Nat.reduceLT, t2, t5, hdec, hk1]
        obtain ⟨v', τ', ha, hA⟩ := append_grown (σ := ap τ [.cells 1 (entV L.E[k]) (0, 0), .cells 0 (entV L.E[k]) (0, 0)]) (xa := (.slice (some ⟨τ.size + 1, 0, none⟩) 1 1)) (bytes := 48) (m := 1) (new := entV L.E[k]) (hg.old .ap) (by omega) (by rw [sized_size, ap_size]; omega) (by
          simp only [xcells, rdN_ap, List.getElem?_cons_zero, List.getElem?_cons_succ, rdcN_cells]
          rfl) rfl rfl (by omega) (by omega)
        refine onV_of ha ?_
        have hM' := (hM.ap (L := [.cells 1 (entV L.E[k]) (0, 0), .cells 0 (entV L.E[k]) (0, 0)])).app hA (hg.old .ap) (Nat.le_refl _)
        obtain ⟨a', c', rfl⟩ := hA.grown.slice
        obtain ⟨ver', h5'⟩ := hM'.h5
        have hw17 : wrN τ' ⟨σ.size + 2, 17, none⟩ [.slice a' ((splitL L.E i n (L.E.take k)).length + 1) c'] = some (τ'.setIfInBounds (σ.size + 2) (.cells (ver' + 1) (recC L.d L.c (.slice a' ((splitL L.E i n (L.E.take k)).length + 1) c') (.slice none 0 0)) (0, 0))) := by
          rw [wrN_eq, if_neg (by simp), h5', wrc_cells, if_pos ⟨by rw [rec_len hd]; simp, rfl⟩, sets, rec_s17 hd]; rfl
        simp only [↓eD0, ↓eD1, eC0, eC1, eC2, eC3, eC4, eC5, eC6, wantedE, ↓reduceIte, Nat.reduceEqDiff, Option.map_some, Option.map_none, reread, List.nil_append, List.cons_append, List.map_cons, List.map_nil, List.length_nil, List.length_cons, Value.cells, List.getElem?_cons_zero, List.getElem?_cons_succ, outE, lks, lkR, rdV, neg1, evs, opt, Nat.reduceAdd, Nat.reduceMul, and_self, reduceCtorEq, List.size_toArray, List.all_cons, List.all_nil, Value.oneCell', List.set_cons_zero, List.set_cons_succ, sets, fillL, Nat.reduceLeDiff, List.drop_succ_cons, List.drop_zero, List.take_succ_cons, List.take_zero, List.toList_toArray, argsE, Array.append_empty, Array.empty_append, List.getElem?_toArray, Int.reduceLT, Int.reduceLE, Int.reduceToNat, Int.reduceEq, Nat.reduceLT, hw17, hw']
        have g := hA.grown.set (b := σ.size + 2) (k := .cells (ver' + 1) (recC L.d L.c (.slice a' ((splitL L.E i n (L.E.take k)).length + 1) c') (.slice none 0 0)) (0, 0)) (by rw [sized_size]; omega)
        refine ⟨hlt, by omega, _, hM'.set, ?_⟩
        rw [hst, hsp, List.map_append, List.flatten_append, List.length_append]
        first
        | exact ⟨rfl, by simpa using g⟩
        | simpa using g
    · have hdec : decide ((k:Int) = i) = false := by simpa using hik
      have hsp : spl i n k L.E[k] = [L.E[k]] := by rw [spl, if_neg (by omega)]
      simp only [↓eD0, ↓eD1, eC0, eC1, eC2, eC3, eC4, eC5, eC6, wantedE, ↓reduceIte, Nat.reduceEqDiff, Option.map_some, Option.map_none, reread, List.nil_append, List.cons_append, List.map_cons, List.map_nil, List.length_nil, List.length_cons, Value.cells, List.getElem?_cons_zero, List.getElem?_cons_succ, outE, lks, lkR, rdV, neg1, evs, opt, Nat.reduceAdd, Nat.reduceMul, and_self, reduceCtorEq, List.size_toArray, List.all_cons, List.all_nil, Value.oneCell', List.set_cons_zero, List.set_cons_succ, sets, fillL, Nat.reduceLeDiff, List.drop_succ_cons, List.drop_zero, List.take_succ_cons, List.take_zero, List.toList_toArray, argsE, Array.append_empty, Array.empty_append, List.getElem?_toArray, Int.reduceLT, Int.reduceLE, Int.reduceToNat, Int.reduceEq, Nat.reduceLT, t2, t5, hb, Int.toNat_natCast, hr, entV, hdec]
      obtain ⟨v', τ', ha, hA⟩ := append_grown (σ := ap τ [.cells 1 (entV L.E[k]) (0, 0), .cells 0 (entV L.E[k]) (0, 0)]) (xa := (.slice (some ⟨τ.size + 1, 0, none⟩) 1 1)) (bytes := 48) (m := 1) (new := entV L.E[k]) (hg.old .ap) (by omega) (by rw [sized_size, ap_size]; omega) (by
        simp only [xcells, rdN_ap, List.getElem?_cons_zero, List.getElem?_cons_succ, rdcN_cells]
        rfl) rfl rfl (by omega) (by omega)
      refine onV_of ha ?_
      have hM' := (hM.ap (L := [.cells 1 (entV L.E[k]) (0, 0), .cells 0 (entV L.E[k]) (0, 0)])).app hA (hg.old .ap) (Nat.le_refl _)
      obtain ⟨a', c', rfl⟩ := hA.grown.slice
      obtain ⟨ver', h5'⟩ := hM'.h5
      have hw17 : wrN τ' ⟨σ.size + 2, 17, none⟩ [.slice a' ((splitL L.E i n (L.E.take k)).length + 1) c'] = some (τ'.setIfInBounds (σ.size + 2) (.cells (ver' + 1) (recC L.d L.c (.slice a' ((splitL L.E i n (L.E.take k)).length + 1) c') (.slice none 0 0)) (0, 0))) := by
        rw [wrN_eq, if_neg (by simp), h5', wrc_cells, if_pos ⟨by rw [rec_len hd]; simp, rfl⟩, sets, rec_s17 hd]; rfl
      simp only [↓eD0, ↓eD1, eC0, eC1, eC2, eC3, eC4, eC5, eC6, wantedE, ↓reduceIte, Nat.reduceEqDiff, Option.map_some, Option.map_none, reread, List.nil_append, List.cons_append, List.map_cons, List.map_nil, List.length_nil, List.length_cons, Value.cells, List.getElem?_cons_zero, List.getElem?_cons_succ, outE, lks, lkR, rdV, neg1, evs, opt, Nat.reduceAdd, Nat.reduceMul, and_self, reduceCtorEq, List.size_toArray, List.all_cons, List.all_nil, Value.oneCell', List.set_cons_zero, List.set_cons_succ, sets, fillL, Nat.reduceLeDiff, List.drop_succ_cons, List.drop_zero, List.take_succ_cons, List.take_zero, List.toList_toArray, argsE, Array.append_empty, Array.empty_append, List.getElem?_toArray, Int.reduceLT, Int.reduceLE, Int.reduceToNat, Int.reduceEq, Nat.reduceLT, hw17, hw']
      have g := hA.grown.set (b := σ.size + 2) (k := .cells (ver' + 1) (recC L.d L.c (.slice a' ((splitL L.E i n (L.E.take k)).length + 1) c') (.slice none 0 0)) (0, 0)) (by rw [sized_size]; omega)
      refine ⟨hlt, by omega, _, hM'.set, ?_⟩
      rw [hst, hsp, List.map_append, List.flatten_append, List.length_append]
      first
      | exact ⟨rfl, by simpa using g⟩
      | simpa using g
  · have : k = L.E.length := by omega
    subst this
    rw [List.take_length] at hg
    have hlen := split_len (E0 := L.E) (E := L.E) (i := i) (n := n) (k := L.E.length) (by omega)
    rw [List.take_length] at hlen
    have ov := hg.one
    have hb2' := fun L => (hM.ap (L := L)).h4
    obtain ⟨ver', hb3'⟩ := (hM.ap (L := [])).h5
    have r19 : rdN (ap τ []) ⟨σ.size + 2, 0, none⟩ 19 = some (recC L.d L.c v (.slice none 0 0)) := rdN_all hb3' (rec_len hd)
    have w19 : wrN (ap τ []) ⟨σ.size + 1, 0, none⟩ (recC L.d L.c v (.slice none 0 0)) = some ((ap τ []).setIfInBounds (σ.size + 1) (.cells 1 (recC L.d L.c v (.slice none 0 0)) (0, 0))) := by
      rw [wrN_eq, if_neg (by rw [rec_ne]; exact id), hb2', wrc_cells, rec_sets hd rfl, if_pos ⟨by rw [rec_len hd]; exact Nat.le_refl _, rec_oneV ov rfl⟩]; rfl
    have q19 : rdN ((ap τ []).setIfInBounds (σ.size + 1) (.cells 1 (recC L.d L.c v (.slice none 0 0)) (0, 0))) ⟨σ.size + 1, 0, none⟩ 19 = some (recC L.d L.c v (.slice none 0 0)) := rdN_all (get_set (hb2' [])) (rec_len hd)
    simp only [↓eD0, ↓eD1, eC0, eC1, eC2, eC3, eC4, eC5, eC6, wantedE, ↓reduceIte, Nat.reduceEqDiff, Option.map_some, Option.map_none, reread, List.nil_append, List.cons_append, List.map_cons, List.map_nil, List.length_nil, List.length_cons, Value.cells, List.getElem?_cons_zero, List.getElem?_cons_succ, outE, lks, lkR, rdV, neg1, evs, opt, Nat.reduceAdd, Nat.reduceMul, and_self, reduceCtorEq, List.size_toArray, List.all_cons, List.all_nil, Value.oneCell', List.set_cons_zero, List.set_cons_succ, sets, fillL, Nat.reduceLeDiff, List.drop_succ_cons, List.drop_zero, List.take_succ_cons, List.take_zero, List.toList_toArray, argsE, Array.append_empty, Array.empty_append, List.getElem?_toArray, Int.reduceLT, Int.reduceLE, Int.reduceToNat, Int.reduceEq, Nat.reduceLT, r19, rec_len hd, rec_take hd, w19, q19]
    refine ⟨hM.ap.old.set (by omega), _, rfl, ?_, fun sl c h1 h2 => by
      rw [rec17 hd] at h1; injection h1 with h1; subst h1
      have := hg.base h2
      rw [sized_size] at this; omega⟩
    have g := (hg.old (Old.ap (l := []))).set (b := σ.size + 1) (k := .cells 1 (recC L.d L.c v (.slice none 0 0)) (0, 0)) (by rw [sized_size]; omega)
    refine IsLg.mk' hd (Grown.Row (by simpa using g) ?_) ⟨none, 0, rfl, fun i x h => by simp at h⟩ (fun s h => by simp at h) (by show (splitL L.E i n L.E).length < _; omega) (by simp) hg.cap
    intro r hr
    obtain ⟨e, _, rfl⟩ := List.mem_map.1 hr
    rfl
end Go.Proofs.YtljmjkpmkpchoaaDoor

set_option linter.unusedSimpArgs false
set_option maxRecDepth 10000
set_option maxHeartbeats 1000000
namespace Go.Proofs.YtljmjkpmkpchoaaDoor
open Go Go.Cn Go.RowKit

theorem spl_exp {i n : Int} {k : Nat} {e : Ent} (hs : e.kind = 1 → 1 ≤ e.n ∧ e.n ≤ 1099511627776) : (spl i n k e).flatMap expE = expE e := by
  unfold spl
  split
  · rename_i h
    have hs := hs h.2.1
    have w : IntKind.wrap .i64 (e.n - n) = e.n - n := wrap64 (by omega) (by omega)
    simp only [List.flatMap_cons, List.flatMap_nil, List.append_nil, expE, w, h.2.1, if_true]
    rw [List.replicate_append_replicate]
    congr 1
    omega
  · simp
theorem split_take {E0 E : List Ent} {i n : Int} : splitL E0 i n E = splitL E0 i n (E.take E.length) := by rw [List.take_length]
theorem split_exp {E0 E : List Ent} {i n : Int} (hs : Sized E) : exp (splitL E0 i n E) = exp E := by
  have key : ∀ k, k ≤ E.length → exp (splitL E0 i n (E.take k)) = exp (E.take k) := by
    intro k
    induction k with
    | zero => intro _; rfl
    | succ k ih =>
      intro hk
      rw [split_succ (by omega), List.take_succ_eq_append_getElem (by omega), exp_append, exp_append, ih (by omega)]
      congr 1
      show (spl i n k E[k]).flatMap expE = [E[k]].flatMap expE
      rw [spl_exp (hs _ (by simp))]; simp
  have := key E.length (Nat.le_refl _)
  rwa [List.take_length] at this
theorem split_sized {E0 E : List Ent} {i n : Int} (hs : Sized E) : Sized (splitL E0 i n E) := by
  have key : ∀ k, k ≤ E.length → Sized (splitL E0 i n (E.take k)) := by
    intro k
    induction k with
    | zero => intro _ e he; simp [splitL] at he
    | succ k ih =>
      intro hk
      rw [split_succ (by omega)]
      intro e he hk1
      rcases List.mem_append.1 he with he | he
      · exact ih (by omega) e he hk1
      · unfold spl at he
        split at he
        · rename_i h
          have h2 := hs E[k] (by simp) h.2.1
          have w : IntKind.wrap .i64 (E[k].n - n) = E[k].n - n := wrap64 (by omega) (by omega)
          rcases List.mem_cons.1 he with rfl | he
          · simp only; omega
          · simp only [List.mem_cons, List.not_mem_nil, or_false] at he
            subst he
            simp only [w]; omega
        · simp only [List.mem_cons, List.not_mem_nil, or_false] at he
          subst he
          exact hs _ (by simp) hk1
  have := key E.length (Nat.le_refl _)
  rwa [List.take_length] at this

theorem bool_ext {a b : Bool} (h : a = true ↔ b = true) : a = b := by cases a <;> cases b <;> simp_all

theorem law5 {σ : H} {la lb : List Value} {A B : Lg} {i k n m : Int} (ha : RawLg σ la A) (hb : RawLg σ lb B) (hG : Glob σ) (i0 : 0 ≤ i) (i1 : i ≤ 255) (k0 : 0 ≤ k) (k1 : k ≤ 255) (n0 : 0 ≤ n) (n1 : n ≤ 65535) (m0 : 0 ≤ m) (m1 : m ≤ 65535) :
    App Tryd.prog (.func 5) #[] #[.agg la.toArray, .agg lb.toArray, .int .u8 i, .int .u8 k, .int .u16 n, .int .u16 m] σ fun v σ' => Old σ σ' ∧ v = .bool true := by
  refine App.of_sem mixed Tryd.func5 t5 k5 r5 (Nat.le_of_ble_eq_true rfl) ?_
  have la1 := ha.len19
  have lb1 := hb.len19
  have ta : la.take 19 = la := List.take_of_length_le (by omega)
  have tb : lb.take 19 = lb := List.take_of_length_le (by omega)
  unfold s5
  have e0 : ap σ [] = σ := ap_nil
  rw [← e0]
  simp only [↓eD0, ↓eD1, eC0, eC1, eC2, eC3, eC4, eC5, eC6, wantedE, ↓reduceIte, Nat.reduceEqDiff, Option.map_some, Option.map_none, reread, List.nil_append, List.cons_append, List.map_cons, List.map_nil, List.length_nil, List.length_cons, Value.cells, List.getElem?_cons_zero, List.getElem?_cons_succ, outE, lks, lkR, rdV, neg1, evs, opt, Nat.reduceAdd, Nat.reduceMul, and_self, reduceCtorEq, List.size_toArray, List.all_cons, List.all_nil, Value.oneCell', List.set_cons_zero, List.set_cons_succ, sets, fillL, Nat.reduceLeDiff, List.drop_succ_cons, List.drop_zero, List.take_succ_cons, List.take_zero, List.toList_toArray, argsE, Array.append_empty, Array.empty_append, List.getElem?_toArray, Int.reduceLT, Int.reduceLE, Int.reduceToNat, Int.reduceEq, Nat.reduceLT, la1, lb1, ta, tb]
  refine appK_of (few_app (ha.old .ap) (hG.Old .ap)) ?_
  rintro _ _ ⟨e2, rfl⟩
  rw [e2]
  clear e2
  cases fa : fewF A
  · simp only [↓eD0, ↓eD1, eC0, eC1, eC2, eC3, eC4, eC5, eC6, wantedE, ↓reduceIte, Nat.reduceEqDiff, Option.map_some, Option.map_none, reread, List.nil_append, List.cons_append, List.map_cons, List.map_nil, List.length_nil, List.length_cons, Value.cells, List.getElem?_cons_zero, List.getElem?_cons_succ, outE, lks, lkR, rdV, neg1, evs, opt, Nat.reduceAdd, Nat.reduceMul, and_self, reduceCtorEq, List.size_toArray, List.all_cons, List.all_nil, Value.oneCell', List.set_cons_zero, List.set_cons_succ, sets, fillL, Nat.reduceLeDiff, List.drop_succ_cons, List.drop_zero, List.take_succ_cons, List.take_zero, List.toList_toArray, argsE, Array.append_empty, Array.empty_append, List.getElem?_toArray, Int.reduceLT, Int.reduceLE, Int.reduceToNat, Int.reduceEq, Nat.reduceLT, fa, la1, lb1, ta, tb]
    refine appK_of sanity_app ?_
    rintro _ _ ⟨e2, rfl⟩
    rw [e2]
    clear e2
    simp only [↓eD0, ↓eD1, eC0, eC1, eC2, eC3, eC4, eC5, eC6, wantedE, ↓reduceIte, Nat.reduceEqDiff, Option.map_some, Option.map_none, reread, List.nil_append, List.cons_append, List.map_cons, List.map_nil, List.length_nil, List.length_cons, Value.cells, List.getElem?_cons_zero, List.getElem?_cons_succ, outE, lks, lkR, rdV, neg1, evs, opt, Nat.reduceAdd, Nat.reduceMul, and_self, reduceCtorEq, List.size_toArray, List.all_cons, List.all_nil, Value.oneCell', List.set_cons_zero, List.set_cons_succ, sets, fillL, Nat.reduceLeDiff, List.drop_succ_cons, List.drop_zero, List.take_succ_cons, List.take_zero, List.toList_toArray, argsE, Array.append_empty, Array.empty_append, List.getElem?_toArray, Int.reduceLT, Int.reduceLE, Int.reduceToNat, Int.reduceEq, Nat.reduceLT]
    exact .ap
  simp only [↓eD0, ↓eD1, eC0, eC1, eC2, eC3, eC4, eC5, eC6, wantedE, ↓reduceIte, Nat.reduceEqDiff, Option.map_some, Option.map_none, reread, List.nil_append, List.cons_append, List.map_cons, List.map_nil, List.length_nil, List.length_cons, Value.cells, List.getElem?_cons_zero, List.getElem?_cons_succ, outE, lks, lkR, rdV, neg1, evs, opt, Nat.reduceAdd, Nat.reduceMul, and_self, reduceCtorEq, List.size_toArray, List.all_cons, List.all_nil, Value.oneCell', List.set_cons_zero, List.set_cons_succ, sets, fillL, Nat.reduceLeDiff, List.drop_succ_cons, List.drop_zero, List.take_succ_cons, List.take_zero, List.toList_toArray, argsE, Array.append_empty, Array.empty_append, List.getElem?_toArray, Int.reduceLT, Int.reduceLE, Int.reduceToNat, Int.reduceEq, Nat.reduceLT, fa, la1, lb1, ta, tb]
  refine appK_of (few_app (hb.old .ap) (hG.Old .ap)) ?_
  rintro _ _ ⟨e2, rfl⟩
  rw [e2]
  clear e2
  cases fb : fewF B
  · simp only [↓eD0, ↓eD1, eC0, eC1, eC2, eC3, eC4, eC5, eC6, wantedE, ↓reduceIte, Nat.reduceEqDiff, Option.map_some, Option.map_none, reread, List.nil_append, List.cons_append, List.map_cons, List.map_nil, List.length_nil, List.length_cons, Value.cells, List.getElem?_cons_zero, List.getElem?_cons_succ, outE, lks, lkR, rdV, neg1, evs, opt, Nat.reduceAdd, Nat.reduceMul, and_self, reduceCtorEq, List.size_toArray, List.all_cons, List.all_nil, Value.oneCell', List.set_cons_zero, List.set_cons_succ, sets, fillL, Nat.reduceLeDiff, List.drop_succ_cons, List.drop_zero, List.take_succ_cons, List.take_zero, List.toList_toArray, argsE, Array.append_empty, Array.empty_append, List.getElem?_toArray, Int.reduceLT, Int.reduceLE, Int.reduceToNat, Int.reduceEq, Nat.reduceLT, fa, fb, la1, lb1, ta, tb]
    refine appK_of sanity_app ?_
    rintro _ _ ⟨e2, rfl⟩
    rw [e2]
    clear e2
    simp only [↓eD0, ↓eD1, eC0, eC1, eC2, eC3, eC4, eC5, eC6, wantedE, ↓reduceIte, Nat.reduceEqDiff, Option.map_some, Option.map_none, reread, List.nil_append, List.cons_append, List.map_cons, List.map_nil, List.length_nil, List.length_cons, Value.cells, List.getElem?_cons_zero, List.getElem?_cons_succ, outE, lks, lkR, rdV, neg1, evs, opt, Nat.reduceAdd, Nat.reduceMul, and_self, reduceCtorEq, List.size_toArray, List.all_cons, List.all_nil, Value.oneCell', List.set_cons_zero, List.set_cons_succ, sets, fillL, Nat.reduceLeDiff, List.drop_succ_cons, List.drop_zero, List.take_succ_cons, List.take_zero, List.toList_toArray, argsE, Array.append_empty, Array.empty_append, List.getElem?_toArray, Int.reduceLT, Int.reduceLE, Int.reduceToNat, Int.reduceEq, Nat.reduceLT]
    exact .ap
  have sa := few_sized fa
  have sb := few_sized fb
  have hA := ha.small fa
  have hB := hb.small fb
  have wi : IntKind.wrap .i64 i = i := wrap64 (by omega) (by omega)
  have wk : IntKind.wrap .i64 k = k := wrap64 (by omega) (by omega)
  have wn : IntKind.wrap .i64 n = n := wrap64 (by omega) (by omega)
  have wm : IntKind.wrap .i64 m = m := wrap64 (by omega) (by omega)
  simp only [↓eD0, ↓eD1, eC0, eC1, eC2, eC3, eC4, eC5, eC6, wantedE, ↓reduceIte, Nat.reduceEqDiff, Option.map_some, Option.map_none, reread, List.nil_append, List.cons_append, List.map_cons, List.map_nil, List.length_nil, List.length_cons, Value.cells, List.getElem?_cons_zero, List.getElem?_cons_succ, outE, lks, lkR, rdV, neg1, evs, opt, Nat.reduceAdd, Nat.reduceMul, and_self, reduceCtorEq, List.size_toArray, List.all_cons, List.all_nil, Value.oneCell', List.set_cons_zero, List.set_cons_succ, sets, fillL, Nat.reduceLeDiff, List.drop_succ_cons, List.drop_zero, List.take_succ_cons, List.take_zero, List.toList_toArray, argsE, Array.append_empty, Array.empty_append, List.getElem?_toArray, Int.reduceLT, Int.reduceLE, Int.reduceToNat, Int.reduceEq, Nat.reduceLT, fa, fb, la1, lb1, ta, tb, wi, wn]
  refine appK_of (split_app (i := i) (n := n) (hA.Old .ap) (by have := (few_of fa).1; omega)) ?_
  rintro _ τ1 ⟨ho1, lx, rfl, hX, _⟩
  obtain ⟨a1, b1, a2, b2, rfl, _, _, _⟩ := hX.recs
  have hdx := hX.log.d16
  have ho1' : Old σ τ1 := Old.ap.trans ho1
  have p0 := (ho1.2 σ.size (by simp [ap_size])).trans ap_new0
  have p1 := (ho1.2 (σ.size + 1) (by simp [ap_size])).trans ap_new
  have e1 : ap τ1 [] = τ1 := ap_nil
  have y0 := (Array.getElem?_eq_some_iff.1 p0).1
  have y1 := (Array.getElem?_eq_some_iff.1 p1).1
  have rb : ∀ L, rdN (ap τ1 L) ⟨σ.size + 1, 0, none⟩ 19 = some lb := fun L => rdN_all ((ap_old y1).trans p1) lb1
  rw [← e1]
  simp only [↓eD0, ↓eD1, eC0, eC1, eC2, eC3, eC4, eC5, eC6, wantedE, ↓reduceIte, Nat.reduceEqDiff, Option.map_some, Option.map_none, reread, List.nil_append, List.cons_append, List.map_cons, List.map_nil, List.length_nil, List.length_cons, Value.cells, List.getElem?_cons_zero, List.getElem?_cons_succ, outE, lks, lkR, rdV, neg1, evs, opt, Nat.reduceAdd, Nat.reduceMul, and_self, reduceCtorEq, List.size_toArray, List.all_cons, List.all_nil, Value.oneCell', List.set_cons_zero, List.set_cons_succ, sets, fillL, Nat.reduceLeDiff, List.drop_succ_cons, List.drop_zero, List.take_succ_cons, List.take_zero, List.toList_toArray, argsE, Array.append_empty, Array.empty_append, List.getElem?_toArray, Int.reduceLT, Int.reduceLE, Int.reduceToNat, Int.reduceEq, Nat.reduceLT, rec_len hdx, rec_take hdx, rec_sets hdx, rec_one, rec_ne, rb, wk, wm]
  refine appK_of (split_app (i := k) (n := m) (hB.Old (ho1'.trans .ap)) (by have := (few_of fb).1; omega)) ?_
  rintro _ τ2 ⟨ho2, ly, rfl, hY, _⟩
  obtain ⟨a3, b3, a4, b4, rfl, _, _, _⟩ := hY.recs
  have hdy := hY.log.d16
  have ho2' : Old τ1 τ2 := Old.ap.trans ho2
  have q0 := (ho2'.2 _ y0).trans p0
  have q1 := (ho2'.2 _ y1).trans p1
  have q13 := (ho2.2 τ1.size (by simp [ap_size])).trans ap_new0
  have e1 : ap τ2 [] = τ2 := ap_nil
  have z0 := (Array.getElem?_eq_some_iff.1 q0).1
  have z1 := (Array.getElem?_eq_some_iff.1 q1).1
  have z13 := (Array.getElem?_eq_some_iff.1 q13).1
  have sa2 : ∀ L, rdN (ap τ2 L) ⟨σ.size, 0, none⟩ 19 = some la := fun L => rdN_all ((ap_old z0).trans q0) la1
  have sb2 : ∀ L, rdN (ap τ2 L) ⟨σ.size + 1, 0, none⟩ 19 = some lb := fun L => rdN_all ((ap_old z1).trans q1) lb1
  have sx2 : ∀ L, rdN (ap τ2 L) ⟨τ1.size, 0, none⟩ 19 = some (recC (splitF A i n).d (splitF A i n).c (.slice a1 (splitF A i n).E.length b1) (.slice a2 (splitF A i n).S.length b2)) := fun L => rdN_all ((ap_old z13).trans q13) (rec_len hdx)
  rw [← e1]
  simp only [↓eD0, ↓eD1, eC0, eC1, eC2, eC3, eC4, eC5, eC6, wantedE, ↓reduceIte, Nat.reduceEqDiff, Option.map_some, Option.map_none, reread, List.nil_append, List.cons_append, List.map_cons, List.map_nil, List.length_nil, List.length_cons, Value.cells, List.getElem?_cons_zero, List.getElem?_cons_succ, outE, lks, lkR, rdV, neg1, evs, opt, Nat.reduceAdd, Nat.reduceMul, and_self, reduceCtorEq, List.size_toArray, List.all_cons, List.all_nil, Value.oneCell', List.set_cons_zero, List.set_cons_succ, sets, fillL, Nat.reduceLeDiff, List.drop_succ_cons, List.drop_zero, List.take_succ_cons, List.take_zero, List.toList_toArray, argsE, Array.append_empty, Array.empty_append, List.getElem?_toArray, Int.reduceLT, Int.reduceLE, Int.reduceToNat, Int.reduceEq, Nat.reduceLT, rec_len hdy, rec_take hdy, rec_sets hdy, rec_one, rec_ne, sa2, sb2]
  have hAo : ∀ L, IsLg (ap τ2 L) la A := fun L => hA.Old ((ho1'.trans ho2').trans .ap)
  have hBo : ∀ L, IsLg (ap τ2 L) lb B := fun L => hB.Old ((ho1'.trans ho2').trans .ap)
  have hXo : ∀ L, IsLg (ap τ2 L) _ (splitF A i n) := fun L => hX.Old (ho2'.trans .ap)
  have hYo : ∀ L, IsLg (ap τ2 L) _ (splitF B k m) := fun L => hY.Old .ap
  have sx : Sized (splitF A i n).E := split_sized (E0 := A.E) sa
  have sy : Sized (splitF B k m).E := split_sized (E0 := B.E) sb
  have ex : exp (splitF A i n).E = exp A.E := split_exp (E0 := A.E) sa
  have ey : exp (splitF B k m).E = exp B.E := split_exp (E0 := B.E) sb
  have same : (contR A.d A.c A.E B.d B.c B.E).is = (contR (splitF A i n).d (splitF A i n).c (splitF A i n).E (splitF B k m).d (splitF B k m).c (splitF B k m).E).is := by
    refine bool_ext ?_
    rw [contR_is sa sb, contR_is sx sy, ex, ey]
    exact Iff.rfl
  have s1 : sameF A.d A.c A.E (splitF A i n).d (splitF A i n).c (splitF A i n).E = true := by
    rw [sameF, Bool.and_eq_true]
    exact ⟨(contR_is sa sx).2 ⟨rfl, rfl, by rw [ex]; exact List.prefix_refl _⟩, (contR_is sx sa).2 ⟨rfl, rfl, by rw [ex]; exact List.prefix_refl _⟩⟩
  have s2 : sameF (splitF B k m).d (splitF B k m).c (splitF B k m).E B.d B.c B.E = true := by
    rw [sameF, Bool.and_eq_true]
    exact ⟨(contR_is sy sb).2 ⟨rfl, rfl, by rw [ey]; exact List.prefix_refl _⟩, (contR_is sb sy).2 ⟨rfl, rfl, by rw [ey]; exact List.prefix_refl _⟩⟩
  refine appK_of (merge_app (hAo _).log (hBo _).log sa sb) ?_
  rintro _ _ ⟨e2, rfl⟩
  rw [e2]
  clear e2
  obtain ⟨_, _, _, _, _, _, _, _, _, h1⟩ := contV_eq (contR A.d A.c A.E B.d B.c B.E)
  rw [h1]
  simp only [↓eD0, ↓eD1, eC0, eC1, eC2, eC3, eC4, eC5, eC6, wantedE, ↓reduceIte, Nat.reduceEqDiff, Option.map_some, Option.map_none, reread, List.nil_append, List.cons_append, List.map_cons, List.map_nil, List.length_nil, List.length_cons, Value.cells, List.getElem?_cons_zero, List.getElem?_cons_succ, outE, lks, lkR, rdV, neg1, evs, opt, Nat.reduceAdd, Nat.reduceMul, and_self, reduceCtorEq, List.size_toArray, List.all_cons, List.all_nil, Value.oneCell', List.set_cons_zero, List.set_cons_succ, sets, fillL, Nat.reduceLeDiff, List.drop_succ_cons, List.drop_zero, List.take_succ_cons, List.take_zero, List.toList_toArray, argsE, Array.append_empty, Array.empty_append, List.getElem?_toArray, Int.reduceLT, Int.reduceLE, Int.reduceToNat, Int.reduceEq, Nat.reduceLT, sx2, rec_len hdy, rec_take hdy]
  refine appK_of (merge_app (hXo _).log (hYo _).log sx sy) ?_
  rintro _ _ ⟨e2, rfl⟩
  rw [e2]
  clear e2
  obtain ⟨_, _, _, _, _, _, _, _, _, h1⟩ := contV_eq (contR (splitF A i n).d (splitF A i n).c (splitF A i n).E (splitF B k m).d (splitF B k m).c (splitF B k m).E)
  rw [h1, ← same]
  simp only [↓eD0, ↓eD1, eC0, eC1, eC2, eC3, eC4, eC5, eC6, wantedE, ↓reduceIte, Nat.reduceEqDiff, Option.map_some, Option.map_none, reread, List.nil_append, List.cons_append, List.map_cons, List.map_nil, List.length_nil, List.length_cons, Value.cells, List.getElem?_cons_zero, List.getElem?_cons_succ, outE, lks, lkR, rdV, neg1, evs, opt, Nat.reduceAdd, Nat.reduceMul, and_self, reduceCtorEq, List.size_toArray, List.all_cons, List.all_nil, Value.oneCell', List.set_cons_zero, List.set_cons_succ, sets, fillL, Nat.reduceLeDiff, List.drop_succ_cons, List.drop_zero, List.take_succ_cons, List.take_zero, List.toList_toArray, argsE, Array.append_empty, Array.empty_append, List.getElem?_toArray, Int.reduceLT, Int.reduceLE, Int.reduceToNat, Int.reduceEq, Nat.reduceLT, sa2, sb2, sx2]
  refine appK_of sanity_app ?_
  rintro _ _ ⟨e2, rfl⟩
  rw [e2]
  clear e2
  have eb : ∀ b : Bool, decide (b = b) = true := fun b => by simp
  simp only [↓eD0, ↓eD1, eC0, eC1, eC2, eC3, eC4, eC5, eC6, wantedE, ↓reduceIte, Nat.reduceEqDiff, Option.map_some, Option.map_none, reread, List.nil_append, List.cons_append, List.map_cons, List.map_nil, List.length_nil, List.length_cons, Value.cells, List.getElem?_cons_zero, List.getElem?_cons_succ, outE, lks, lkR, rdV, neg1, evs, opt, Nat.reduceAdd, Nat.reduceMul, and_self, reduceCtorEq, List.size_toArray, List.all_cons, List.all_nil, Value.oneCell', List.set_cons_zero, List.set_cons_succ, sets, fillL, Nat.reduceLeDiff, List.drop_succ_cons, List.drop_zero, List.take_succ_cons, List.take_zero, List.toList_toArray, argsE, Array.append_empty, Array.empty_append, List.getElem?_toArray, Int.reduceLT, Int.reduceLE, Int.reduceToNat, Int.reduceEq, Nat.reduceLT, sa2, sb2, sx2, eb]
  refine appK_of (same_app (hAo _).log (hXo _).log sa sx) ?_
  rintro _ _ ⟨e2, rfl⟩
  rw [e2, s1]
  clear e2
  simp only [↓eD0, ↓eD1, eC0, eC1, eC2, eC3, eC4, eC5, eC6, wantedE, ↓reduceIte, Nat.reduceEqDiff, Option.map_some, Option.map_none, reread, List.nil_append, List.cons_append, List.map_cons, List.map_nil, List.length_nil, List.length_cons, Value.cells, List.getElem?_cons_zero, List.getElem?_cons_succ, outE, lks, lkR, rdV, neg1, evs, opt, Nat.reduceAdd, Nat.reduceMul, and_self, reduceCtorEq, List.size_toArray, List.all_cons, List.all_nil, Value.oneCell', List.set_cons_zero, List.set_cons_succ, sets, fillL, Nat.reduceLeDiff, List.drop_succ_cons, List.drop_zero, List.take_succ_cons, List.take_zero, List.toList_toArray, argsE, Array.append_empty, Array.empty_append, List.getElem?_toArray, Int.reduceLT, Int.reduceLE, Int.reduceToNat, Int.reduceEq, Nat.reduceLT, sa2, sb2, sx2, eb, rec_len hdy, rec_take hdy]
  refine appK_of (same_app (hYo _).log (hBo _).log sy sb) ?_
  rintro _ _ ⟨e2, rfl⟩
  rw [e2, s2]
  clear e2
  simp only [↓eD0, ↓eD1, eC0, eC1, eC2, eC3, eC4, eC5, eC6, wantedE, ↓reduceIte, Nat.reduceEqDiff, Option.map_some, Option.map_none, reread, List.nil_append, List.cons_append, List.map_cons, List.map_nil, List.length_nil, List.length_cons, Value.cells, List.getElem?_cons_zero, List.getElem?_cons_succ, outE, lks, lkR, rdV, neg1, evs, opt, Nat.reduceAdd, Nat.reduceMul, and_self, reduceCtorEq, List.size_toArray, List.all_cons, List.all_nil, Value.oneCell', List.set_cons_zero, List.set_cons_succ, sets, fillL, Nat.reduceLeDiff, List.drop_succ_cons, List.drop_zero, List.take_succ_cons, List.take_zero, List.toList_toArray, argsE, Array.append_empty, Array.empty_append, List.getElem?_toArray, Int.reduceLT, Int.reduceLE, Int.reduceToNat, Int.reduceEq, Nat.reduceLT]
  exact (ho1'.trans ho2').trans .ap
end Go.Proofs.YtljmjkpmkpchoaaDoor
