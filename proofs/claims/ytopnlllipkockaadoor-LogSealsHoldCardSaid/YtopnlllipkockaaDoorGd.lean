/- Walks of the functions that the claim reaches. Conditions: none. -/
import Derived.Test.YtopnlllipkockaaDoorGc
set_option linter.all false
set_option linter.unusedSimpArgs false
set_option linter.unusedVariables false
set_option maxRecDepth 10000
set_option maxHeartbeats 4000000
namespace Go.Proofs.YtopnlllipkockaaDoor
open Go Go.Cn Go.RowKit
attribute [local irreducible] evL sem onG onI onV

theorem endF_take {S : List Sea} {i : Nat} (h : i < S.length) : endF (S.take (i + 1)) = S[i].end_ := by
  unfold endF
  rw [List.take_succ_eq_append_getElem h, List.getLast?_append]
  simp
theorem rend_app {σ : H} {l : List Value} {L : Lg} {a1 a2 : Option Addr} {b1 b2 : Nat} (h : LgR σ l L a1 b1 a2 b2) (hm : L.S.length < 2000000000000) :
    App Tryd.prog (.func 57) #[] #[.agg l.toArray] σ fun v σ' => σ' = σ ∧ v = .int .i64 (endF L.S) := by
  refine App.forget (App.of_sem mixed Tryd.func57 t57 k57 r57 (Nat.le_of_ble_eq_true rfl) ?_)
  have hd := h.d
  have hl := h.l
  subst hl
  rw [← ap_nil (σ := σ)]
  unfold s57
  simp only [↓eD0, ↓eD1, eC0, eC1, eC2, eC3, eC4, eC5, eC6, wantedE, ↓reduceIte, Nat.reduceEqDiff, yA, yB, reread, yC, yD, yE, yF, yG, yH, Value.cells, yI, yJ, outE, lks, lkR, rdV, neg1, evs, opt, Nat.reduceAdd, Nat.reduceMul, and_self, reduceCtorEq, yK, yL, yM, Value.oneCell', yN, yO, sets, fillL, Nat.reduceLeDiff, yP, yQ, yR, yS, yT, argsE, yU, yV, yW, Int.reduceLT, Int.reduceLE, Int.reduceToNat, Int.reduceEq, Nat.reduceLT]
  refine loop_for (J := fun i e τ => i ≤ L.S.length ∧ e = [(1, .pointer (some ⟨σ.size, 0, none⟩)), (3, .int .i64 (endF (L.S.take i))), (4, .int .i64 (i : Int))] ∧ τ = ap σ [.cells 0 (recC L.d L.c (.slice a1 L.E.length b1) (.slice a2 L.S.length b2)) (0, 0)]) L.S.length ⟨by omega, rfl, rfl⟩ ?_
  rintro i e τ hi ⟨_, rfl, rfl⟩
  by_cases hlt : i < L.S.length
  · have dl : decide ((i : Int) < (L.S.length : Int)) = true := by rw [decide_eq_true]; omega
    have hbd : (0:Int) ≤ (i:Int) ∧ (i:Int) < (L.S.length : Int) := by omega
    have hw : IntKind.wrap .i64 ((i:Int) + 1) = ((i + 1 : Nat) : Int) := by rw [wrap64' (by omega) (by omega)]; omega
    have hx : (L.S.map seaV)[i]? = some (seaV L.S[i]) := by simp [hlt]
    obtain ⟨b', off, rfl, h3⟩ := h.S.at hx
    have hr : ∀ l, rd1 (ap σ l) ⟨b', off + i * 33, none⟩ = some (.int .i64 L.S[i].end_) := fun l => rd1_row (rdN_old h3) (j := 0) rfl
    have he := endF_take hlt
    simp only [↓eD0, ↓eD1, eC0, eC1, eC2, eC3, eC4, eC5, eC6, wantedE, ↓reduceIte, Nat.reduceEqDiff, yA, yB, reread, yC, yD, yE, yF, yG, yH, Value.cells, yI, yJ, outE, lks, lkR, rdV, neg1, evs, opt, Nat.reduceAdd, Nat.reduceMul, and_self, reduceCtorEq, yK, yL, yM, Value.oneCell', yN, yO, sets, fillL, Nat.reduceLeDiff, yP, yQ, yR, yS, yT, argsE, yU, yV, yW, Int.reduceLT, Int.reduceLE, Int.reduceToNat, Int.reduceEq, Nat.reduceLT, rec18 hd, dl, hbd, Int.toNat_natCast, hr, hw, he, undef_eq]
    exact ⟨hlt, by omega⟩
  · have : i = L.S.length := by omega
    subst this
    have dl : decide ((L.S.length : Int) < (L.S.length : Int)) = false := by rw [decide_eq_false]; omega
    rw [List.take_length]
    simp only [↓eD0, ↓eD1, eC0, eC1, eC2, eC3, eC4, eC5, eC6, wantedE, ↓reduceIte, Nat.reduceEqDiff, yA, yB, reread, yC, yD, yE, yF, yG, yH, Value.cells, yI, yJ, outE, lks, lkR, rdV, neg1, evs, opt, Nat.reduceAdd, Nat.reduceMul, and_self, reduceCtorEq, yK, yL, yM, Value.oneCell', yN, yO, sets, fillL, Nat.reduceLeDiff, yP, yQ, yR, yS, yT, argsE, yU, yV, yW, Int.reduceLT, Int.reduceLE, Int.reduceToNat, Int.reduceEq, Nat.reduceLT, rec18 hd, dl, undef_eq]
    exact ⟨.ap, rfl⟩

/-- The law's own "right": small, and right. -/
def lrightF (L : Lg) : Bool := lfewF L && decide (checkF L = 0)
theorem law_right_app {σ : H} {l : List Value} {L : Lg} {a1 a2 : Option Addr} {b1 b2 : Nat} (h : LgR σ l L a1 b1 a2 b2) (hc : CapOk 5 (.slice a1 L.E.length b1)) (hG : Glob σ) :
    App Tryd.prog (.func 21) #[] #[.agg l.toArray] σ fun v σ' => σ' = σ ∧ v = .bool (lrightF L) := by
  refine App.forget (App.of_sem mixed Tryd.func21 t21 k21 r21 (Nat.le_of_ble_eq_true rfl) ?_)
  have hd := h.d
  have hl := h.l
  subst hl
  rw [← ap_nil (σ := σ)]
  unfold s21
  simp only [↓eD0, ↓eD1, eC0, eC1, eC2, eC3, eC4, eC5, eC6, wantedE, ↓reduceIte, Nat.reduceEqDiff, yA, yB, reread, yC, yD, yE, yF, yG, yH, Value.cells, yI, yJ, outE, lks, lkR, rdV, neg1, evs, opt, Nat.reduceAdd, Nat.reduceMul, and_self, reduceCtorEq, yK, yL, yM, Value.oneCell', yN, yO, sets, fillL, Nat.reduceLeDiff, yP, yQ, yR, yS, yT, argsE, yU, yV, yW, Int.reduceLT, Int.reduceLE, Int.reduceToNat, Int.reduceEq, Nat.reduceLT, rec_len hd, rec_take hd]
  refine appK_of (lfew_app hd rfl (h.E.Old .ap)) ?_
  rintro _ _ ⟨e2, rfl⟩
  rw [e2]
  clear e2
  cases hf : lfewF L with
  | false =>
    have hr : lrightF L = false := by unfold lrightF; rw [hf]; rfl
    simp only [↓eD0, ↓eD1, eC0, eC1, eC2, eC3, eC4, eC5, eC6, wantedE, ↓reduceIte, Nat.reduceEqDiff, yA, yB, reread, yC, yD, yE, yF, yG, yH, Value.cells, yI, yJ, outE, lks, lkR, rdV, neg1, evs, opt, Nat.reduceAdd, Nat.reduceMul, and_self, reduceCtorEq, yK, yL, yM, Value.oneCell', yN, yO, sets, fillL, Nat.reduceLeDiff, yP, yQ, yR, yS, yT, argsE, yU, yV, yW, Int.reduceLT, Int.reduceLE, Int.reduceToNat, Int.reduceEq, Nat.reduceLT, hr, undef_eq]
    exact ⟨.ap, rfl⟩
  | true =>
    obtain ⟨f1, f2, f3⟩ := of_decide_eq_true hf
    simp only [↓eD0, ↓eD1, eC0, eC1, eC2, eC3, eC4, eC5, eC6, wantedE, ↓reduceIte, Nat.reduceEqDiff, yA, yB, reread, yC, yD, yE, yF, yG, yH, Value.cells, yI, yJ, outE, lks, lkR, rdV, neg1, evs, opt, Nat.reduceAdd, Nat.reduceMul, and_self, reduceCtorEq, yK, yL, yM, Value.oneCell', yN, yO, sets, fillL, Nat.reduceLeDiff, yP, yQ, yR, yS, yT, argsE, yU, yV, yW, Int.reduceLT, Int.reduceLE, Int.reduceToNat, Int.reduceEq, Nat.reduceLT, rec_len hd, rec_take hd, undef_eq]
    refine appK_of (check_app ((IsLg.mk' hd h.E h.S h.ok (by omega) (by omega) hc).Old .ap) (hG.Old .ap)) ?_
    rintro _ _ ⟨e2, rfl⟩
    rw [e2]
    clear e2
    have hr : lrightF L = decide (checkF L = 0) := by unfold lrightF; rw [hf]; rfl
    simp only [↓eD0, ↓eD1, eC0, eC1, eC2, eC3, eC4, eC5, eC6, wantedE, ↓reduceIte, Nat.reduceEqDiff, yA, yB, reread, yC, yD, yE, yF, yG, yH, Value.cells, yI, yJ, outE, lks, lkR, rdV, neg1, evs, opt, Nat.reduceAdd, Nat.reduceMul, and_self, reduceCtorEq, yK, yL, yM, Value.oneCell', yN, yO, sets, fillL, Nat.reduceLeDiff, yP, yQ, yR, yS, yT, argsE, yU, yV, yW, Int.reduceLT, Int.reduceLE, Int.reduceToNat, Int.reduceEq, Nat.reduceLT, hr, undef_eq]
    exact ⟨.ap, rfl⟩
end Go.Proofs.YtopnlllipkockaaDoor

set_option linter.unusedSimpArgs false
set_option linter.unusedVariables false
set_option maxRecDepth 10000
set_option maxHeartbeats 1000000
namespace Go.Proofs.YtopnlllipkockaaDoor
open Go Go.Cn Go.RowKit

/-! ### Logs as arguments -/
theorem cellsDig : Tryd.prog.cellsOf 23 = 16 := by kernel_rfl
theorem cellsSeal : Tryd.prog.cellsOf 61 = 16 := by kernel_rfl
theorem cellsEs : Tryd.prog.cellsOf 24 = 1 := by kernel_rfl
theorem cellsSs : Tryd.prog.cellsOf 25 = 1 := by kernel_rfl
theorem cellsLog : Tryd.prog.cellsOf 27 = 19 := by kernel_rfl
theorem cellsEnt : Tryd.prog.cellsOf 29 = 5 := by kernel_rfl
theorem cellsSea : Tryd.prog.cellsOf 63 = 33 := by kernel_rfl
variable {σ : H}
theorem rdi {f : Nat} {cs : List Value} (h : Rd Tryd.prog σ f 3 cs) : ∃ n, cs = [.int .i64 n] ∧ I64 n := by
  obtain ⟨n, h, h1, h2⟩ := rd_int Tryd.underlying3 h
  exact ⟨n, h, h1, by have : n ≤ 9223372036854775807 := h2; omega⟩
theorem rdb {f : Nat} {cs : List Value} (h : Rd Tryd.prog σ f 5 cs) : ∃ n, cs = [.int .u8 n] := by
  obtain ⟨n, h, h1, h2⟩ := rd_int Tryd.underlying5 h
  exact ⟨n, h⟩
theorem dig_of : ∀ {cs : List Value}, (∀ i, i < cs.length → ∃ n, cs[i]? = some (.int .u8 n)) → ∃ d, cs = digC d ∧ d.length = cs.length
  | [], _ => ⟨[], rfl, rfl⟩
  | c :: cs, h => by
    obtain ⟨n, hn⟩ := h 0 (by simp)
    obtain ⟨d, rfl, hd⟩ := dig_of (cs := cs) fun i hi => by
      obtain ⟨m, hm⟩ := h (i + 1) (by simpa using hi)
      exact ⟨m, by simpa using hm⟩
    simp at hn
    exact ⟨n :: d, by simp [digC, hn], by simp [hd]⟩

theorem arr_dig {f : Nat} {cs : List Value} (h1 : cs.length = 16) (h2 : ∀ i, i < 16 → Rd Tryd.prog σ f 5 ((cs.drop (i * 1)).take 1)) : ∃ d, cs = digC d ∧ d.length = 16 := by
  obtain ⟨d, hd, hl⟩ := dig_of (cs := cs) fun i hi => by
    obtain ⟨n, hn⟩ := rdb (h2 i (by omega))
    refine ⟨n, ?_⟩
    have : ((cs.drop (i * 1)).take 1)[0]? = some (.int .u8 n) := by rw [hn]; rfl
    simpa [List.getElem?_take, List.getElem?_drop] using this
  exact ⟨d, hd, hl.trans h1⟩
theorem rd_dig {f : Nat} {cs : List Value} (h : Rd Tryd.prog σ f 23 cs) : ∃ d, cs = digC d ∧ d.length = 16 := by
  cases f with
  | zero => exact h.elim
  | succ f => simp only [Rd, Tryd.underlying23, cellsDig, cellsB] at h; exact arr_dig h.1 h.2
theorem rd_seal {f : Nat} {cs : List Value} (h : Rd Tryd.prog σ f 61 cs) : ∃ d, cs = digC d ∧ d.length = 16 := by
  cases f with
  | zero => exact h.elim
  | succ f => simp only [Rd, Tryd.underlying61, cellsSeal, cellsB] at h; exact arr_dig h.1 h.2
theorem parts5 {cs : List Value} (h : cs.length = 5) : cs = (cs.drop 0).take 1 ++ (cs.drop 1).take 1 ++ (cs.drop 2).take 1 ++ (cs.drop 3).take 1 ++ (cs.drop 4).take 1 := by
  match cs, h with
  | [a, b, c, d, e], _ => rfl
/-- Entries and seals of the machine's numbers. -/
def Ent.raw (e : Ent) : Prop := I64 e.kind ∧ I64 e.cpu ∧ I64 e.count ∧ I64 e.n
theorem rd_ent {f : Nat} {cs : List Value} (h : Rd Tryd.prog σ f 29 cs) : ∃ e : Ent, e.raw ∧ cs = entV e := by
  cases f with
  | zero => exact h.elim
  | succ f =>
    simp only [Rd, Tryd.underlying29, cellsEnt, List.forall_mem_cons, cellsI, cellsS] at h
    obtain ⟨hl, h1, h2, h3, h4, h5, _⟩ := h
    obtain ⟨n1, h1, i1⟩ := rdi h1
    obtain ⟨n2, h2, i2⟩ := rdi h2
    obtain ⟨n3, h3, i3⟩ := rdi h3
    obtain ⟨n4, h4, i4⟩ := rdi h4
    obtain ⟨s, _, h5⟩ := rd_str h5
    refine ⟨⟨n1, n2, n3, n4, s⟩, ⟨i1, i2, i3, i4⟩, ?_⟩
    rw [parts5 hl, h1, h2, h3, h4, h5]
    rfl
theorem rd_sea {f : Nat} {cs : List Value} (h : Rd Tryd.prog σ f 63 cs) : ∃ s : Sea, (s.ok ∧ I64 s.end_) ∧ cs = seaV s := by
  cases f with
  | zero => exact h.elim
  | succ f =>
    simp only [Rd, Tryd.underlying62, Tryd.underlying63, cellsSea, List.forall_mem_cons, cellsI, cellsDig, cellsSeal] at h
    obtain ⟨hl, h1, h2, h3, _⟩ := h
    obtain ⟨n1, h1, i1⟩ := rdi h1
    obtain ⟨d1, h2, l1⟩ := rd_dig h2
    obtain ⟨d2, h3, l2⟩ := rd_seal h3
    refine ⟨⟨n1, d1, d2⟩, ⟨⟨l1, l2⟩, i1⟩, ?_⟩
    have h4 : (cs.drop 17).take 16 = cs.drop 17 := List.take_of_length_le (by simp [hl])
    have h5 : cs = (cs.drop 0).take 1 ++ ((cs.drop 1).take 16 ++ cs.drop 17) := by
      have e1 := List.take_append_drop 1 cs
      have e2 := List.take_append_drop 16 (cs.drop 1)
      rw [List.drop_drop] at e2
      rw [e2]
      simpa using e1.symm
    rw [h5, ← h4, h1, h2, h3]
    rfl

theorem parts19 {cs : List Value} (h : cs.length = 19) : cs = (cs.drop 0).take 16 ++ ((cs.drop 16).take 1 ++ (cs.drop 17).take 1 ++ (cs.drop 18).take 1) := by
  have e1 := List.take_append_drop 16 cs
  have e2 : cs.drop 16 = (cs.drop 16).take 1 ++ (cs.drop 17).take 1 ++ (cs.drop 18).take 1 := by
    have : (cs.drop 16).length = 3 := by simp [h]
    generalize hd : cs.drop 16 = r at this ⊢
    have e17 : cs.drop 17 = r.drop 1 := by rw [← hd, List.drop_drop]
    have e18 : cs.drop 18 = r.drop 2 := by rw [← hd, List.drop_drop]
    rw [e17, e18]
    match r, this with
    | [a, b, c], _ => rfl
  rw [← e2]; simp

/-- A log as an argument. -/
structure LgA (σ : H) (l : List Value) (L : Lg) (a1 : Option Addr) (b1 : Nat) (a2 : Option Addr) (b2 : Nat) : Prop where
  r : LgR σ l L a1 b1 a2 b2
  c : I64 L.c
  e : ∀ e ∈ L.E, e.raw
  s : ∀ s ∈ L.S, I64 s.end_
  cE : CapOk 5 (.slice a1 L.E.length b1)
  cS : CapOk 33 (.slice a2 L.S.length b2)
theorem dat_log {v : Value} (h : Dat Tryd.prog σ 27 v) : ∃ l L a1 b1 a2 b2, v = .agg l.toArray ∧ LgA σ l L a1 b1 a2 b2 := by
  simp only [Dat, Tryd.underlying27] at h
  obtain ⟨cs, f, rfl, h⟩ := h
  cases f with
  | zero => exact h.elim
  | succ f =>
    simp only [Rd, Tryd.underlying27, cellsLog, List.forall_mem_cons, cellsI, cellsDig, cellsEs, cellsSs] at h
    obtain ⟨hl, h1, h2, h3, h4, _⟩ := h
    obtain ⟨d, g1, ld⟩ := rd_dig h1
    obtain ⟨c, g2, ic⟩ := rdi h2
    cases f with
    | zero => exact h3.elim
    | succ f =>
      simp only [Rd, Tryd.underlying24] at h3
      simp only [Rd, Tryd.underlying25] at h4
      obtain ⟨a, ca, E, g3, okE, rE, cE⟩ := rd_slice (V := entV) (ok := Ent.raw) cellsEnt (fun l hl => rd_ent hl) h3
      obtain ⟨a', ca', S, g4, okS, rS, cS⟩ := rd_slice (V := seaV) (ok := fun s => s.ok ∧ I64 s.end_) cellsSea (fun l hl => rd_sea hl) h4
      refine ⟨cs.toList, ⟨d, c, E, S⟩, a, ca, a', ca', by simp, ⟨?_, ld, rE, rS, fun s hs => (okS s hs).1⟩, ic, okE, fun s hs => (okS s hs).2, cE, cS⟩
      rw [parts19 hl, g1, g2, g3, g4]
      rfl
theorem dat_dig {v : Value} (h : Dat Tryd.prog σ 23 v) : ∃ d, v = .agg (digC d).toArray ∧ d.length = 16 := by
  simp only [Dat, Tryd.underlying23] at h
  obtain ⟨cs, f, rfl, h⟩ := h
  obtain ⟨d, h1, h2⟩ := rd_dig h
  exact ⟨d, by rw [← h1], h2⟩
theorem dat_ent {v : Value} (h : Dat Tryd.prog σ 29 v) : ∃ e : Ent, v = .agg (entV e).toArray ∧ e.raw := by
  simp only [Dat, Tryd.underlying29] at h
  obtain ⟨cs, f, rfl, h⟩ := h
  obtain ⟨e, h1, h2⟩ := rd_ent h
  exact ⟨e, by rw [← h2], h1⟩
end Go.Proofs.YtopnlllipkockaaDoor

set_option linter.unusedSimpArgs false
set_option linter.unusedVariables false
set_option maxRecDepth 10000
set_option maxHeartbeats 4000000
namespace Go.Proofs.YtopnlllipkockaaDoor
open Go Go.Cn Go.RowKit
attribute [local irreducible] evL sem onG onI onV

theorem rseal_of_app {σ : H} {key : ByteArray} {d : List Int} {n : Int} (hd : d.length = 16) (hk : key.size < 100000000000) (hG : Glob σ) :
    App Tryd.prog (.func 58) #[] #[.string key, .agg (digC d).toArray, .int .i64 n] σ fun v σ' => σ' = σ ∧ v = .agg (digC (sealF key d n)).toArray := by
  refine App.forget (App.of_sem mixed Tryd.func58 t58 k58 r58 (Nat.le_of_ble_eq_true rfl) ?_)
  unfold s58
  have e0 : ap σ [] = σ := ap_nil
  have hd' := digC_len hd
  have td := digC_take hd
  rw [← e0]
  simp only [↓eD0, ↓eD1, eC0, eC1, eC2, eC3, eC4, eC5, eC6, wantedE, ↓reduceIte, Nat.reduceEqDiff, yA, yB, reread, yC, yD, yE, yF, yG, yH, Value.cells, yI, yJ, outE, lks, lkR, rdV, neg1, evs, opt, Nat.reduceAdd, Nat.reduceMul, and_self, reduceCtorEq, yK, yL, yM, Value.oneCell', yN, yO, sets, fillL, Nat.reduceLeDiff, yP, yQ, yR, yS, yT, argsE, yU, yV, yW, Int.reduceLT, Int.reduceLE, Int.reduceToNat, Int.reduceEq, Nat.reduceLT, hd', td]
  refine appK_of (digs_app hd) ?_
  rintro _ _ ⟨e2, rfl⟩
  rw [e2]
  clear e2
  simp only [↓eD0, ↓eD1, eC0, eC1, eC2, eC3, eC4, eC5, eC6, wantedE, ↓reduceIte, Nat.reduceEqDiff, yA, yB, reread, yC, yD, yE, yF, yG, yH, Value.cells, yI, yJ, outE, lks, lkR, rdV, neg1, evs, opt, Nat.reduceAdd, Nat.reduceMul, and_self, reduceCtorEq, yK, yL, yM, Value.oneCell', yN, yO, sets, fillL, Nat.reduceLeDiff, yP, yQ, yR, yS, yT, argsE, yU, yV, yW, Int.reduceLT, Int.reduceLE, Int.reduceToNat, Int.reduceEq, Nat.reduceLT, hd', td]
  refine appK_of int_app ?_
  rintro v σ1 ⟨ho1, hg1⟩
  obtain ⟨bs, cc, rfl⟩ := hg1.slice
  have e1 : ap σ1 [] = σ1 := ap_nil
  obtain ⟨bk, off, rfl, h2⟩ := (hg1.old (Old.ap (l := []))).whl.at intF_pos
  rw [Nat.mul_one] at h2
  rw [← e1]
  simp only [↓eD0, ↓eD1, eC0, eC1, eC2, eC3, eC4, eC5, eC6, wantedE, ↓reduceIte, Nat.reduceEqDiff, yA, yB, reread, yC, yD, yE, yF, yG, yH, Value.cells, yI, yJ, outE, lks, lkR, rdV, neg1, evs, opt, Nat.reduceAdd, Nat.reduceMul, and_self, reduceCtorEq, yK, yL, yM, Value.oneCell', yN, yO, sets, fillL, Nat.reduceLeDiff, yP, yQ, yR, yS, yT, argsE, yU, yV, yW, Int.reduceLT, Int.reduceLE, Int.reduceToNat, Int.reduceEq, Nat.reduceLT, h2, Option.bind_some, bytesOf_dig, dig_str]
  have hs2 : ∀ s ∈ [key, bytesS d, bytesS (intF n)], s.size < 100000000000 := by
    intro s hs
    have h10 : (intF n).length ≤ 10 := intF_len
    simp only [List.mem_cons, List.not_mem_nil, or_false] at hs
    rcases hs with rfl | rfl | rfl
    · exact hk
    · rw [bytesS_size]; omega
    · rw [bytesS_size]; omega
  refine appK_of (of_app (l := [key, bytesS d, bytesS (intF n)]) (whl_lit (ver := 0) (by rw [ap_new0]; rfl) rfl (by decide)) (by simp) hs2 (hG.Old ((Old.ap.trans ho1).trans .ap))) ?_
  rintro _ _ ⟨e2, rfl⟩
  rw [e2]
  clear e2
  have hz : σ1[σ.size + 1]? = some (.cells 0 (digC (List.replicate 16 0)) (0, 0)) := (ho1.2 _ (by simp [ap_size])).trans (by rw [ap_new]; rfl)
  have hlt : σ.size + 1 < σ1.size := (Array.getElem?_eq_some_iff.1 hz).1
  have hz' : ∀ L, (ap σ1 L)[σ.size + 1]? = some (.cells 0 (digC (List.replicate 16 0)) (0, 0)) := fun L => (ap_old hlt).trans hz
  have hof : ofF 292 [key, bytesS d, bytesS (intF n)] = sealF key d n := by rw [sealF]
  obtain ⟨Q, hQ⟩ : ∃ Q, Q = sealF key d n := ⟨_, rfl⟩
  have lQ : Q.length = 16 := by rw [hQ]; exact sealF_len
  have t16 := digC_take (l := Q) lQ
  have u16 := digC_sets (z := List.replicate 16 0) (l := Q) (by simp [lQ])
  have m16 := digC_ne' (l := Q) lQ (by omega)
  have z16 : (List.replicate 16 (0 : Int)).length = 16 := rfl
  have v16 := digC_sets (z := List.replicate 16 0) (l := List.replicate 16 0) rfl
  have n16 := digC_ne' (l := List.replicate 16 0) z16 (by omega)
  have x16 := digC_take (l := List.replicate 16 0) z16
  rw [hof, ← hQ]
  simp only [↓eD0, ↓eD1, eC0, eC1, eC2, eC3, eC4, eC5, eC6, wantedE, ↓reduceIte, Nat.reduceEqDiff, yA, yB, reread, yC, yD, yE, yF, yG, yH, Value.cells, yI, yJ, outE, lks, lkR, rdV, neg1, evs, opt, Nat.reduceAdd, Nat.reduceMul, and_self, reduceCtorEq, yK, yL, yM, Value.oneCell', yN, yO, sets, fillL, Nat.reduceLeDiff, yP, yQ, yR, yS, yT, argsE, yU, yV, yW, Int.reduceLT, Int.reduceLE, Int.reduceToNat, Int.reduceEq, Nat.reduceLT, digC_rep, digC_length, lQ, t16, u16, m16, digC_one, List.length_replicate, z16, v16, n16, x16]
  obtain ⟨X, hX⟩ : ∃ X : Blk, X = .cells 0 [.string key, .string (bytesS d), .string (bytesS (intF n))] (0, 0) := ⟨_, rfl⟩
  rw [← hX]
  refine loop_for (J := fun i e τ => i ≤ 16 ∧ ∃ ver, e = [(6, .pointer (some ⟨σ.size + 1, 0, none⟩)), (7, .pointer (some ⟨σ1.size + 1, 0, none⟩)), (8, .pointer (some ⟨σ1.size + 2, 0, none⟩)), (9, .int .i64 (i : Int))] ∧ τ = ap σ1 [X, .cells 1 (digC Q) (0, 0), .cells ver (digC (Q.take i ++ List.replicate (16 - i) 0)) (0, 0)]) 16 ⟨by omega, 1, rfl, rfl⟩ ?_
  rintro i e τ hi ⟨_, ver, rfl, rfl⟩
  by_cases h16 : i < 16
  · have c1 : decide ((i : Int) < 16) = true := by rw [decide_eq_true]; omega
    have hbd : (0:Int) ≤ (i:Int) ∧ (i:Int) < ((16 : Nat) : Int) := by omega
    have hw : IntKind.wrap .i64 ((i:Int) + 1) = ((i + 1 : Nat) : Int) := by rw [wrap64' (by omega) (by omega)]; omega
    have hq : i < Q.length := by omega
    have hr : rd1 (ap σ1 [X, .cells 1 (digC Q) (0, 0), .cells ver (digC (Q.take i ++ List.replicate (16 - i) 0)) (0, 0)]) ⟨σ1.size + 1, i, none⟩ = some (.int .u8 Q[i]) := by
      have := rd1_row (rdN_all (σ := ap σ1 [X, .cells 1 (digC Q) (0, 0), .cells ver (digC (Q.take i ++ List.replicate (16 - i) 0)) (0, 0)]) (b := σ1.size + 1) (ver := 1) (cs := digC Q) (fz := (0, 0)) (by rw [ap_new]; rfl) rfl) (j := i) (v := .int .u8 Q[i]) (by simp [digC, hq])
      rwa [Nat.zero_add] at this
    have hnx : (digC (Q.take i ++ List.replicate (16 - i) 0)).set i (.int .u8 Q[i]) = digC (Q.take (i + 1) ++ List.replicate (16 - (i + 1)) 0) := by
      have h16' : 16 - i = (16 - (i + 1)) + 1 := by omega
      rw [h16', List.replicate_succ, List.take_succ_eq_append_getElem hq]
      have lt : (Q.take i).length = i := by rw [List.length_take]; omega
      unfold digC
      rw [List.map_append, List.set_append, if_neg (by rw [List.length_map, lt]; omega), List.length_map, lt, Nat.sub_self, List.map_cons, List.set_cons_zero, List.map_append, List.map_append, List.append_assoc]
      rfl
    have lcs : (digC (Q.take i ++ List.replicate (16 - i) 0)).length = 16 := by rw [digC_length, List.length_append, List.length_take, List.length_replicate]; omega
    have hwr : wrN (ap σ1 [X, .cells 1 (digC Q) (0, 0), .cells ver (digC (Q.take i ++ List.replicate (16 - i) 0)) (0, 0)]) ⟨σ1.size + 2, i, none⟩ [.int .u8 Q[i]] = some (ap σ1 [X, .cells 1 (digC Q) (0, 0), .cells (ver + 1) (digC (Q.take (i + 1) ++ List.replicate (16 - (i + 1)) 0)) (0, 0)]) := by
      rw [wrN_ap, if_neg (by simp)]
      show (wrc (some (.cells ver _ (0, 0))) i _).map _ = _
      rw [wrc_cells, if_pos ⟨by rw [lcs]; show i + 1 ≤ 16; omega, rfl⟩]
      show some (ap σ1 [X, _, .cells (ver + 1) ((digC (Q.take i ++ List.replicate (16 - i) 0)).set i (.int .u8 Q[i])) (0, 0)]) = _
      rw [hnx]
    simp only [↓eD0, ↓eD1, eC0, eC1, eC2, eC3, eC4, eC5, eC6, wantedE, ↓reduceIte, Nat.reduceEqDiff, yA, yB, reread, yC, yD, yE, yF, yG, yH, Value.cells, yI, yJ, outE, lks, lkR, rdV, neg1, evs, opt, Nat.reduceAdd, Nat.reduceMul, and_self, reduceCtorEq, yK, yL, yM, Value.oneCell', yN, yO, sets, fillL, Nat.reduceLeDiff, yP, yQ, yR, yS, yT, argsE, yU, yV, yW, Int.reduceLT, Int.reduceLE, Int.reduceToNat, Int.reduceEq, Nat.reduceLT, c1, hbd, Int.toNat_natCast, Nat.mul_one, Nat.zero_add, hr, hwr, hw, undef_eq]
    exact ⟨h16, by omega, ver + 1, rfl⟩
  have : i = 16 := by omega
  subst this
  have c1 : decide (((16 : Nat) : Int) < 16) = false := rfl
  have hQ16 : Q.take 16 ++ List.replicate (16 - 16) 0 = Q := by rw [List.take_of_length_le (by omega)]; simp
  rw [hQ16]
  have w2 : ∀ L, wrN (ap σ1 L) ⟨σ.size + 1, 0, none⟩ (digC Q) = some ((ap σ1 L).setIfInBounds (σ.size + 1) (.cells 1 (digC Q) (0, 0))) := fun L => ret16 lQ (hz' L)
  have r2 : ∀ L, rdN ((ap σ1 L).setIfInBounds (σ.size + 1) (.cells 1 (digC Q) (0, 0))) ⟨σ.size + 1, 0, none⟩ 16 = some (digC Q) := fun L => rdN_all (get_set (hz' L)) (by rw [digC_length, lQ])
  simp only [↓eD0, ↓eD1, eC0, eC1, eC2, eC3, eC4, eC5, eC6, wantedE, ↓reduceIte, Nat.reduceEqDiff, yA, yB, reread, yC, yD, yE, yF, yG, yH, Value.cells, yI, yJ, outE, lks, lkR, rdV, neg1, evs, opt, Nat.reduceAdd, Nat.reduceMul, and_self, reduceCtorEq, yK, yL, yM, Value.oneCell', yN, yO, sets, fillL, Nat.reduceLeDiff, yP, yQ, yR, yS, yT, argsE, yU, yV, yW, Int.reduceLT, Int.reduceLE, Int.reduceToNat, Int.reduceEq, Nat.reduceLT, c1, digC_length, lQ, t16, w2, r2, undef_eq]
  exact ⟨((Old.ap.trans ho1).trans .ap).set (by omega), flat_dig⟩
end Go.Proofs.YtopnlllipkockaaDoor

set_option linter.unusedSimpArgs false
set_option linter.unusedVariables false
set_option maxRecDepth 10000
set_option maxHeartbeats 4000000
namespace Go.Proofs.YtopnlllipkockaaDoor
open Go Go.Cn Go.RowKit
attribute [local irreducible] evL sem onG onI onV

def filt {α : Type} (p : Nat → α → Bool) (l : List α) : List α := ((l.zipIdx).filter fun q => p q.2 q.1).map (·.1)
theorem filt_take {α : Type} {p : Nat → α → Bool} {l : List α} {i : Nat} (h : i < l.length) : filt p (l.take (i + 1)) = filt p (l.take i) ++ (if p i l[i] = true then [l[i]] else []) := by
  unfold filt
  rw [List.take_succ_eq_append_getElem h, List.zipIdx_append, List.filter_append, List.map_append]
  congr 1
  simp only [List.zipIdx_cons, List.zipIdx_nil, Nat.zero_add, List.length_take, Nat.min_eq_left (Nat.le_of_lt h)]
  by_cases hp : p i l[i] = true <;> simp [hp]
theorem filt_len {α : Type} {p : Nat → α → Bool} {l : List α} : (filt p l).length ≤ l.length := by
  unfold filt
  rw [List.length_map]
  exact Nat.le_trans (List.length_filter_le _ _) (by simp)


theorem filt_ok {p : Nat → Sea → Bool} {S : List Sea} (h : ∀ s ∈ S, s.ok) : ∀ s ∈ filt p S, s.ok := by
  intro s hs
  unfold filt at hs
  obtain ⟨q, hq, rfl⟩ := List.mem_map.1 hs
  have h1 := (List.mem_filter.1 hq).1
  obtain ⟨g1, g2⟩ := List.mem_zipIdx' h1
  exact h _ (g2 ▸ List.getElem_mem g1)


structure Mk (σ τ : H) (l z : List Value) (d : List Int) (c : Int) (v w : Value) : Prop where
  old : Old σ τ
  len : σ.size + 3 ≤ τ.size
  h2 : τ[σ.size]? = some (.cells 0 l (0, 0))
  h4 : τ[σ.size + 1]? = some (.cells 0 z (0, 0))
  h5 : ∃ ver, τ[σ.size + 2]? = some (.cells ver (recC d c v w) (0, 0))

theorem Mk.ap {σ τ : H} {l z : List Value} {d : List Int} {c : Int} {v w : Value} (h : Mk σ τ l z d c v w) {L : List Blk} : Mk σ (ap τ L) l z d c v w :=
  have o : Old τ (Cn.ap τ L) := .ap
  have hl := h.len
  ⟨h.old.trans o, Nat.le_trans hl o.1, (o.2 _ (by omega)).trans h.h2, (o.2 _ (by omega)).trans h.h4, let ⟨ver, h5⟩ := h.h5; ⟨ver, (o.2 _ (by omega)).trans h5⟩⟩

theorem Mk.app {σ τ τ' : H} {l z : List Value} {d : List Int} {c : Int} {v w u u' : Value} {s n n' N : Nat} {cs cs' : List Value} (h : Mk σ τ l z d c v w) (ha : Ap (sized N) τ τ' s u u' cs' n') (hg : Grown (sized N) τ s u cs n) (hN : σ.size + 3 ≤ N) : Mk σ τ' l z d c v w :=
  have hl := h.len
  have q : ∀ c, c < σ.size + 3 → c < (sized N).size := fun c hc => by rw [sized_size]; omega
  ⟨ha.Old' hg (by rw [sized_size]; omega) h.old, Nat.le_trans hl ha.size, ha.low hg (q _ (by omega)) h.h2, ha.low hg (q _ (by omega)) h.h4, let ⟨ver, h5⟩ := h.h5; ⟨ver, ha.low hg (q _ (by omega)) h5⟩⟩

theorem Mk.set {σ τ : H} {l z : List Value} {d : List Int} {c : Int} {v w v' w' : Value} (h : Mk σ τ l z d c v w) {ver : Nat} : Mk σ (τ.setIfInBounds (σ.size + 2) (.cells ver (recC d c v' w') (0, 0))) l z d c v' w' :=
  let ⟨_, h5⟩ := h.h5
  ⟨h.old.set (by omega), by simpa using h.len, (get_set_ne (by omega)).trans h.h2, (get_set_ne (by omega)).trans h.h4, ver, get_set h5⟩


theorem sets21 {x : List Value} (hx : x.length = 21) : sets [.int .u8 0, .int .u8 0, .int .u8 0, .int .u8 0, .int .u8 0, .int .u8 0, .int .u8 0, .int .u8 0, .int .u8 0, .int .u8 0, .int .u8 0, .int .u8 0, .int .u8 0, .int .u8 0, .int .u8 0, .int .u8 0, .int .i64 0, .slice none 0 0, .slice none 0 0, .int .i64 0, .int .i64 0] 0 x = x := by
  rw [sets_all (by rw [hx]; decide), hx, List.drop_eq_nil_of_le (by decide)]
  simp

def rd21 : List Value := [.int .u8 0, .int .u8 0, .int .u8 0, .int .u8 0, .int .u8 0, .int .u8 0, .int .u8 0, .int .u8 0, .int .u8 0, .int .u8 0, .int .u8 0, .int .u8 0, .int .u8 0, .int .u8 0, .int .u8 0, .int .u8 0, .int .i64 0, .slice none 0 0, .slice none 0 0, .int .i64 0, .int .i64 0]

/-- Cut. -/
def rcutF (L : Lg) (n : Int) : Lg × Int :=
  if n < 0 ∨ (L.E.length : Int) < n then (.zero, 1)
  else (⟨L.d, L.c, L.E.take n.toNat, filt (fun _ s => decide (s.end_ ≤ n)) L.S⟩, 0)

theorem rcut_app {σ : H} {l : List Value} {L : Lg} {n : Int} (h : IsLg σ l L) :
    App Tryd.prog (.func 30) #[] #[.agg l.toArray, .int .i64 n] σ fun v σ' => Old σ σ' ∧ ∃ l', v = .agg (l' ++ [Value.int .i64 0, Value.int .i64 (rcutF L n).2]).toArray ∧ IsLg σ' l' (rcutF L n).1 ∧ ∀ ρ, IsLg ρ l L → IsLog ρ l' (rcutF L n).1.d (rcutF L n).1.c (rcutF L n).1.E := by
  refine App.of_sem mixed Tryd.func30 t30 k30 r30 (Nat.le_of_ble_eq_true rfl) ?_
  obtain ⟨a1, b1, a2, b2, rfl, hv, hw, hcap⟩ := h.recs
  have hd := h.log.d16
  have e0 : ap σ [] = σ := ap_nil
  rw [← e0]
  unfold s30
  simp only [↓eD0, ↓eD1, eC0, eC1, eC2, eC3, eC4, eC5, eC6, wantedE, ↓reduceIte, Nat.reduceEqDiff, yA, yB, reread, yC, yD, yE, yF, yG, yH, Value.cells, yI, yJ, outE, lks, lkR, rdV, neg1, evs, opt, Nat.reduceAdd, Nat.reduceMul, and_self, reduceCtorEq, yK, yL, yM, Value.oneCell', yN, yO, sets, fillL, Nat.reduceLeDiff, yP, yQ, yR, yS, yT, argsE, yU, yV, yW, Int.reduceLT, Int.reduceLE, Int.reduceToNat, Int.reduceEq, Nat.reduceLT, rec17 hd]
  by_cases h0 : n < 0
  · simp only [↓eD0, ↓eD1, eC0, eC1, eC2, eC3, eC4, eC5, eC6, wantedE, ↓reduceIte, Nat.reduceEqDiff, yA, yB, reread, yC, yD, yE, yF, yG, yH, Value.cells, yI, yJ, outE, lks, lkR, rdV, neg1, evs, opt, Nat.reduceAdd, Nat.reduceMul, and_self, reduceCtorEq, yK, yL, yM, Value.oneCell', yN, yO, sets, fillL, Nat.reduceLeDiff, yP, yQ, yR, yS, yT, argsE, yU, yV, yW, Int.reduceLT, Int.reduceLE, Int.reduceToNat, Int.reduceEq, Nat.reduceLT, h0, rec17 hd]
    exact ⟨.ap, zeroL, by simp [rcutF, h0, zeroL], by simp only [rcutF, h0, true_or, if_true]; exact ⟨isLg_zero, fun _ _ => isLg_zero.log⟩⟩
  · by_cases h1 : (L.E.length : Int) < n
    · simp only [↓eD0, ↓eD1, eC0, eC1, eC2, eC3, eC4, eC5, eC6, wantedE, ↓reduceIte, Nat.reduceEqDiff, yA, yB, reread, yC, yD, yE, yF, yG, yH, Value.cells, yI, yJ, outE, lks, lkR, rdV, neg1, evs, opt, Nat.reduceAdd, Nat.reduceMul, and_self, reduceCtorEq, yK, yL, yM, Value.oneCell', yN, yO, sets, fillL, Nat.reduceLeDiff, yP, yQ, yR, yS, yT, argsE, yU, yV, yW, Int.reduceLT, Int.reduceLE, Int.reduceToNat, Int.reduceEq, Nat.reduceLT, h0, h1, rec17 hd]
      exact ⟨.ap, zeroL, by simp [rcutF, h0, h1, zeroL], by simp only [rcutF, h1, or_true, if_true]; exact ⟨isLg_zero, fun _ _ => isLg_zero.log⟩⟩
    · obtain ⟨k, rfl⟩ : ∃ k : Nat, n = k := ⟨n.toNat, by omega⟩
      obtain ⟨v', hsl, hpre, hpc⟩ := hv.pre hcap (i := k) (by omega)
      have hdr : rcutF L k = (⟨L.d, L.c, L.E.take k, filt (fun _ s => decide (s.end_ ≤ (k : Int))) L.S⟩, 0) := by
        unfold rcutF; rw [if_neg (by omega), Int.toNat_natCast]
      have ov : v'.oneCell' = true := by obtain ⟨_, _, _, rfl, _⟩ := hpc; rfl
      obtain ⟨a3, n3, b3, rfl, _⟩ := id hpc
      simp only [↓eD0, ↓eD1, eC0, eC1, eC2, eC3, eC4, eC5, eC6, wantedE, ↓reduceIte, Nat.reduceEqDiff, yA, yB, reread, yC, yD, yE, yF, yG, yH, Value.cells, yI, yJ, outE, lks, lkR, rdV, neg1, evs, opt, Nat.reduceAdd, Nat.reduceMul, and_self, reduceCtorEq, yK, yL, yM, Value.oneCell', yN, yO, sets, fillL, Nat.reduceLeDiff, yP, yQ, yR, yS, yT, argsE, yU, yV, yW, Int.reduceLT, Int.reduceLE, Int.reduceToNat, Int.reduceEq, Nat.reduceLT, h0, h1, rec16 hd, rec17 hd, rec_len hd, rec_take16 hd, digC_len hd, rec_build hd, rec_s16 hd, rec_s17 hd, rec_take hd, rec_sets hd, rec_one, rec_ne, hsl]
      generalize hvv : Value.slice a3 n3 b3 = v at hsl hpre hpc ov ⊢
      have hM : Mk σ (ap σ [.cells 0 (recC L.d L.c (.slice a1 L.E.length b1) (.slice a2 L.S.length b2)) (0, 0), .cells 0 rd21 (0, 0), .cells 1 (recC L.d L.c v (.slice none 0 0)) (0, 0)]) (recC L.d L.c (.slice a1 L.E.length b1) (.slice a2 L.S.length b2)) rd21 L.d L.c v (.slice none 0 0) :=
        ⟨.ap, by simp [ap_size], ap_new0, ap_new, 1, ap_new⟩
      obtain ⟨N, hN⟩ : ∃ N, N = σ.size + 3 := ⟨_, rfl⟩
      have hM0 : σ.size + 3 ≤ N := by omega
      refine loop_for (J := fun i e τ => i ≤ L.S.length ∧ ∃ w', Mk σ τ (recC L.d L.c (.slice a1 L.E.length b1) (.slice a2 L.S.length b2)) rd21 L.d L.c v w' ∧
        e = [(1, .int .i64 k), (2, .pointer (some ⟨σ.size, 0, none⟩)), (4, .pointer (some ⟨σ.size + 1, 0, none⟩)), (5, .pointer (some ⟨σ.size + 2, 0, none⟩)), (6, .int .i64 i)] ∧ N ≤ τ.size ∧
        Grown (sized N) τ 33 w' ((filt (fun _ s => decide (s.end_ ≤ (k : Int))) (L.S.take i)).map seaV).flatten (filt (fun _ s => decide (s.end_ ≤ (k : Int))) (L.S.take i)).length) L.S.length
        ⟨by omega, _, hM, rfl, by rw [hN, ap_size]; simp, .nil⟩ ?_
      clear hM
      rintro i e τ hi ⟨_, w', hM, rfl, hNτ, hg⟩
      obtain ⟨ver, h5⟩ := hM.h5
      have e1 : ap τ [] = τ := ap_nil
      have t2 : ∀ l, rd1 (ap τ l) ⟨σ.size, 18, none⟩ = some (.slice a2 L.S.length b2) := fun l => by rw [rd1_eq, hM.ap.h2, rdc1_cells, rec18 hd]
      have t5 : ∀ l, rd1 (ap τ l) ⟨σ.size + 2, 18, none⟩ = some w' := fun l => by obtain ⟨_, h5⟩ := (hM.ap (L := l)).h5; rw [rd1_eq, h5, rdc1_cells, rec18 hd]
      rw [← e1]
      simp only [↓eD0, ↓eD1, eC0, eC1, eC2, eC3, eC4, eC5, eC6, wantedE, ↓reduceIte, Nat.reduceEqDiff, yA, yB, reread, yC, yD, yE, yF, yG, yH, Value.cells, yI, yJ, outE, lks, lkR, rdV, neg1, evs, opt, Nat.reduceAdd, Nat.reduceMul, and_self, reduceCtorEq, yK, yL, yM, Value.oneCell', yN, yO, sets, fillL, Nat.reduceLeDiff, yP, yQ, yR, yS, yT, argsE, yU, yV, yW, Int.reduceLT, Int.reduceLE, Int.reduceToNat, Int.reduceEq, Nat.reduceLT, t2, t5]
      refine onI_dec (fun hlt => ?_) (fun hge => ?_)
      · have hlt : i < L.S.length := by simpa using hlt
        have hx : (L.S.map seaV)[i]? = some (seaV L.S[i]) := by simp [hlt]
        obtain ⟨c2, off2, rfl, h1⟩ := hw.at hx
        have hr : ∀ l, rdN (ap τ l) ⟨c2, off2 + i * 33, none⟩ 33 = some (seaV L.S[i]) := fun l => rdN_Old (hM.ap.old) h1
        have hr1 : ∀ l, rd1 (ap τ l) ⟨c2, off2 + i * 33, none⟩ = some (.int .i64 L.S[i].end_) := fun l => rd1_row (hr l) (j := 0) rfl
        have hb : (0:Int) ≤ (i:Int) ∧ (i:Int) < (L.S.length : Int) := by omega
        have hlS := h.fewS
        have hw' : IntKind.wrap .i64 ((i:Int) + 1) = ((i + 1 : Nat) : Int) := by rw [wrap64 (by omega) (by omega)]; omega
        have ht := filt_take (p := fun _ s => decide (s.end_ ≤ (k : Int))) hlt
        have hsl := seaV_len (h.ok L.S[i] (by simp))
        have hso := seaV_one (s := L.S[i])
        have hsf : ∀ z : List Value, z.length = 33 → sets z 0 (seaV L.S[i]) = seaV L.S[i] := fun z hz => by
          rw [sets_all (by omega)]; simp [hsl, hz]
        have hst : (seaV L.S[i]).take 33 = seaV L.S[i] := List.take_of_length_le (by omega)
        have hne : seaV L.S[i] ≠ [] := by simp [seaV]
        by_cases hik : L.S[i].end_ ≤ (k:Int)
        · have hdec : decide (L.S[i].end_ ≤ (k:Int)) = true := by simpa using hik
          simp only [↓eD0, ↓eD1, eC0, eC1, eC2, eC3, eC4, eC5, eC6, wantedE, ↓reduceIte, Nat.reduceEqDiff, yA, yB, reread, yC, yD, yE, yF, yG, yH, Value.cells, yI, yJ, outE, lks, lkR, rdV, neg1, evs, opt, Nat.reduceAdd, Nat.reduceMul, and_self, reduceCtorEq, yK, yL, yM, Value.oneCell', yN, yO, sets, fillL, Nat.reduceLeDiff, yP, yQ, yR, yS, yT, argsE, yU, yV, yW, Int.reduceLT, Int.reduceLE, Int.reduceToNat, Int.reduceEq, Nat.reduceLT, t2, t5, hdec, hb, Int.toNat_natCast, hr, hr1, hsl, hso, hsf, hst, hne]
          have hl : (filt (fun _ s => decide (s.end_ ≤ (k : Int))) (L.S.take i)).length ≤ i := Nat.le_trans filt_len (by simp; omega)
          obtain ⟨v', τ', ha, hA⟩ := append_grown (σ := ap τ [.cells 0 (seaV L.S[i]) (0, 0)]) (xa := .slice (some ⟨τ.size, 0, none⟩) 1 1) (bytes := 40) (m := 1) (new := seaV L.S[i]) (hg.old .ap) (by omega) (by rw [sized_size, ap_size]; omega) (by
            show (rdN (ap τ _) ⟨τ.size, 0, none⟩ (1 * 33)).map (1, ·) = _
            simp only [rdN_ap0, List.getElem?_cons_zero, rdcN_cells, hsl]
            simp [hst]) hsl hso (by omega) (by omega)
          refine onV_of ha ?_
          have hM' := (hM.ap (L := [.cells 0 (seaV L.S[i]) (0, 0)])).app hA (hg.old .ap) hM0
          obtain ⟨a', c', rfl⟩ := hA.grown.slice
          obtain ⟨ver', h5'⟩ := hM'.h5
          simp only [↓eD0, ↓eD1, eC0, eC1, eC2, eC3, eC4, eC5, eC6, wantedE, ↓reduceIte, Nat.reduceEqDiff, yA, yB, reread, yC, yD, yE, yF, yG, yH, Value.cells, yI, yJ, outE, lks, lkR, rdV, neg1, evs, opt, Nat.reduceAdd, Nat.reduceMul, and_self, reduceCtorEq, yK, yL, yM, Value.oneCell', yN, yO, sets, fillL, Nat.reduceLeDiff, yP, yQ, yR, yS, yT, argsE, yU, yV, yW, Int.reduceLT, Int.reduceLE, Int.reduceToNat, Int.reduceEq, Nat.reduceLT, wrN_eq, h5', rec_len hd, rec_s18 hd, hw']
          have g := hA.grown.set (b := σ.size + 2) (k := .cells (ver' + 1) (recC L.d L.c v (.slice a' ((filt (fun _ s => decide (s.end_ ≤ (k : Int))) (L.S.take i)).length + 1) c')) (0, 0)) (by rw [sized_size]; omega)
          have g4 := hA.size
          rw [ht, if_pos hdec, List.map_append, List.flatten_append, List.length_append]
          have g5 : N ≤ (τ'.setIfInBounds (σ.size + 2) (.cells (ver' + 1) (recC L.d L.c v (.slice a' ((filt (fun _ s => decide (s.end_ ≤ (k : Int))) (L.S.take i)).length + 1) c')) (0, 0))).size := by
            rw [ap_size] at g4; simp only [Array.size_setIfInBounds]; omega
          refine ⟨hlt, by omega, _, hM'.set, ?_⟩
          first
          | exact ⟨rfl, g5, by simpa using g⟩
          | exact ⟨g5, by simpa using g⟩
        · have hdec : decide (L.S[i].end_ ≤ (k:Int)) = false := by simpa using hik
          simp only [↓eD0, ↓eD1, eC0, eC1, eC2, eC3, eC4, eC5, eC6, wantedE, ↓reduceIte, Nat.reduceEqDiff, yA, yB, reread, yC, yD, yE, yF, yG, yH, Value.cells, yI, yJ, outE, lks, lkR, rdV, neg1, evs, opt, Nat.reduceAdd, Nat.reduceMul, and_self, reduceCtorEq, yK, yL, yM, Value.oneCell', yN, yO, sets, fillL, Nat.reduceLeDiff, yP, yQ, yR, yS, yT, argsE, yU, yV, yW, Int.reduceLT, Int.reduceLE, Int.reduceToNat, Int.reduceEq, Nat.reduceLT, t2, t5, hdec, hb, Int.toNat_natCast, hr1, hw']
          rw [ht, if_neg (by simp [hdec]), List.append_nil]
          have g5 : N ≤ (ap τ []).size := by rw [ap_size]; omega
          refine ⟨hlt, by omega, _, hM.ap, ?_⟩
          first
          | exact ⟨rfl, g5, hg.old .ap⟩
          | exact ⟨g5, hg.old .ap⟩
      · have : i = L.S.length := by omega
        subst this
        have h2' := (hM.ap (L := [])).h4
        obtain ⟨_, h5'⟩ := (hM.ap (L := [])).h5
        rw [List.take_length] at hg
        have ow := hg.one
        have hz : (rd21 : List Value).length = 21 := rfl
        have hal : (recC L.d L.c v w' ++ [Value.int .i64 0, Value.int .i64 0]).all Value.oneCell' = true := by rw [List.all_append, rec_oneV ov ow]; rfl
        have hl21 : (recC L.d L.c v w' ++ [Value.int .i64 0, Value.int .i64 0]).length = 21 := by simp [rec_len hd]
        have hs21 : sets rd21 0 (recC L.d L.c v w' ++ [Value.int .i64 0, Value.int .i64 0]) = recC L.d L.c v w' ++ [Value.int .i64 0, Value.int .i64 0] := by
          rw [sets_all (by simp [hl21, hz]), hl21]; simp [rd21]
        have ht21 : (recC L.d L.c v w' ++ [Value.int .i64 0, Value.int .i64 0]).take 21 = recC L.d L.c v w' ++ [Value.int .i64 0, Value.int .i64 0] := List.take_of_length_le (by omega)
        have gb : ∀ k, ((ap τ []).setIfInBounds (σ.size + 1) k)[σ.size + 1]? = some k := fun k => get_set h2'
        simp only [↓eD0, ↓eD1, eC0, eC1, eC2, eC3, eC4, eC5, eC6, wantedE, ↓reduceIte, Nat.reduceEqDiff, yA, yB, reread, yC, yD, yE, yF, yG, yH, Value.cells, yI, yJ, outE, lks, lkR, rdV, neg1, evs, opt, Nat.reduceAdd, Nat.reduceMul, and_self, reduceCtorEq, yK, yL, yM, Value.oneCell', yN, yO, sets, fillL, Nat.reduceLeDiff, yP, yQ, yR, yS, yT, argsE, yU, yV, yW, Int.reduceLT, Int.reduceLE, Int.reduceToNat, Int.reduceEq, Nat.reduceLT, rd1_eq, wrN_eq, rdN_eq, h2', h5', rec_len hd, rec_take hd, rec_sets21 hd, hal, hl21, hs21, hz, rec_ne1, gb, ht21]
        refine ⟨hM.ap.old.set (by omega), recC L.d L.c v w', by rw [hdr], ?_⟩
        rw [hdr]
        have fS : (filt (fun _ (s : Sea) => decide (s.end_ ≤ (k : Int))) L.S).length ≤ L.S.length := filt_len
        have := h.fewE
        have := h.fewS
        have hok := filt_ok (p := fun _ s => decide (s.end_ ≤ (k : Int))) h.ok
        refine ⟨IsLg.mk' hd ?_ ?_ hok (by simp; omega) (by omega) hpc, fun ρ hρ => ⟨rec_len hd, rec_take16 hd, hd, rec16 hd, ⟨v, rec17 hd, ?_⟩, by simp; omega⟩⟩
        rotate_right
        · obtain ⟨sl, h17, hrow⟩ := hρ.log.ents
          rw [rec17 hd] at h17
          injection h17 with h17
          subst h17
          obtain ⟨v2, hsl2, hpre2, _⟩ := hrow.pre hcap (i := k) (by omega)
          rw [hsl] at hsl2
          injection hsl2 with hsl2
          subst hsl2
          rw [List.map_take]; exact hpre2
        · rw [List.map_take]; exact hpre.Old (hM.ap.old.set (by omega))
        · have g1 := (hg.old (Old.ap (l := []))).set (b := σ.size + 1) (k := .cells 1 (recC L.d L.c v w' ++ [Value.int .i64 0, Value.int .i64 0]) (0, 0)) (by rw [sized_size]; omega)
          refine Grown.Row (by simpa using g1) ?_
          intro r hr
          obtain ⟨e, he, rfl⟩ := List.mem_map.1 hr
          exact seaV_len (hok e he)

end Go.Proofs.YtopnlllipkockaaDoor

set_option linter.unusedSimpArgs false
set_option linter.unusedVariables false
set_option maxRecDepth 10000
set_option maxHeartbeats 4000000
namespace Go.Proofs.YtopnlllipkockaaDoor
open Go Go.Cn Go.RowKit
attribute [local irreducible] evL sem onG onI onV

/-! ### The specification's Append -/
theorem allS_append : ∀ {a b : List (Option Value)} {x y : List Value}, allS a = some x → allS b = some y → allS (a ++ b) = some (x ++ y)
  | [], b, x, y, h1, h2 => by simp only [allS, Option.some.injEq] at h1; subst h1; simpa using h2
  | none :: a, b, x, y, h1, h2 => by cases h1
  | some u :: a, b, x, y, h1, h2 => by
    simp only [allS, Option.map_eq_some_iff] at h1
    obtain ⟨x', g1, rfl⟩ := h1
    simp only [List.cons_append, allS, allS_append g1 h2, Option.map_some]
theorem rdN_add {σ : H} {b o m k : Nat} {x y : List Value} (h1 : rdN σ ⟨b, o, none⟩ m = some x) (h2 : rdN σ ⟨b, o + m, none⟩ k = some y) : rdN σ ⟨b, o, none⟩ (m + k) = some (x ++ y) := by
  by_cases hm : m = 0
  · subst hm
    rw [rdN_eq, if_pos rfl] at h1
    injection h1 with h1
    subst h1
    simpa using h2
  by_cases hk : k = 0
  · subst hk
    rw [rdN_eq, if_pos rfl] at h2
    injection h2 with h2
    subst h2
    simpa using h1
  rw [rdN_eq, if_neg hm] at h1
  rw [rdN_eq, if_neg hk] at h2
  rw [rdN_eq, if_neg (by omega)]
  simp only at h1 h2 ⊢
  generalize σ[b]? = q at h1 h2 ⊢
  cases q with
  | none => cases h1
  | some q =>
    cases q with
    | cells v cs fz =>
      simp only [rdcN] at h1 h2 ⊢
      split at h1
      · split at h2
        · injection h1 with h1
          injection h2 with h2
          subst h1 h2
          rw [if_pos (by omega), List.take_add, List.drop_drop]
        · cases h2
      · cases h1
    | part cs =>
      simp only [rdcN] at h1 h2 ⊢
      split at h1
      · split at h2
        · rw [if_pos (by omega), List.take_add, List.drop_drop]
          exact allS_append h1 h2
        · cases h2
      · cases h1
    | _ => cases h1
theorem rows_read {σ : H} {s b o : Nat} {xs : List (List Value)} (h : ∀ (i : Nat) (x : List Value), xs[i]? = some x → rdN σ ⟨b, o + i * s, none⟩ s = some x) : ∀ n, n ≤ xs.length → rdN σ ⟨b, o, none⟩ (n * s) = some (xs.take n).flatten
  | 0, _ => by simp [rdN_eq]
  | n + 1, hn => by
    have ih := rows_read h n (by omega)
    have h1 := h n xs[n] (by simp)
    have e : (xs.take (n + 1)).flatten = (xs.take n).flatten ++ xs[n] := by rw [List.take_succ_eq_append_getElem (by omega), List.flatten_append]; simp
    rw [Nat.add_mul, Nat.one_mul, rdN_add ih h1, e]
theorem row_xcells {σ : H} {s : Nat} {v : Value} {xs : List (List Value)} (h : Row σ s v xs) : xcells σ s v = some (xs.length, xs.flatten) := by
  obtain ⟨base, cap, rfl, h2⟩ := h
  cases xs with
  | nil =>
    cases base with
    | none => simp [xcells]
    | some a => simp [xcells, rdN_eq]
  | cons x r =>
    obtain ⟨b, off, rfl, _⟩ := h2 0 x rfl
    have := rows_read (σ := σ) (s := s) (b := b) (o := off) (xs := x :: r) (fun i y hy => by
      obtain ⟨b', off', hb, hr⟩ := h2 i y hy
      injection hb with hb
      injection hb with hb1 hb2 hb3
      subst hb1 hb2
      exact hr) (x :: r).length (Nat.le_refl _)
    simp only [xcells, this, Option.map_some, List.take_length]
theorem entV_rows {E : List Ent} : ∀ r ∈ E.map entV, r.length = 5 := by
  intro r hr
  obtain ⟨x, _, rfl⟩ := List.mem_map.1 hr
  rfl
theorem entV_ones {E : List Ent} : ((E.map entV).flatten).all Value.oneCell' = true := by
  rw [List.all_eq_true]
  intro v hv
  obtain ⟨r, hr, hv⟩ := List.mem_flatten.1 hv
  obtain ⟨c, _, rfl⟩ := List.mem_map.1 hr
  simp only [entV, List.mem_cons, List.not_mem_nil, or_false] at hv
  rcases hv with rfl | rfl | rfl | rfl | rfl <;> rfl
theorem seaV_rows {S : List Sea} (h : ∀ s ∈ S, s.ok) : ∀ r ∈ S.map seaV, r.length = 33 := by
  intro r hr
  obtain ⟨x, hx, rfl⟩ := List.mem_map.1 hr
  exact seaV_len (h x hx)
theorem seaV_ones {S : List Sea} : ((S.map seaV).flatten).all Value.oneCell' = true := by
  rw [List.all_eq_true]
  intro v hv
  obtain ⟨r, hr, hv⟩ := List.mem_flatten.1 hv
  obtain ⟨c, _, rfl⟩ := List.mem_map.1 hr
  exact List.all_eq_true.1 seaV_one v hv

section
variable {d : List Int} (hd : d.length = 16) {c : Int} {v w x y z : Value}
include hd
theorem r21_len : (recC d c v w ++ [y, z]).length = 21 := by simp [rec_len hd]
theorem r21_take : (recC d c v w ++ [y, z]).take 21 = recC d c v w ++ [y, z] := List.take_of_length_le (by rw [r21_len hd]; omega)
theorem r21_s19 : (recC d c v w ++ [y, z]).set 19 x = recC d c v w ++ [x, z] := by rw [List.set_append, if_neg (by rw [rec_len hd]; omega), rec_len hd]; rfl
theorem r21_s20 : (recC d c v w ++ [y, z]).set 20 x = recC d c v w ++ [y, x] := by rw [List.set_append, if_neg (by rw [rec_len hd]; omega), rec_len hd]; rfl
theorem r21_sets : sets rd21 0 (recC d c v w ++ [y, z]) = recC d c v w ++ [y, z] := sets21 (r21_len hd)
theorem r21_b : sets rd21 0 (recC d c v w) = recC d c v w ++ [.int .i64 0, .int .i64 0] := rec_sets21 hd
/-- The answer of 21 cells. -/
theorem ret21 {θ : H} {b : Nat} {a1 a2 : Option Addr} {n1 n2 c1 c2 : Nat} {i j : Int} (h : θ[b]? = some (.cells 0 rd21 (0, 0))) :
    wrN θ ⟨b, 0, none⟩ (recC d c (.slice a1 n1 c1) (.slice a2 n2 c2) ++ [.int .i64 i, .int .i64 j]) = some (θ.setIfInBounds b (.cells 1 (recC d c (.slice a1 n1 c1) (.slice a2 n2 c2) ++ [.int .i64 i, .int .i64 j]) (0, 0))) := by
  have lz : rd21.length = 21 := rfl
  rw [wrN_eq, if_neg (by rw [rec_ne1]; exact id), h, wrc_cells, if_pos ⟨by rw [r21_len hd, lz]; show 0 + 21 ≤ 21; omega, rec_one2⟩, r21_sets hd]
  rfl
end

theorem rappend_app {σ : H} {l : List Value} {L : Lg} {a1 a2 : Option Addr} {b1 b2 : Nat} {e : Ent} (h : LgR σ l L a1 b1 a2 b2) (hn : L.E.length < 2000000000000) :
    App Tryd.prog (.func 27) #[] #[.agg l.toArray, .agg (entV e).toArray] σ fun v σ' => Old σ σ' ∧ ∃ l' a1' b1', v = .agg (l' ++ [Value.int .i64 0, Value.int .i64 (appF L e).2]).toArray ∧ LgR σ' l' (appF L e).1 a1' b1' a2 b2 := by
  refine App.of_sem mixed Tryd.func27 t27 k27 r27 (Nat.le_of_ble_eq_true rfl) ?_
  have hd := h.d
  have hl := h.l
  subst hl
  rw [← ap_nil (σ := σ)]
  unfold s27
  have z21 : ∀ v w y z, (recC L.d L.c v w ++ [y, z]).length = 21 := fun v w y z => r21_len hd
  have s21 : ∀ v w y z, sets [.int .u8 0, .int .u8 0, .int .u8 0, .int .u8 0, .int .u8 0, .int .u8 0, .int .u8 0, .int .u8 0, .int .u8 0, .int .u8 0, .int .u8 0, .int .u8 0, .int .u8 0, .int .u8 0, .int .u8 0, .int .u8 0, .int .i64 0, .slice none 0 0, .slice none 0 0, .int .i64 0, .int .i64 0] 0 (recC L.d L.c v w ++ [y, z]) = recC L.d L.c v w ++ [y, z] := fun v w y z => r21_sets hd
  by_cases hm : 4096 ≤ L.E.length
  · have dn : decide ((4096 : Int) ≤ (L.E.length : Int)) = true := by rw [decide_eq_true]; omega
    have hf : appF L e = (L, 2) := if_pos hm
    simp only [↓eD0, ↓eD1, eC0, eC1, eC2, eC3, eC4, eC5, eC6, wantedE, ↓reduceIte, Nat.reduceEqDiff, yA, yB, reread, yC, yD, yE, yF, yG, yH, Value.cells, yI, yJ, outE, lks, lkR, rdV, neg1, evs, opt, Nat.reduceAdd, Nat.reduceMul, and_self, reduceCtorEq, yK, yL, yM, Value.oneCell', yN, yO, sets, fillL, Nat.reduceLeDiff, yP, yQ, yR, yS, yT, argsE, yU, yV, yW, Int.reduceLT, Int.reduceLE, Int.reduceToNat, Int.reduceEq, Nat.reduceLT, entV, rec17 hd, dn, rec_len hd, rec_take hd, rec_sets21 hd, r21_s20 hd, r21_take hd, z21, s21, rec_one2, rec_ne1, undef_eq, hf]
    rw [ap_nil]
    exact ⟨.ap, _, a1, b1, rfl, h.Old .ap⟩
  have dn : decide ((4096 : Int) ≤ (L.E.length : Int)) = false := by rw [decide_eq_false]; omega
  simp only [↓eD0, ↓eD1, eC0, eC1, eC2, eC3, eC4, eC5, eC6, wantedE, ↓reduceIte, Nat.reduceEqDiff, yA, yB, reread, yC, yD, yE, yF, yG, yH, Value.cells, yI, yJ, outE, lks, lkR, rdV, neg1, evs, opt, Nat.reduceAdd, Nat.reduceMul, and_self, reduceCtorEq, yK, yL, yM, Value.oneCell', yN, yO, sets, fillL, Nat.reduceLeDiff, yP, yQ, yR, yS, yT, argsE, yU, yV, yW, Int.reduceLT, Int.reduceLE, Int.reduceToNat, Int.reduceEq, Nat.reduceLT, entV, rec16 hd, rec17 hd, dn, undef_eq]
  refine appK_of (right_app (e := e)) ?_
  rintro _ _ ⟨e2, rfl⟩
  rw [e2]
  clear e2
  by_cases hr : rightF e L.c = true
  case neg =>
    have hr' : rightF e L.c = false := by simpa using hr
    have hf : appF L e = (L, 3) := by
      unfold appF
      rw [if_neg hm, if_neg]
      intro h
      exact hr (of_decide_eq_true h).1
    simp only [↓eD0, ↓eD1, eC0, eC1, eC2, eC3, eC4, eC5, eC6, wantedE, ↓reduceIte, Nat.reduceEqDiff, yA, yB, reread, yC, yD, yE, yF, yG, yH, Value.cells, yI, yJ, outE, lks, lkR, rdV, neg1, evs, opt, Nat.reduceAdd, Nat.reduceMul, and_self, reduceCtorEq, yK, yL, yM, Value.oneCell', yN, yO, sets, fillL, Nat.reduceLeDiff, yP, yQ, yR, yS, yT, argsE, yU, yV, yW, Int.reduceLT, Int.reduceLE, Int.reduceToNat, Int.reduceEq, Nat.reduceLT, hr', Bool.not_false, rec_len hd, rec_take hd, rec_sets21 hd, r21_s20 hd, r21_take hd, z21, s21, rec_one2, rec_ne1, undef_eq, hf]
    rw [ap_nil]
    exact ⟨.ap, _, a1, b1, rfl, h.Old .ap⟩
  simp only [↓eD0, ↓eD1, eC0, eC1, eC2, eC3, eC4, eC5, eC6, wantedE, ↓reduceIte, Nat.reduceEqDiff, yA, yB, reread, yC, yD, yE, yF, yG, yH, Value.cells, yI, yJ, outE, lks, lkR, rdV, neg1, evs, opt, Nat.reduceAdd, Nat.reduceMul, and_self, reduceCtorEq, yK, yL, yM, Value.oneCell', yN, yO, sets, fillL, Nat.reduceLeDiff, yP, yQ, yR, yS, yT, argsE, yU, yV, yW, Int.reduceLT, Int.reduceLE, Int.reduceToNat, Int.reduceEq, Nat.reduceLT, hr, Bool.not_true, rec17 hd, undef_eq]
  refine appK_of (count_app (h.E.Old .ap) (by omega)) ?_
  rintro _ _ ⟨e2, rfl⟩
  rw [e2]
  clear e2
  by_cases hq : e.count = countF L.E e.cpu
  case neg =>
    have hf : appF L e = (L, 3) := by
      unfold appF
      rw [if_neg hm, if_neg]
      intro h
      exact hq (of_decide_eq_true h).2
    have dq : decide (e.count = countF L.E e.cpu) = false := decide_eq_false hq
    simp only [↓eD0, ↓eD1, eC0, eC1, eC2, eC3, eC4, eC5, eC6, wantedE, ↓reduceIte, Nat.reduceEqDiff, yA, yB, reread, yC, yD, yE, yF, yG, yH, Value.cells, yI, yJ, outE, lks, lkR, rdV, neg1, evs, opt, Nat.reduceAdd, Nat.reduceMul, and_self, reduceCtorEq, yK, yL, yM, Value.oneCell', yN, yO, sets, fillL, Nat.reduceLeDiff, yP, yQ, yR, yS, yT, argsE, yU, yV, yW, Int.reduceLT, Int.reduceLE, Int.reduceToNat, Int.reduceEq, Nat.reduceLT, dq, Bool.not_false, rec_len hd, rec_take hd, rec_sets21 hd, r21_s20 hd, r21_take hd, z21, s21, rec_one2, rec_ne1, undef_eq, hf]
    rw [ap_nil]
    exact ⟨.ap, _, a1, b1, rfl, h.Old .ap⟩
  have hf : appF L e = (⟨L.d, L.c, L.E ++ [e], L.S⟩, 0) := by
    unfold appF
    rw [if_neg hm, if_pos (show appOk L e = true from decide_eq_true ⟨hr, hq⟩)]
  have dq : decide (e.count = countF L.E e.cpu) = true := decide_eq_true hq
  simp only [↓eD0, ↓eD1, eC0, eC1, eC2, eC3, eC4, eC5, eC6, wantedE, ↓reduceIte, Nat.reduceEqDiff, yA, yB, reread, yC, yD, yE, yF, yG, yH, Value.cells, yI, yJ, outE, lks, lkR, rdV, neg1, evs, opt, Nat.reduceAdd, Nat.reduceMul, and_self, reduceCtorEq, yK, yL, yM, Value.oneCell', yN, yO, sets, fillL, Nat.reduceLeDiff, yP, yQ, yR, yS, yT, argsE, yU, yV, yW, Int.reduceLT, Int.reduceLE, Int.reduceToNat, Int.reduceEq, Nat.reduceLT, dq, Bool.not_true, rec17 hd, undef_eq]
  have z21' : rd21 = [.int .u8 0, .int .u8 0, .int .u8 0, .int .u8 0, .int .u8 0, .int .u8 0, .int .u8 0, .int .u8 0, .int .u8 0, .int .u8 0, .int .u8 0, .int .u8 0, .int .u8 0, .int .u8 0, .int .u8 0, .int .u8 0, .int .i64 0, .slice none 0 0, .slice none 0 0, .int .i64 0, .int .i64 0] := rfl
  have e5 : entV e = [.int .i64 e.kind, .int .i64 e.cpu, .int .i64 e.count, .int .i64 e.n, .string e.data] := rfl
  rw [← z21', ← e5]
  generalize hT : ap σ [.cells 0 (recC L.d L.c (.slice a1 L.E.length b1) (.slice a2 L.S.length b2)) (0, 0), .cells 0 (entV e) (0, 0), .cells 0 rd21 (0, 0), .cells 0 [] (0, 0), .cells 0 (entV e) (0, 0)] = T
  have hoT : Old σ T := by rw [← hT]; exact .ap
  have hsT : T.size = σ.size + 5 := by rw [← hT]; simp [ap_size]
  have q0 : T[σ.size]? = some (.cells 0 (recC L.d L.c (.slice a1 L.E.length b1) (.slice a2 L.S.length b2)) (0, 0)) := by rw [← hT, ap_new0]; rfl
  have q1 : T[σ.size + 1]? = some (.cells 0 (entV e) (0, 0)) := by rw [← hT, ap_new]; rfl
  have q2 : T[σ.size + 2]? = some (.cells 0 rd21 (0, 0)) := by rw [← hT, ap_new]; rfl
  have q3 : T[σ.size + 3]? = some (.cells 0 [] (0, 0)) := by rw [← hT, ap_new]; rfl
  have q4 : T[σ.size + 4]? = some (.cells 0 (entV e) (0, 0)) := by rw [← hT, ap_new]; rfl
  have hss : (sized (σ.size + 3)).size = σ.size + 3 := sized_size
  have g0 : Grown (sized (σ.size + 3)) T 5 (.slice (some ⟨σ.size + 3, 0, none⟩) 0 0) [] 0 := Grown.lit rfl (by decide) (by rw [hss]; omega) q3
  have x1 := row_xcells (h.E.Old hoT)
  rw [List.length_map] at x1
  obtain ⟨v1, τ1, ha1, A1⟩ := append_grown (bytes := 48) g0 (by omega) (by rw [hss]; omega) x1 (by rw [flatten_length entV_rows]; simp) entV_ones (by omega) (by omega)
  simp only [Nat.zero_add, List.nil_append] at A1
  refine onV_of ha1 ?_
  have hs1 := A1.size
  have ho1 : Old σ τ1 := A1.Old' g0 (by rw [hss]; omega) hoT
  have p0 := A1.low g0 (by rw [hss]; omega) q0
  have p1 := rdN_all (A1.low g0 (by rw [hss]; omega) q1) (show (entV e).length = 5 from rfl)
  have p2 := A1.low g0 (by rw [hss]; omega) q2
  have p4 := A1.frame _ _ q4 (by simp [baseOf])
  obtain ⟨v2, τ2, ha2, A2⟩ := append_grown (bytes := 48) (m := 1) (new := entV e) (xa := .slice (some ⟨σ.size + 4, 0, none⟩) 1 1) A1.grown (by omega) (by rw [hss]; omega) (by show (rdN τ1 ⟨σ.size + 4, 0, none⟩ 5).map (1, ·) = _; rw [rdN_all (n := 5) p4 rfl]; rfl) rfl (by rfl) (by omega) (by omega)
  have hs2 := A2.size
  have ho2 : Old σ τ2 := A2.Old' A1.grown (by rw [hss]; omega) ho1
  have k0 := A2.low A1.grown (by rw [hss]; omega) p0
  have k2 := A2.low A1.grown (by rw [hss]; omega) p2
  simp only [↓eD0, ↓eD1, eC0, eC1, eC2, eC3, eC4, eC5, eC6, wantedE, ↓reduceIte, Nat.reduceEqDiff, yA, yB, reread, yC, yD, yE, yF, yG, yH, Value.cells, yI, yJ, outE, lks, lkR, rdV, neg1, evs, opt, Nat.reduceAdd, Nat.reduceMul, and_self, reduceCtorEq, yK, yL, yM, Value.oneCell', yN, yO, sets, fillL, Nat.reduceLeDiff, yP, yQ, yR, yS, yT, argsE, yU, yV, yW, Int.reduceLT, Int.reduceLE, Int.reduceToNat, Int.reduceEq, Nat.reduceLT, p1, undef_eq]
  refine onV_of ha2 ?_
  obtain ⟨bs, cp, rfl⟩ := A2.grown.slice
  have rc17 : ∀ v, (recC L.d L.c (.slice a1 L.E.length b1) (.slice a2 L.S.length b2)).set 17 v = recC L.d L.c v (.slice a2 L.S.length b2) := fun v => rec_s17 hd
  have w17 : wrN τ2 ⟨σ.size, 17, none⟩ [.slice bs (L.E.length + 1) cp] = some (τ2.setIfInBounds σ.size (.cells 1 (recC L.d L.c (.slice bs (L.E.length + 1) cp) (.slice a2 L.S.length b2)) (0, 0))) := by
    rw [wrN_eq, if_neg (by simp), k0, wrc_cells, if_pos ⟨by rw [rec_len hd]; show 17 + 1 ≤ 19; omega, rfl⟩]
    show some (τ2.setIfInBounds σ.size (.cells 1 ((recC L.d L.c (.slice a1 L.E.length b1) (.slice a2 L.S.length b2)).set 17 _) (0, 0))) = _
    rw [rc17]
  have j0 := get_set (k := .cells 1 (recC L.d L.c (.slice bs (L.E.length + 1) cp) (.slice a2 L.S.length b2)) (0, 0)) k0
  have j2 : (τ2.setIfInBounds σ.size (.cells 1 (recC L.d L.c (.slice bs (L.E.length + 1) cp) (.slice a2 L.S.length b2)) (0, 0)))[σ.size + 2]? = some (.cells 0 rd21 (0, 0)) := (get_set_ne (by omega)).trans k2
  have r0 := rdN_all j0 (rec_len hd)
  have w2 := ret21 hd (c := L.c) (a1 := bs) (n1 := L.E.length + 1) (c1 := cp) (a2 := a2) (n2 := L.S.length) (c2 := b2) (i := 0) (j := 0) j2
  have r2 := rdN_all (get_set (k := .cells 1 (recC L.d L.c (.slice bs (L.E.length + 1) cp) (.slice a2 L.S.length b2) ++ [.int .i64 0, .int .i64 0]) (0, 0)) j2) (r21_len hd)
  have l21 : rd21.length = 21 := rfl
  simp only [↓eD0, ↓eD1, eC0, eC1, eC2, eC3, eC4, eC5, eC6, wantedE, ↓reduceIte, Nat.reduceEqDiff, yA, yB, reread, yC, yD, yE, yF, yG, yH, Value.cells, yI, yJ, outE, lks, lkR, rdV, neg1, evs, opt, Nat.reduceAdd, Nat.reduceMul, and_self, reduceCtorEq, yK, yL, yM, Value.oneCell', yN, yO, sets, fillL, Nat.reduceLeDiff, yP, yQ, yR, yS, yT, argsE, yU, yV, yW, Int.reduceLT, Int.reduceLE, Int.reduceToNat, Int.reduceEq, Nat.reduceLT, w17, r0, rec_len hd, rec_take hd, r21_b hd, l21, r21_take hd, z21, w2, r2, undef_eq]
  rw [ap_nil, hf]
  have O := ((ho2.set (b := σ.size) (k := .cells 1 (recC L.d L.c (.slice bs (L.E.length + 1) cp) (.slice a2 L.S.length b2)) (0, 0)) (Nat.le_refl _)).set (b := σ.size + 2) (k := .cells 1 (recC L.d L.c (.slice bs (L.E.length + 1) cp) (.slice a2 L.S.length b2) ++ [.int .i64 0, .int .i64 0]) (0, 0)) (by omega))
  have hlen : (L.E ++ [e]).length = L.E.length + 1 := by simp
  have G := (A2.grown.set (b := σ.size) (k := .cells 1 (recC L.d L.c (.slice bs (L.E.length + 1) cp) (.slice a2 L.S.length b2)) (0, 0)) (by rw [hss]; omega)).set (b := σ.size + 2) (k := .cells 1 (recC L.d L.c (.slice bs (L.E.length + 1) cp) (.slice a2 L.S.length b2) ++ [.int .i64 0, .int .i64 0]) (0, 0)) (by rw [hss]; omega)
  refine ⟨O, recC L.d L.c (.slice bs (L.E.length + 1) cp) (.slice a2 L.S.length b2), bs, cp, rfl, ⟨by simp only [hlen], hd, ?_, h.S.Old O, h.ok⟩⟩
  simp only [hlen]
  have hfl : ((L.E ++ [e]).map entV).flatten = (L.E.map entV).flatten ++ entV e := by simp
  have hml : ((L.E ++ [e]).map entV).length = L.E.length + 1 := by simp
  rw [← hfl, ← hml] at G
  have := Grown.Row G entV_rows
  rwa [hml] at this
end Go.Proofs.YtopnlllipkockaaDoor

set_option linter.unusedSimpArgs false
set_option linter.unusedVariables false
set_option maxRecDepth 10000
set_option maxHeartbeats 4000000
namespace Go.Proofs.YtopnlllipkockaaDoor
open Go Go.Cn Go.RowKit
attribute [local irreducible] evL sem onG onI onV

/-! ### The specification's Seal -/
theorem rd21_1 {j : Int} : rd21.set 20 (.int .i64 j) = zeroL ++ [.int .i64 0, .int .i64 j] := rfl
theorem rd21_one {j k : Int} : (zeroL ++ [Value.int .i64 k, .int .i64 j]).all Value.oneCell' = true := by rw [List.all_append]; rfl
theorem zr {θ : H} : LgR θ zeroL Lg.zero none 0 none 0 := ⟨rfl, rfl, ⟨none, 0, rfl, fun i x h => by simp [Lg.zero] at h⟩, ⟨none, 0, rfl, fun i x h => by simp [Lg.zero] at h⟩, fun s h => by simp [Lg.zero] at h⟩
theorem rseal_app {σ : H} {l : List Value} {L : Lg} {a1 a2 : Option Addr} {b1 b2 : Nat} {key : ByteArray} (h : LgV σ l L a1 b1 a2 b2) (hk : key.size < 100000000000) (hG : Glob σ) :
    App Tryd.prog (.func 28) #[] #[.agg l.toArray, .string key] σ fun v σ' => Old σ σ' ∧ ∃ l' a1' b1' a2' b2', v = .agg (l' ++ [Value.int .i64 0, Value.int .i64 (sealS L key).2]).toArray ∧ LgR σ' l' (sealS L key).1 a1' b1' a2' b2' := by
  refine App.of_sem mixed Tryd.func28 t28 k28 r28 (Nat.le_of_ble_eq_true rfl) ?_
  have hd := h.fit.d
  have hl := h.l
  subst hl
  rw [← ap_nil (σ := σ)]
  unfold s28
  have hfe := h.fit.n
  have hfs := h.nS
  simp only [↓eD0, ↓eD1, eC0, eC1, eC2, eC3, eC4, eC5, eC6, wantedE, ↓reduceIte, Nat.reduceEqDiff, yA, yB, reread, yC, yD, yE, yF, yG, yH, Value.cells, yI, yJ, outE, lks, lkR, rdV, neg1, evs, opt, Nat.reduceAdd, Nat.reduceMul, and_self, reduceCtorEq, yK, yL, yM, Value.oneCell', yN, yO, sets, fillL, Nat.reduceLeDiff, yP, yQ, yR, yS, yT, argsE, yU, yV, yW, Int.reduceLT, Int.reduceLE, Int.reduceToNat, Int.reduceEq, Nat.reduceLT, rec17 hd, rec_len hd, rec_take hd]
  refine appK_of (rend_app (h.r.Old .ap) hfs) ?_
  rintro _ _ ⟨e2, rfl⟩
  rw [e2]
  clear e2
  by_cases h1 : (L.E.length : Int) = endF L.S
  · have d1 : decide ((L.E.length : Int) = endF L.S) = true := decide_eq_true h1
    have hf : sealS L key = (.zero, 4) := if_pos h1
    simp only [↓eD0, ↓eD1, eC0, eC1, eC2, eC3, eC4, eC5, eC6, wantedE, ↓reduceIte, Nat.reduceEqDiff, yA, yB, reread, yC, yD, yE, yF, yG, yH, Value.cells, yI, yJ, outE, lks, lkR, rdV, neg1, evs, opt, Nat.reduceAdd, Nat.reduceMul, and_self, reduceCtorEq, yK, yL, yM, Value.oneCell', yN, yO, sets, fillL, Nat.reduceLeDiff, yP, yQ, yR, yS, yT, argsE, yU, yV, yW, Int.reduceLT, Int.reduceLE, Int.reduceToNat, Int.reduceEq, Nat.reduceLT, d1, undef_eq, hf]
    rw [ap_nil]
    exact ⟨.ap, zeroL, none, 0, none, 0, rfl, zr⟩
  have d1 : decide ((L.E.length : Int) = endF L.S) = false := decide_eq_false h1
  by_cases h2 : 256 ≤ L.S.length
  · have d2 : decide ((256 : Int) ≤ (L.S.length : Int)) = true := by rw [decide_eq_true]; omega
    have hf : sealS L key = (.zero, 2) := by unfold sealS; rw [if_neg h1, if_pos h2]
    simp only [↓eD0, ↓eD1, eC0, eC1, eC2, eC3, eC4, eC5, eC6, wantedE, ↓reduceIte, Nat.reduceEqDiff, yA, yB, reread, yC, yD, yE, yF, yG, yH, Value.cells, yI, yJ, outE, lks, lkR, rdV, neg1, evs, opt, Nat.reduceAdd, Nat.reduceMul, and_self, reduceCtorEq, yK, yL, yM, Value.oneCell', yN, yO, sets, fillL, Nat.reduceLeDiff, yP, yQ, yR, yS, yT, argsE, yU, yV, yW, Int.reduceLT, Int.reduceLE, Int.reduceToNat, Int.reduceEq, Nat.reduceLT, rec18 hd, d1, d2, undef_eq, hf]
    rw [ap_nil]
    exact ⟨.ap, zeroL, none, 0, none, 0, rfl, zr⟩
  have d2 : decide ((256 : Int) ≤ (L.S.length : Int)) = false := by rw [decide_eq_false]; omega
  have hf : sealS L key = (⟨L.d, L.c, L.E, L.S ++ [newSeal L key]⟩, 0) := by unfold sealS; rw [if_neg h1, if_neg h2]
  simp only [↓eD0, ↓eD1, eC0, eC1, eC2, eC3, eC4, eC5, eC6, wantedE, ↓reduceIte, Nat.reduceEqDiff, yA, yB, reread, yC, yD, yE, yF, yG, yH, Value.cells, yI, yJ, outE, lks, lkR, rdV, neg1, evs, opt, Nat.reduceAdd, Nat.reduceMul, and_self, reduceCtorEq, yK, yL, yM, Value.oneCell', yN, yO, sets, fillL, Nat.reduceLeDiff, yP, yQ, yR, yS, yT, argsE, yU, yV, yW, Int.reduceLT, Int.reduceLE, Int.reduceToNat, Int.reduceEq, Nat.reduceLT, rec_len hd, rec_take hd, rec18 hd, d1, d2, undef_eq]
  refine appK_of (chain_app (n := L.E.length) (h.Old .ap).lg (Nat.le_refl _) (fun e he => (h.fit.E e he).2.2.2.2) (hG.Old .ap)) ?_
  rintro _ _ ⟨e2, rfl⟩
  rw [e2]
  clear e2
  obtain ⟨D, hD⟩ : ∃ D, D = chainF L.d L.c L.E L.E.length := ⟨_, rfl⟩
  have lD : D.length = 16 := by rw [hD]; exact chainF_len
  have t2 := digC_take (l := D) lD
  have u2 := digC_sets (z := List.replicate 16 0) (l := D) (by simp [lD])
  have m2 := digC_ne' (l := D) lD (by omega)
  rw [← hD]
  simp only [↓eD0, ↓eD1, eC0, eC1, eC2, eC3, eC4, eC5, eC6, wantedE, ↓reduceIte, Nat.reduceEqDiff, yA, yB, reread, yC, yD, yE, yF, yG, yH, Value.cells, yI, yJ, outE, lks, lkR, rdV, neg1, evs, opt, Nat.reduceAdd, Nat.reduceMul, and_self, reduceCtorEq, yK, yL, yM, Value.oneCell', yN, yO, sets, fillL, Nat.reduceLeDiff, yP, yQ, yR, yS, yT, argsE, yU, yV, yW, Int.reduceLT, Int.reduceLE, Int.reduceToNat, Int.reduceEq, Nat.reduceLT, rec18 hd, digC_rep, digC_length, lD, t2, u2, m2, digC_one, List.length_replicate, undef_eq]
  have z21' : rd21 = [.int .u8 0, .int .u8 0, .int .u8 0, .int .u8 0, .int .u8 0, .int .u8 0, .int .u8 0, .int .u8 0, .int .u8 0, .int .u8 0, .int .u8 0, .int .u8 0, .int .u8 0, .int .u8 0, .int .u8 0, .int .u8 0, .int .i64 0, .slice none 0 0, .slice none 0 0, .int .i64 0, .int .i64 0] := rfl
  rw [← z21']
  generalize hT : ap σ [.cells 0 (recC L.d L.c (.slice a1 L.E.length b1) (.slice a2 L.S.length b2)) (0, 0), .cells 0 rd21 (0, 0), .cells 1 (digC D) (0, 0), .cells 0 [] (0, 0)] = T
  have hoT : Old σ T := by rw [← hT]; exact .ap
  have hsT : T.size = σ.size + 4 := by rw [← hT]; simp [ap_size]
  have q0 : T[σ.size]? = some (.cells 0 (recC L.d L.c (.slice a1 L.E.length b1) (.slice a2 L.S.length b2)) (0, 0)) := by rw [← hT, ap_new0]; rfl
  have q1 : T[σ.size + 1]? = some (.cells 0 rd21 (0, 0)) := by rw [← hT, ap_new]; rfl
  have q2 : T[σ.size + 2]? = some (.cells 1 (digC D) (0, 0)) := by rw [← hT, ap_new]; rfl
  have q3 : T[σ.size + 3]? = some (.cells 0 [] (0, 0)) := by rw [← hT, ap_new]; rfl
  have hss : (sized (σ.size + 3)).size = σ.size + 3 := sized_size
  have g0 : Grown (sized (σ.size + 3)) T 33 (.slice (some ⟨σ.size + 3, 0, none⟩) 0 0) [] 0 := Grown.lit rfl (by decide) (by rw [hss]; omega) q3
  have x1 := row_xcells (h.S.Old hoT)
  rw [List.length_map] at x1
  have hok : ∀ s ∈ L.S, s.ok := fun s hs => (h.ok s hs).1
  obtain ⟨v1, τ1, ha1, A1⟩ := append_grown (bytes := 40) g0 (by omega) (by rw [hss]; omega) x1 (by rw [flatten_length (seaV_rows hok)]; simp) seaV_ones (by omega) (by omega)
  simp only [Nat.zero_add, List.nil_append] at A1
  refine onV_of ha1 ?_
  have hs1 := A1.size
  have ho1 : Old σ τ1 := A1.Old' g0 (by rw [hss]; omega) hoT
  have p0 := A1.low g0 (by rw [hss]; omega) q0
  have p1 := A1.low g0 (by rw [hss]; omega) q1
  have p2 := rdN_all (A1.low g0 (by rw [hss]; omega) q2) (show (digC D).length = 16 by rw [digC_length, lD])
  have p2' : ∀ L, rdN (ap τ1 L) ⟨σ.size + 2, 0, none⟩ 16 = some (digC D) := fun L => rdN_old p2
  simp only [↓eD0, ↓eD1, eC0, eC1, eC2, eC3, eC4, eC5, eC6, wantedE, ↓reduceIte, Nat.reduceEqDiff, yA, yB, reread, yC, yD, yE, yF, yG, yH, Value.cells, yI, yJ, outE, lks, lkR, rdV, neg1, evs, opt, Nat.reduceAdd, Nat.reduceMul, and_self, reduceCtorEq, yK, yL, yM, Value.oneCell', yN, yO, sets, fillL, Nat.reduceLeDiff, yP, yQ, yR, yS, yT, argsE, yU, yV, yW, Int.reduceLT, Int.reduceLE, Int.reduceToNat, Int.reduceEq, Nat.reduceLT, p2, undef_eq]
  refine appK_of (rseal_of_app lD hk (hG.Old ho1)) ?_
  rintro _ _ ⟨e2, rfl⟩
  rw [e2]
  clear e2
  obtain ⟨Q, hQ⟩ : ∃ Q, Q = sealF key D (L.E.length : Int) := ⟨_, rfl⟩
  have lQ : Q.length = 16 := by rw [hQ]; exact sealF_len
  rw [← hQ]
  have ld : (digC D).length = 16 := by rw [digC_length, lD]
  have lq : (digC Q).length = 16 := by rw [digC_length, lQ]
  have sb1 : sets [.int .i64 (L.E.length : Int), .int .u8 0, .int .u8 0, .int .u8 0, .int .u8 0, .int .u8 0, .int .u8 0, .int .u8 0, .int .u8 0, .int .u8 0, .int .u8 0, .int .u8 0, .int .u8 0, .int .u8 0, .int .u8 0, .int .u8 0, .int .u8 0, .int .u8 0, .int .u8 0, .int .u8 0, .int .u8 0, .int .u8 0, .int .u8 0, .int .u8 0, .int .u8 0, .int .u8 0, .int .u8 0, .int .u8 0, .int .u8 0, .int .u8 0, .int .u8 0, .int .u8 0, .int .u8 0] 1 (digC D) = .int .i64 (L.E.length : Int) :: (digC D ++ List.replicate 16 (.int .u8 0)) := by
    rw [sets_all (by rw [ld]; simp), ld]
    simp
  have hN : seaV (newSeal L key) = .int .i64 (L.E.length : Int) :: (digC D ++ digC Q) := by
    unfold seaV newSeal
    dsimp only
    rw [← hD, ← hQ]
  have sb2 : sets (.int .i64 (L.E.length : Int) :: (digC D ++ List.replicate 16 (.int .u8 0))) 17 (digC Q) = seaV (newSeal L key) := by
    rw [hN, sets_all (by rw [lq]; simp [ld]), lq]
    rw [List.take_succ_cons, List.take_left' ld, List.drop_of_length_le (by simp [ld]), List.append_nil]
    rfl
  have lb1 : (Value.int .i64 (L.E.length : Int) :: (digC D ++ List.replicate 16 (.int .u8 0))).length = 33 := by simp [ld]
  obtain ⟨nok, nend⟩ := newSeal_ok (key := key) hfe
  have sl := seaV_len nok
  have so := seaV_one (s := newSeal L key)
  have sf : ∀ z : List Value, z.length = 33 → sets z 0 (seaV (newSeal L key)) = seaV (newSeal L key) := fun z hz => by rw [sets_all (by omega)]; simp [sl, hz]
  have st : (seaV (newSeal L key)).take 33 = seaV (newSeal L key) := List.take_of_length_le (by omega)
  have sn : (seaV (newSeal L key) = []) = False := eq_false (by simp [seaV])
  rw [← ap_nil (σ := τ1)]
  simp only [↓eD0, ↓eD1, eC0, eC1, eC2, eC3, eC4, eC5, eC6, wantedE, ↓reduceIte, Nat.reduceEqDiff, yA, yB, reread, yC, yD, yE, yF, yG, yH, Value.cells, yI, yJ, outE, lks, lkR, rdV, neg1, evs, opt, Nat.reduceAdd, Nat.reduceMul, and_self, reduceCtorEq, yK, yL, yM, Value.oneCell', yN, yO, sets, fillL, Nat.reduceLeDiff, yP, yQ, yR, yS, yT, argsE, yU, yV, yW, Int.reduceLT, Int.reduceLE, Int.reduceToNat, Int.reduceEq, Nat.reduceLT, p2, p2', digC_length, lD, lQ, t2, undef_eq, sb1, sb2, lb1, sl, so, sf, st, sn]
  have hop : Old τ1 (ap τ1 [.cells 0 (seaV (newSeal L key)) (0, 0)]) := .ap
  have A1g := A1.grown.old hop
  have b1s := fun c hc => (A1.grown.base (c := c) hc).2
  have xc : xcells (ap τ1 [.cells 0 (seaV (newSeal L key)) (0, 0)]) 33 (.slice (some ⟨τ1.size, 0, none⟩) 1 1) = some (1, seaV (newSeal L key)) := by
    show (rdN (ap τ1 _) ⟨τ1.size, 0, none⟩ (1 * 33)).map (1, ·) = _
    rw [rdN_all (n := 1 * 33) (by rw [ap_new0]; rfl) (by rw [sl])]
    rfl
  obtain ⟨v2, τ2, ha2, A2⟩ := append_grown (bytes := 40) A1g (by omega) (by rw [hss, ap_size]; omega) xc sl so (by omega) (by omega)
  have ho2 : Old σ τ2 := A2.Old' A1g (by rw [hss]; omega) (ho1.trans hop)
  have k0 := A2.low A1g (by rw [hss]; omega) ((hop.2 _ (by omega)).trans p0)
  have k1 := A2.low A1g (by rw [hss]; omega) ((hop.2 _ (by omega)).trans p1)
  refine onV_of ha2 ?_
  obtain ⟨bs, cp, rfl⟩ := A2.grown.slice
  have rc18 : ∀ v, (recC L.d L.c (.slice a1 L.E.length b1) (.slice a2 L.S.length b2)).set 18 v = recC L.d L.c (.slice a1 L.E.length b1) v := fun v => rec_s18 hd
  have w18 : wrN τ2 ⟨σ.size, 18, none⟩ [.slice bs (L.S.length + 1) cp] = some (τ2.setIfInBounds σ.size (.cells 1 (recC L.d L.c (.slice a1 L.E.length b1) (.slice bs (L.S.length + 1) cp)) (0, 0))) := by
    rw [wrN_eq, if_neg (by simp), k0, wrc_cells, if_pos ⟨by rw [rec_len hd]; show 18 + 1 ≤ 19; omega, rfl⟩]
    show some (τ2.setIfInBounds σ.size (.cells 1 ((recC L.d L.c (.slice a1 L.E.length b1) (.slice a2 L.S.length b2)).set 18 _) (0, 0))) = _
    rw [rc18]
  have j0 := get_set (k := .cells 1 (recC L.d L.c (.slice a1 L.E.length b1) (.slice bs (L.S.length + 1) cp)) (0, 0)) k0
  have j2 : (τ2.setIfInBounds σ.size (.cells 1 (recC L.d L.c (.slice a1 L.E.length b1) (.slice bs (L.S.length + 1) cp)) (0, 0)))[σ.size + 1]? = some (.cells 0 rd21 (0, 0)) := (get_set_ne (by omega)).trans k1
  have r0 := rdN_all j0 (rec_len hd)
  have w2 := ret21 hd (c := L.c) (a1 := a1) (n1 := L.E.length) (c1 := b1) (a2 := bs) (n2 := L.S.length + 1) (c2 := cp) (i := 0) (j := 0) j2
  have r2 := rdN_all (get_set (k := .cells 1 (recC L.d L.c (.slice a1 L.E.length b1) (.slice bs (L.S.length + 1) cp) ++ [.int .i64 0, .int .i64 0]) (0, 0)) j2) (r21_len hd)
  have l21 : rd21.length = 21 := rfl
  have z21 : ∀ v w y z, (recC L.d L.c v w ++ [y, z]).length = 21 := fun v w y z => r21_len hd
  simp only [↓eD0, ↓eD1, eC0, eC1, eC2, eC3, eC4, eC5, eC6, wantedE, ↓reduceIte, Nat.reduceEqDiff, yA, yB, reread, yC, yD, yE, yF, yG, yH, Value.cells, yI, yJ, outE, lks, lkR, rdV, neg1, evs, opt, Nat.reduceAdd, Nat.reduceMul, and_self, reduceCtorEq, yK, yL, yM, Value.oneCell', yN, yO, sets, fillL, Nat.reduceLeDiff, yP, yQ, yR, yS, yT, argsE, yU, yV, yW, Int.reduceLT, Int.reduceLE, Int.reduceToNat, Int.reduceEq, Nat.reduceLT, w18, r0, rec_len hd, rec_take hd, r21_b hd, l21, r21_take hd, z21, w2, r2, undef_eq]
  rw [ap_nil, hf]
  have O := ((ho2.set (b := σ.size) (k := .cells 1 (recC L.d L.c (.slice a1 L.E.length b1) (.slice bs (L.S.length + 1) cp)) (0, 0)) (Nat.le_refl _)).set (b := σ.size + 1) (k := .cells 1 (recC L.d L.c (.slice a1 L.E.length b1) (.slice bs (L.S.length + 1) cp) ++ [.int .i64 0, .int .i64 0]) (0, 0)) (by omega))
  have hlen : (L.S ++ [newSeal L key]).length = L.S.length + 1 := by simp
  have G := (A2.grown.set (b := σ.size) (k := .cells 1 (recC L.d L.c (.slice a1 L.E.length b1) (.slice bs (L.S.length + 1) cp)) (0, 0)) (by rw [hss]; omega)).set (b := σ.size + 1) (k := .cells 1 (recC L.d L.c (.slice a1 L.E.length b1) (.slice bs (L.S.length + 1) cp) ++ [.int .i64 0, .int .i64 0]) (0, 0)) (by rw [hss]; omega)
  have hok2 : ∀ s ∈ L.S ++ [newSeal L key], s.ok := fun s hs => by
    rcases List.mem_append.1 hs with hs | hs
    · exact hok s hs
    · rw [List.mem_singleton.1 hs]; exact nok
  refine ⟨O, recC L.d L.c (.slice a1 L.E.length b1) (.slice bs (L.S.length + 1) cp), a1, b1, bs, cp, rfl, ⟨by simp only [hlen], hd, h.E.Old O, ?_, hok2⟩⟩
  simp only [hlen]
  have hfl : ((L.S ++ [newSeal L key]).map seaV).flatten = (L.S.map seaV).flatten ++ seaV (newSeal L key) := by simp
  have hml : ((L.S ++ [newSeal L key]).map seaV).length = L.S.length + 1 := by simp
  rw [← hfl, ← hml] at G
  have := Grown.Row G (seaV_rows hok2)
  rwa [hml] at this
end Go.Proofs.YtopnlllipkockaaDoor

set_option linter.unusedSimpArgs false
set_option linter.unusedVariables false
set_option maxRecDepth 10000
set_option maxHeartbeats 4000000
namespace Go.Proofs.YtopnlllipkockaaDoor
open Go Go.Cn Go.RowKit
attribute [local irreducible] evL sem onG onI onV

/-! ### The specification's Sealed -/
theorem rsealed_app {σ : H} {l : List Value} {L : Lg} {a1 a2 : Option Addr} {b1 b2 : Nat} {key : ByteArray} (h : LgV σ l L a1 b1 a2 b2) (hk : key.size < 100000000000) (hG : Glob σ) :
    App Tryd.prog (.func 29) #[] #[.agg l.toArray, .string key] σ fun v σ' => Old σ σ' ∧ v = .agg (zeroL ++ [Value.int .i64 (lsealedF L key).1, Value.int .i64 (lsealedF L key).2]).toArray := by
  refine App.of_sem mixed Tryd.func29 t29 k29 r29 (Nat.le_of_ble_eq_true rfl) ?_
  have hd := h.fit.d
  have hl := h.l
  subst hl
  rw [← ap_nil (σ := σ)]
  unfold s29
  simp only [↓eD0, ↓eD1, eC0, eC1, eC2, eC3, eC4, eC5, eC6, wantedE, ↓reduceIte, Nat.reduceEqDiff, yA, yB, reread, yC, yD, yE, yF, yG, yH, Value.cells, yI, yJ, outE, lks, lkR, rdV, neg1, evs, opt, Nat.reduceAdd, Nat.reduceMul, and_self, reduceCtorEq, yK, yL, yM, Value.oneCell', yN, yO, sets, fillL, Nat.reduceLeDiff, yP, yQ, yR, yS, yT, argsE, yU, yV, yW, Int.reduceLT, Int.reduceLE, Int.reduceToNat, Int.reduceEq, Nat.reduceLT, rec18 hd]
  have z21' : rd21 = [.int .u8 0, .int .u8 0, .int .u8 0, .int .u8 0, .int .u8 0, .int .u8 0, .int .u8 0, .int .u8 0, .int .u8 0, .int .u8 0, .int .u8 0, .int .u8 0, .int .u8 0, .int .u8 0, .int .u8 0, .int .u8 0, .int .i64 0, .slice none 0 0, .slice none 0 0, .int .i64 0, .int .i64 0] := rfl
  rw [← z21']
  generalize hRC : recC L.d L.c (.slice a1 L.E.length b1) (.slice a2 L.S.length b2) = RC at h
  have lR : RC.length = 19 := by rw [← hRC]; exact rec_len hd
  have r18 : RC[18]? = some (.slice a2 L.S.length b2) := by rw [← hRC]; exact rec18 hd
  have hfs := h.nS
  have l21 : rd21.length = 21 := rfl
  have wr : ∀ (θ : H) (j k : Int), θ[σ.size + 1]? = some (.cells 0 rd21 (0, 0)) → wrN θ ⟨σ.size + 1, 0, none⟩ (zeroL ++ [.int .i64 j, .int .i64 k]) = some (θ.setIfInBounds (σ.size + 1) (.cells 1 (zeroL ++ [.int .i64 j, .int .i64 k]) (0, 0))) := fun θ j k hθ => by
    have := ret21 (d := List.replicate 16 0) (by rfl) (c := 0) (a1 := none) (n1 := 0) (c1 := 0) (a2 := none) (n2 := 0) (c2 := 0) (i := j) (j := k) hθ
    rw [← zeroL_rec] at this
    exact this
  have rd : ∀ (θ : H) (j k : Int), θ[σ.size + 1]? = some (.cells 0 rd21 (0, 0)) → rdN (θ.setIfInBounds (σ.size + 1) (.cells 1 (zeroL ++ [.int .i64 j, .int .i64 k]) (0, 0))) ⟨σ.size + 1, 0, none⟩ 21 = some (zeroL ++ [.int .i64 j, .int .i64 k]) := fun θ j k hθ => rdN_all (get_set hθ) rfl
  have zt : ∀ j k : Int, (zeroL ++ [Value.int .i64 j, .int .i64 k]).take 21 = zeroL ++ [Value.int .i64 j, .int .i64 k] := fun j k => rfl
  refine loop_for (J := fun i e τ => i ≤ L.S.length ∧ e = [(1, .string key), (2, .pointer (some ⟨σ.size, 0, none⟩)), (4, .pointer (some ⟨σ.size + 1, 0, none⟩)), (5, .int .i64 (i : Int))] ∧ Old σ τ ∧ τ[σ.size]? = some (.cells 0 RC (0, 0)) ∧ τ[σ.size + 1]? = some (.cells 0 rd21 (0, 0)) ∧ keyOk key (L.S.drop i) = keyOk key L.S) L.S.length
    ⟨by omega, rfl, .ap, by rw [ap_new0]; rfl, by rw [ap_new]; rfl, rfl⟩ ?_
  rintro i e τ hi ⟨_, rfl, ho, hb0, hb1, hkey⟩
  have hz : σ.size < τ.size := (Array.getElem?_eq_some_iff.1 hb0).1
  have hz1 : σ.size + 1 < τ.size := (Array.getElem?_eq_some_iff.1 hb1).1
  have g18 : rd1 τ ⟨σ.size, 18, none⟩ = some (.slice a2 L.S.length b2) := by rw [rd1_eq, hb0]; exact r18
  by_cases hlt : i < L.S.length
  · have dl : decide ((i : Int) < (L.S.length : Int)) = true := by rw [decide_eq_true]; omega
    have hbd : (0:Int) ≤ (i:Int) ∧ (i:Int) < (L.S.length : Int) := by omega
    have hw : IntKind.wrap .i64 ((i:Int) + 1) = ((i + 1 : Nat) : Int) := by rw [wrap64' (by omega) (by omega)]; omega
    have hx : (L.S.map seaV)[i]? = some (seaV L.S[i]) := by simp [hlt]
    have g18' : ∀ l, rd1 (ap τ l) ⟨σ.size, 18, none⟩ = some (.slice a2 L.S.length b2) := fun l => rd1_old g18
    obtain ⟨b', off, rfl, h1⟩ := (h.S.Old ho).at hx
    have hr : ∀ l, rdN (ap τ l) ⟨b', off + i * 33, none⟩ 33 = some (seaV L.S[i]) := fun l => rdN_old h1
    obtain ⟨hok, hend⟩ := h.ok L.S[i] (by simp)
    have hstep : keyOk key (L.S.drop i) = if L.S[i].seal_ = sealF key L.S[i].dig L.S[i].end_ then keyOk key (L.S.drop (i + 1)) else false := by
      rw [List.drop_eq_getElem_cons hlt, keyOk]
    generalize hSi : L.S[i] = si at hr hok hend hstep
    have sl := seaV_len hok
    have so := seaV_one (s := si)
    have sf : ∀ z : List Value, z.length = 33 → sets z 0 (seaV si) = seaV si := fun z hz => by rw [sets_all (by omega)]; simp [sl, hz]
    have st : (seaV si).take 33 = seaV si := List.take_of_length_le (by omega)
    have sn : (seaV si = []) = False := eq_false (by simp [seaV])
    have ld : (digC si.dig).length = 16 := by rw [digC_length, hok.1]
    have lsl : (digC si.seal_).length = 16 := by rw [digC_length, hok.2]
    have k17 : ((seaV si).drop 17).take 16 = digC si.seal_ := by
      unfold seaV
      rw [List.drop_succ_cons, List.drop_left' ld]
      exact List.take_of_length_le (by omega)
    have k1 : ((seaV si).drop 1).take 16 = digC si.dig := by
      unfold seaV
      rw [List.drop_succ_cons, List.drop_zero, List.take_left' ld]
    have s0 : (seaV si)[0]? = some (.int .i64 si.end_) := rfl
    rw [← ap_nil (σ := τ)]
    have ae := aggEq_dig (a := si.seal_) (b := sealF key si.dig si.end_) hok.2 sealF_len
    simp only [↓eD0, ↓eD1, eC0, eC1, eC2, eC3, eC4, eC5, eC6, wantedE, ↓reduceIte, Nat.reduceEqDiff, yA, yB, reread, yC, yD, yE, yF, yG, yH, Value.cells, yI, yJ, outE, lks, lkR, rdV, neg1, evs, opt, Nat.reduceAdd, Nat.reduceMul, and_self, reduceCtorEq, yK, yL, yM, Value.oneCell', yN, yO, sets, fillL, Nat.reduceLeDiff, yP, yQ, yR, yS, yT, argsE, yU, yV, yW, Int.reduceLT, Int.reduceLE, Int.reduceToNat, Int.reduceEq, Nat.reduceLT, g18', dl, hbd, Int.toNat_natCast, hr, sl, so, sf, st, sn, s0, k1, k17, undef_eq]
    refine appK_of (rseal_of_app hok.1 hk (hG.Old (ho.trans .ap))) ?_
    rintro _ _ ⟨e2, rfl⟩
    rw [e2]
    clear e2
    have hb1' : ∀ l, (ap τ l)[σ.size + 1]? = some (.cells 0 rd21 (0, 0)) := fun l => (ap_old hz1).trans hb1
    by_cases hq : si.seal_ = sealF key si.dig si.end_
    · have d1 : decide (si.seal_ = sealF key si.dig si.end_) = true := decide_eq_true hq
      simp only [↓eD0, ↓eD1, eC0, eC1, eC2, eC3, eC4, eC5, eC6, wantedE, ↓reduceIte, Nat.reduceEqDiff, yA, yB, reread, yC, yD, yE, yF, yG, yH, Value.cells, yI, yJ, outE, lks, lkR, rdV, neg1, evs, opt, Nat.reduceAdd, Nat.reduceMul, and_self, reduceCtorEq, yK, yL, yM, Value.oneCell', yN, yO, sets, fillL, Nat.reduceLeDiff, yP, yQ, yR, yS, yT, argsE, yU, yV, yW, Int.reduceLT, Int.reduceLE, Int.reduceToNat, Int.reduceEq, Nat.reduceLT, sl, k1, k17, ae, d1, hw, undef_eq]
      exact ⟨hlt, by omega, ho.trans .ap, (ap_old hz).trans hb0, hb1' _, by rw [← hkey, hstep, if_pos hq]⟩
    · have d1 : decide (si.seal_ = sealF key si.dig si.end_) = false := decide_eq_false hq
      have hf : lsealedF L key = (0, 8) := if_neg (by rw [← hkey, hstep, if_neg hq]; simp)
      have zs : rd21.set 20 (.int .i64 8) = zeroL ++ [.int .i64 0, .int .i64 8] := rfl
      have w8 := fun l => wr (ap τ l) 0 8 (hb1' l)
      have r8 := fun l => rd (ap τ l) 0 8 (hb1' l)
      have lz8 : (zeroL ++ [Value.int .i64 0, .int .i64 8]).length = 21 := rfl
      simp only [↓eD0, ↓eD1, eC0, eC1, eC2, eC3, eC4, eC5, eC6, wantedE, ↓reduceIte, Nat.reduceEqDiff, yA, yB, reread, yC, yD, yE, yF, yG, yH, Value.cells, yI, yJ, outE, lks, lkR, rdV, neg1, evs, opt, Nat.reduceAdd, Nat.reduceMul, and_self, reduceCtorEq, yK, yL, yM, Value.oneCell', yN, yO, sets, fillL, Nat.reduceLeDiff, yP, yQ, yR, yS, yT, argsE, yU, yV, yW, Int.reduceLT, Int.reduceLE, Int.reduceToNat, Int.reduceEq, Nat.reduceLT, sl, k1, k17, ae, d1, l21, zs, w8, r8, lz8, zt, hf, undef_eq]
      exact (ho.trans .ap).set (b := σ.size + 1) (by omega)
  · have : i = L.S.length := by omega
    subst this
    have dl : decide ((L.S.length : Int) < (L.S.length : Int)) = false := by rw [decide_eq_false]; omega
    have hall : keyOk key L.S = true := by rw [← hkey, List.drop_length]; rfl
    have hf : lsealedF L key = (endF L.S, 0) := if_pos hall
    have g0 : rdN τ ⟨σ.size, 0, none⟩ 19 = some RC := rdN_all hb0 lR
    simp only [↓eD0, ↓eD1, eC0, eC1, eC2, eC3, eC4, eC5, eC6, wantedE, ↓reduceIte, Nat.reduceEqDiff, yA, yB, reread, yC, yD, yE, yF, yG, yH, Value.cells, yI, yJ, outE, lks, lkR, rdV, neg1, evs, opt, Nat.reduceAdd, Nat.reduceMul, and_self, reduceCtorEq, yK, yL, yM, Value.oneCell', yN, yO, sets, fillL, Nat.reduceLeDiff, yP, yQ, yR, yS, yT, argsE, yU, yV, yW, Int.reduceLT, Int.reduceLE, Int.reduceToNat, Int.reduceEq, Nat.reduceLT, g18, dl, g0, undef_eq]
    refine appK_of (rend_app (h.r.Old ho) hfs) ?_
    rintro _ _ ⟨e2, rfl⟩
    rw [e2]
    clear e2
    generalize endF L.S = E at hf
    have zs : rd21.set 19 (.int .i64 E) = zeroL ++ [.int .i64 E, .int .i64 0] := rfl
    have w8 := wr τ E 0 hb1
    have r8 := rd τ E 0 hb1
    have lz8 : (zeroL ++ [Value.int .i64 E, .int .i64 0]).length = 21 := rfl
    simp only [↓eD0, ↓eD1, eC0, eC1, eC2, eC3, eC4, eC5, eC6, wantedE, ↓reduceIte, Nat.reduceEqDiff, yA, yB, reread, yC, yD, yE, yF, yG, yH, Value.cells, yI, yJ, outE, lks, lkR, rdV, neg1, evs, opt, Nat.reduceAdd, Nat.reduceMul, and_self, reduceCtorEq, yK, yL, yM, Value.oneCell', yN, yO, sets, fillL, Nat.reduceLeDiff, yP, yQ, yR, yS, yT, argsE, yU, yV, yW, Int.reduceLT, Int.reduceLE, Int.reduceToNat, Int.reduceEq, Nat.reduceLT, l21, zs, w8, r8, lz8, zt, hf, undef_eq]
    exact ho.set (b := σ.size + 1) (by omega)
end Go.Proofs.YtopnlllipkockaaDoor
