/- Walks and plain laws. Conditions: none. -/
import Derived.Test.YtopnlllipkockaaDoorBodiesL5
set_option linter.all false
set_option linter.unusedSimpArgs false
set_option linter.unusedVariables false
set_option maxRecDepth 10000
set_option maxHeartbeats 1000000
namespace Go.Proofs.YtopnlllipkockaaDoor
open Go Go.Cn Go.RowKit
attribute [local irreducible] evL sem onG onI onV

/-! ### Steps of a log -/
structure Stp where
  kind : Int
  e : Ent
  n : Int
def stpV (s : Stp) : List Value := .int .u8 s.kind :: (entV s.e ++ [.int .u8 s.n])
def Stp.ok (s : Stp) : Prop := (0 ≤ s.kind ∧ s.kind ≤ 255) ∧ s.e.raw ∧ 0 ≤ s.n ∧ s.n ≤ 255

theorem cellsStp : Tryd.prog.cellsOf 57 = 7 := by kernel_rfl
theorem rd_u8 {σ : H} {f : Nat} {cs : List Value} (h : Rd Tryd.prog σ f 5 cs) : ∃ n, cs = [.int .u8 n] ∧ 0 ≤ n ∧ n ≤ 255 := by
  obtain ⟨n, h, h1, h2⟩ := rd_int Tryd.underlying5 h
  exact ⟨n, h, h1, h2⟩
theorem rd_stp {σ : H} {f : Nat} {cs : List Value} (h : Rd Tryd.prog σ f 57 cs) : ∃ s : Stp, s.ok ∧ cs = stpV s := by
  cases f with
  | zero => exact h.elim
  | succ f =>
    simp only [Rd, Tryd.underlying57, cellsStp, List.forall_mem_cons, cellsB, cellsEnt] at h
    obtain ⟨hl, h1, h2, h3, _⟩ := h
    obtain ⟨n1, h1, i1⟩ := rd_u8 h1
    obtain ⟨e, ie, h2⟩ := rd_ent h2
    obtain ⟨n2, h3, i2⟩ := rd_u8 h3
    refine ⟨⟨n1, e, n2⟩, ⟨i1, ie, i2⟩, ?_⟩
    have h5 : cs = (cs.drop 0).take 1 ++ ((cs.drop 1).take 5 ++ (cs.drop 6).take 1) := by
      match cs, hl with
      | [a, b, c, d, e, f, g], _ => rfl
    rw [h5, h1, h2, h3]
    rfl
theorem dat_steps {σ : H} {v : Value} (h : Dat Tryd.prog σ 55 v) : ∃ ls : List Stp, (∀ s ∈ ls, s.ok) ∧ Row σ 7 v (ls.map stpV) := by
  simp only [Dat, Tryd.underlying55] at h
  obtain ⟨f, h⟩ := h
  cases f with
  | zero => exact h.elim
  | succ f =>
    simp only [Rd, Tryd.underlying55] at h
    obtain ⟨a, ca, E, g3, okE, rE, cE⟩ := rd_slice (V := stpV) (ok := Stp.ok) cellsStp (fun l hl => rd_stp hl) h
    injection g3 with g3
    exact ⟨E, okE, g3 ▸ rE⟩

/-- A log is stored into a box that is none of its own blocks. -/
theorem put19 {σ θ : H} {b ver : Nat} {z l : List Value} {L : Lg} {a1 a2 : Option Addr} {b1 b2 : Nat} (ho : Old σ θ) (hb : σ.size ≤ b) (h : θ[b]? = some (.cells ver z (0, 0))) (hz : z.length = 19) (hv : LgV θ l L a1 b1 a2 b2) (h1 : Away b a1) (h2 : Away b a2) :
    ∃ θ', wrN θ ⟨b, 0, none⟩ l = some θ' ∧ Old σ θ' ∧ θ'.size = θ.size ∧ θ'[b]? = some (.cells (ver + 1) l (0, 0)) ∧ (∀ c, c ≠ b → θ'[c]? = θ[c]?) ∧ LgV θ' l L a1 b1 a2 b2 := by
  refine ⟨θ.setIfInBounds b (.cells (ver + 1) l (0, 0)), ?_, ho.set hb, by simp, get_set h, fun c hc => get_set_ne (Ne.symm hc), hv.away h1 h2⟩
  rw [wrN_eq, if_neg (by rw [hv.ne]; exact id), h, wrc_cells, if_pos ⟨by rw [hv.len, hz]; show 0 + 19 ≤ 19; omega, hv.one⟩]
  rw [show sets z (⟨b, 0, none⟩ : Addr).off l = l from hv.sets _ hz]
  rfl
/-- A log in cells, where one block is another one. -/
theorem LgV.but {θ θ' : H} {b : Nat} {l : List Value} {L : Lg} {a1 a2 : Option Addr} {b1 b2 : Nat} (hv : LgV θ l L a1 b1 a2 b2) (h : ∀ c, c ≠ b → θ'[c]? = θ[c]?) (h1 : Away b a1) (h2 : Away b a2) : LgV θ' l L a1 b1 a2 b2 := by
  have row : ∀ {s n c : Nat} {a : Option Addr} {xs : List (List Value)}, Row θ s (.slice a n c) xs → Away b a → Row θ' s (.slice a n c) xs := by
    intro s n c a xs h3 ha
    obtain ⟨base, cap, g1, g2⟩ := h3
    refine ⟨base, cap, g1, fun i x hx => ?_⟩
    obtain ⟨b', off, rfl, h4⟩ := g2 i x hx
    refine ⟨b', off, rfl, ?_⟩
    injection g1 with g1
    have := ha _ g1
    rw [rdN_eq] at h4 ⊢
    show (if s = 0 then some [] else rdcN θ'[b']? _ s) = _
    rw [h _ this]
    exact h4
  exact ⟨hv.l, row hv.E h1, row hv.S h2, hv.cE, hv.cS, hv.fit, hv.ok, hv.nS⟩

/-- At the end of a step: the new log is in one box, and goes to the box of the log. -/
structure TB (σ θ : H) (b9 b12 i : Nat) (key : ByteArray) (l : List Value) (L : Lg) (a1 : Option Addr) (c1 : Nat) (a2 : Option Addr) (c2 : Nat) : Prop where
  old : Old σ θ
  h9 : σ.size ≤ b9
  q9 : ∃ ver z, θ[b9]? = some (.cells ver z (0, 0)) ∧ z.length = 19
  q12 : ∃ ver, θ[b12]? = some (.cells ver l (0, 0))
  v : LgV θ l L a1 c1 a2 c2
  w1 : Away b9 a1
  w2 : Away b9 a2
  u1 : Below θ.size a1
  u2 : Below θ.size a2
  good : Good L
  key : keyOk key L.S = true
  nE : L.E.length ≤ i + 1
  nS : L.S.length ≤ i + 1

/-- The head of a step. -/
structure HB (σ θ : H) (b9 i : Nat) (key : ByteArray) (l : List Value) (L : Lg) (a1 : Option Addr) (c1 : Nat) (a2 : Option Addr) (c2 : Nat) : Prop where
  sb : SB σ θ b9 l L a1 c1 a2 c2
  good : Good L
  key : keyOk key L.S = true
  nE : L.E.length ≤ i
  nS : L.S.length ≤ i
theorem TB.next {σ θ : H} {b9 b12 i : Nat} {key : ByteArray} {l : List Value} {L : Lg} {a1 : Option Addr} {c1 : Nat} {a2 : Option Addr} {c2 : Nat} (h : TB σ θ b9 b12 i key l L a1 c1 a2 c2) :
    rdN θ ⟨b12, 0, none⟩ 19 = some l ∧ ∃ θ', wrN θ ⟨b9, 0, none⟩ l = some θ' ∧ HB σ θ' b9 (i + 1) key l L a1 c1 a2 c2 := by
  obtain ⟨ver, z, h9, hz⟩ := h.q9
  obtain ⟨v12, h12⟩ := h.q12
  obtain ⟨θ', w, o, hs, g, hne, V⟩ := put19 h.old h.h9 h9 hz h.v h.w1 h.w2
  exact ⟨rdN_all h12 h.v.len, θ', w, ⟨⟨⟨o, ⟨_, g⟩, V⟩, h.h9, h.w1, h.w2, hs ▸ h.u1, hs ▸ h.u2⟩, h.good, h.key, h.nE, h.nS⟩⟩
theorem app_few5 {L : Lg} {x : Ent} : (appF L x).1.E.length ≤ L.E.length + 1 ∧ (appF L x).1.S.length ≤ L.S.length := by
  unfold appF
  split
  · simp
  · split <;> simp
theorem seal_few5 {L : Lg} {key : ByteArray} : (sealS L key).1.E.length ≤ L.E.length ∧ (sealS L key).1.S.length ≤ L.S.length + 1 := by
  unfold sealS
  split
  · simp [Lg.zero]
  · split <;> simp [Lg.zero]
theorem cut_few5 {L : Lg} {n : Int} : (lcutF L n).1.E.length ≤ L.E.length ∧ (lcutF L n).1.S.length ≤ L.S.length := by
  unfold lcutF
  split
  · simp [Lg.zero]
  · simp only [List.length_take]; omega
theorem keyOk_sealed {key : ByteArray} {L : Lg} (h : keyOk key L.S = true) : lsealedF L key = (endF L.S, 0) := if_pos h
end Go.Proofs.YtopnlllipkockaaDoor

set_option linter.unusedSimpArgs false
set_option linter.unusedVariables false
set_option maxRecDepth 10000
set_option maxHeartbeats 8000000
namespace Go.Proofs.YtopnlllipkockaaDoor
open Go Go.Cn Go.RowKit
attribute [local irreducible] evL sem onG onI onV

theorem app_cases {L : Lg} {e : Ent} : ((appF L e).2 = 0 ∧ (appF L e).1.E.length = L.E.length + 1) ∨ ((appF L e).2 ≠ 0 ∧ (appF L e).1.E.length = L.E.length) := by
  unfold appF
  split
  · exact .inr ⟨by simp, rfl⟩
  · split
    · exact .inl ⟨rfl, by simp⟩
    · exact .inr ⟨by simp, rfl⟩
theorem app_seals {L : Lg} {e : Ent} : (appF L e).1.S = L.S := by
  unfold appF
  split
  · rfl
  · split <;> rfl
theorem fold_of {σ θ : H} {b ver n : Nat} {cs : List Value} (h : θ[b]? = some (.cells ver cs (0, 0))) (hn : cs.length = n) : rdN θ ⟨b, 0, none⟩ n = some cs := rdN_all h hn

theorem law5 {σ : H} {d : List Int} {c8 : Int} {sl : Value} {ls : List Stp} {key : ByteArray} (hd : d.length = 16) (hc0 : 0 ≤ c8) (hc1 : c8 ≤ 255) (hw : Row σ 7 sl (ls.map stpV)) (hok : ∀ s ∈ ls, s.ok) (hks : key.size ≤ maxLen) (hH : HGlob σ) :
    App Tryd.prog (.func 5) #[] #[.agg (digC d).toArray, .int .u8 c8, sl, .string key] σ fun v σ' => Old σ σ' ∧ v = .bool true := by
  refine App.of_sem mixed Tryd.func5 t5 k5 r5 (Nat.le_of_ble_eq_true rfl) ?_
  obtain ⟨sa, sc, rfl⟩ := hw.slice
  rw [List.length_map] at hw ⊢
  rw [← ap_nil (σ := σ)]
  unfold s5
  have td := digC_take hd
  have ld := digC_len hd
  have fin : ∀ M : List Blk, Old σ (ap σ M) := fun M => .ap
  by_cases hin : ls.length ≤ 40 ∧ key.size ≤ 200
  case neg =>
    have hcs : decide ((40 : Int) < (ls.length : Int)) = true ∨ (decide ((40 : Int) < (ls.length : Int)) = false ∧ decide ((200 : Int) < (key.size : Int)) = true) := by
      by_cases h1 : ls.length ≤ 40
      · refine .inr ⟨by rw [decide_eq_false]; omega, ?_⟩
        rw [decide_eq_true]
        have : ¬key.size ≤ 200 := fun h => hin ⟨h1, h⟩
        omega
      · exact .inl (by rw [decide_eq_true]; omega)
    rcases hcs with c1 | ⟨c1, c2⟩
    case' inl => simp only [↓eD0, ↓eD1, eC0, eC1, eC2, eC3, eC4, eC5, eC6, wantedE, ↓reduceIte, Nat.reduceEqDiff, yA, yB, reread, yC, yD, yE, yF, yG, yH, Value.cells, yI, yJ, outE, lks, lkR, rdV, neg1, evs, opt, Nat.reduceAdd, Nat.reduceMul, and_self, reduceCtorEq, yK, yL, yM, Value.oneCell', yN, yO, sets, fillL, Nat.reduceLeDiff, yP, yQ, yR, yS, yT, argsE, yU, yV, yW, Int.reduceLT, Int.reduceLE, Int.reduceToNat, Int.reduceEq, Nat.reduceLT, td, ld, c1, undef_eq]
    case' inr => simp only [↓eD0, ↓eD1, eC0, eC1, eC2, eC3, eC4, eC5, eC6, wantedE, ↓reduceIte, Nat.reduceEqDiff, yA, yB, reread, yC, yD, yE, yF, yG, yH, Value.cells, yI, yJ, outE, lks, lkR, rdV, neg1, evs, opt, Nat.reduceAdd, Nat.reduceMul, and_self, reduceCtorEq, yK, yL, yM, Value.oneCell', yN, yO, sets, fillL, Nat.reduceLeDiff, yP, yQ, yR, yS, yT, argsE, yU, yV, yW, Int.reduceLT, Int.reduceLE, Int.reduceToNat, Int.reduceEq, Nat.reduceLT, td, ld, c1, c2, undef_eq]
    all_goals
      refine appK_of (sanity_app (hH.Old (fin _))) ?_
      rintro _ _ ⟨e2, rfl⟩
      rw [e2]
      clear e2
      simp only [↓eD0, ↓eD1, eC0, eC1, eC2, eC3, eC4, eC5, eC6, wantedE, ↓reduceIte, Nat.reduceEqDiff, yA, yB, reread, yC, yD, yE, yF, yG, yH, Value.cells, yI, yJ, outE, lks, lkR, rdV, neg1, evs, opt, Nat.reduceAdd, Nat.reduceMul, and_self, reduceCtorEq, yK, yL, yM, Value.oneCell', yN, yO, sets, fillL, Nat.reduceLeDiff, yP, yQ, yR, yS, yT, argsE, yU, yV, yW, Int.reduceLT, Int.reduceLE, Int.reduceToNat, Int.reduceEq, Nat.reduceLT, undef_eq]
      rw [ap_nil]
      first | exact ⟨fin _, rfl⟩ | exact fin _
  obtain ⟨hn, hk2⟩ := hin
  have c1 : decide ((40 : Int) < (ls.length : Int)) = false := by rw [decide_eq_false]; omega
  have c2 : decide ((200 : Int) < (key.size : Int)) = false := by rw [decide_eq_false]; omega
  have hks2 : key.size < 100000000000 := by omega
  simp only [↓eD0, ↓eD1, eC0, eC1, eC2, eC3, eC4, eC5, eC6, wantedE, ↓reduceIte, Nat.reduceEqDiff, yA, yB, reread, yC, yD, yE, yF, yG, yH, Value.cells, yI, yJ, outE, lks, lkR, rdV, neg1, evs, opt, Nat.reduceAdd, Nat.reduceMul, and_self, reduceCtorEq, yK, yL, yM, Value.oneCell', yN, yO, sets, fillL, Nat.reduceLeDiff, yP, yQ, yR, yS, yT, argsE, yU, yV, yW, Int.reduceLT, Int.reduceLE, Int.reduceToNat, Int.reduceEq, Nat.reduceLT, td, ld, c1, c2, undef_eq]
  have hm0 : 0 ≤ c8.tmod 4 := Int.tmod_nonneg _ hc0
  have hm1 : c8.tmod 4 < 4 := Int.tmod_lt_of_pos _ (by decide)
  have hwc : IntKind.i64.wrap (1 + IntKind.i64.wrap (c8.tmod 4)) = 1 + c8.tmod 4 := by rw [wrap64' (n := c8.tmod 4) (by omega) (by omega), wrap64' (by omega) (by omega)]
  rw [hwc]
  obtain ⟨c, hc⟩ : ∃ c, c = 1 + c8.tmod 4 := ⟨_, rfl⟩
  rw [← hc]
  have hc1 : 1 ≤ c ∧ c ≤ 4 := by omega
  refine appK_of (lnew_app (c := c) hd) ?_
  rintro _ τ ⟨ho, rfl⟩
  have hn' : newV d c = .tuple #[.agg (recC d c (.slice none 0 0) (.slice none 0 0)).toArray, .int .i64 0] := if_pos hc1
  have rs19 : ∀ z : List Value, z.length = 19 → sets z 0 (recC d c (.slice none 0 0) (.slice none 0 0)) = recC d c (.slice none 0 0) (.slice none 0 0) := fun z hz => rec_sets hd hz
  rw [hn', ← ap_nil (σ := τ)]
  simp only [↓eD0, ↓eD1, eC0, eC1, eC2, eC3, eC4, eC5, eC6, wantedE, ↓reduceIte, Nat.reduceEqDiff, yA, yB, reread, yC, yD, yE, yF, yG, yH, Value.cells, yI, yJ, outE, lks, lkR, rdV, neg1, evs, opt, Nat.reduceAdd, Nat.reduceMul, and_self, reduceCtorEq, yK, yL, yM, Value.oneCell', yN, yO, sets, fillL, Nat.reduceLeDiff, yP, yQ, yR, yS, yT, argsE, yU, yV, yW, Int.reduceLT, Int.reduceLE, Int.reduceToNat, Int.reduceEq, Nat.reduceLT, rec_len hd, rec_take hd, rs19, rec_one, rec_ne, undef_eq]
  have oσ : Old σ τ := Old.trans .ap ho
  refine loop_for (J := fun i e θ => i ≤ ls.length ∧ e = [(2, .slice sa ls.length sc), (3, .string key), (9, .pointer (some ⟨τ.size, 0, none⟩)), (11, .int .i64 (i : Int))] ∧ ∃ l L a1 b1 a2 b2, HB σ θ τ.size i key l L a1 b1 a2 b2) ls.length
    ⟨by omega, rfl, recC d c (.slice none 0 0) (.slice none 0 0), ⟨d, c, [], []⟩, none, 0, none, 0, SB.new oσ (new_v hd (by unfold I64; omega)) .none .none (ver := 1) (by rw [ap_new0]; rfl) .ap, ⟨hc1.1, hc1.2, by simp, by simp, fun k hk => absurd hk (Nat.not_lt_zero _), rfl, rfl⟩, rfl, by simp, by simp⟩ ?_
  rintro i e θ hi ⟨_, rfl, l, L, a1, b1, a2, b2, h⟩
  have oθ := h.sb.old
  have hb9 := h.sb.hb
  have hlt9 := h.sb.toSR.lt
  by_cases hlt : i < ls.length
  case neg =>
    have : i = ls.length := by omega
    subst this
    have dl : decide ((ls.length : Int) < (ls.length : Int)) = false := by rw [decide_eq_false]; omega
    simp only [↓eD0, ↓eD1, eC0, eC1, eC2, eC3, eC4, eC5, eC6, wantedE, ↓reduceIte, Nat.reduceEqDiff, yA, yB, reread, yC, yD, yE, yF, yG, yH, Value.cells, yI, yJ, outE, lks, lkR, rdV, neg1, evs, opt, Nat.reduceAdd, Nat.reduceMul, and_self, reduceCtorEq, yK, yL, yM, Value.oneCell', yN, yO, sets, fillL, Nat.reduceLeDiff, yP, yQ, yR, yS, yT, argsE, yU, yV, yW, Int.reduceLT, Int.reduceLE, Int.reduceToNat, Int.reduceEq, Nat.reduceLT, dl, undef_eq]
    refine appK_of (sanity_app (hH.Old oθ)) ?_
    rintro _ _ ⟨e2, rfl⟩
    rw [e2]
    clear e2
    simp only [↓eD0, ↓eD1, eC0, eC1, eC2, eC3, eC4, eC5, eC6, wantedE, ↓reduceIte, Nat.reduceEqDiff, yA, yB, reread, yC, yD, yE, yF, yG, yH, Value.cells, yI, yJ, outE, lks, lkR, rdV, neg1, evs, opt, Nat.reduceAdd, Nat.reduceMul, and_self, reduceCtorEq, yK, yL, yM, Value.oneCell', yN, yO, sets, fillL, Nat.reduceLeDiff, yP, yQ, yR, yS, yT, argsE, yU, yV, yW, Int.reduceLT, Int.reduceLE, Int.reduceToNat, Int.reduceEq, Nat.reduceLT, undef_eq]
    first | exact ⟨oθ, rfl⟩ | exact oθ
  have dl : decide ((i : Int) < (ls.length : Int)) = true := by rw [decide_eq_true]; omega
  have hbd : (0:Int) ≤ (i:Int) ∧ (i:Int) < (ls.length : Int) := by omega
  have hw1 : IntKind.wrap .i64 ((i:Int) + 1) = ((i + 1 : Nat) : Int) := by rw [wrap64' (by omega) (by omega)]; omega
  have hx : (ls.map stpV)[i]? = some (stpV ls[i]) := by simp [hlt]
  obtain ⟨b', off, rfl, h1⟩ := (hw.Old oθ).at hx
  have hso := hok ls[i] (by simp)
  generalize hsi : ls[i] = s at h1 hso
  obtain ⟨⟨k0, k1⟩, hraw, n0, n1⟩ := hso
  have g5 : ∀ M, rd1 (ap θ M) ⟨b', off + i * 7 + 1 + 4, none⟩ = some (.string s.e.data) := fun M => by
    have := rd1_row (rdN_old (l := M) h1) (j := 5) (v := .string s.e.data) rfl
    exact this
  have g0 : ∀ M, rd1 (ap θ M) ⟨b', off + i * 7, none⟩ = some (.int .u8 s.kind) := fun M => by
    have := rd1_row (rdN_old (l := M) h1) (j := 0) (v := .int .u8 s.kind) rfl
    exact this
  have g6 : ∀ M, rd1 (ap θ M) ⟨b', off + i * 7 + 6, none⟩ = some (.int .u8 s.n) := fun M => by
    have := rd1_row (rdN_old (l := M) h1) (j := 6) (v := .int .u8 s.n) rfl
    exact this
  have ge : ∀ M, rdN (ap θ M) ⟨b', off + i * 7 + 1, none⟩ 5 = some (entV s.e) := fun M => by
    have := rdN_sub (rdN_old (l := M) h1) (a := 1) (m := 5) (by omega)
    exact this
  rw [← ap_nil (σ := θ)]
  by_cases hz : 600 < s.e.data.size
  · have dz : decide ((600 : Int) < (s.e.data.size : Int)) = true := by rw [decide_eq_true]; omega
    simp only [↓eD0, ↓eD1, eC0, eC1, eC2, eC3, eC4, eC5, eC6, wantedE, ↓reduceIte, Nat.reduceEqDiff, yA, yB, reread, yC, yD, yE, yF, yG, yH, Value.cells, yI, yJ, outE, lks, lkR, rdV, neg1, evs, opt, Nat.reduceAdd, Nat.reduceMul, and_self, reduceCtorEq, yK, yL, yM, Value.oneCell', yN, yO, sets, fillL, Nat.reduceLeDiff, yP, yQ, yR, yS, yT, argsE, yU, yV, yW, Int.reduceLT, Int.reduceLE, Int.reduceToNat, Int.reduceEq, Nat.reduceLT, dl, hbd, Int.toNat_natCast, g5, dz, undef_eq]
    refine appK_of (sanity_app (hH.Old (oθ.trans .ap))) ?_
    rintro _ _ ⟨e2, rfl⟩
    rw [e2]
    clear e2
    simp only [↓eD0, ↓eD1, eC0, eC1, eC2, eC3, eC4, eC5, eC6, wantedE, ↓reduceIte, Nat.reduceEqDiff, yA, yB, reread, yC, yD, yE, yF, yG, yH, Value.cells, yI, yJ, outE, lks, lkR, rdV, neg1, evs, opt, Nat.reduceAdd, Nat.reduceMul, and_self, reduceCtorEq, yK, yL, yM, Value.oneCell', yN, yO, sets, fillL, Nat.reduceLeDiff, yP, yQ, yR, yS, yT, argsE, yU, yV, yW, Int.reduceLT, Int.reduceLE, Int.reduceToNat, Int.reduceEq, Nat.reduceLT, undef_eq]
    rw [ap_nil]
    first | exact ⟨oθ, rfl⟩ | exact oθ
  have dz : decide ((600 : Int) < (s.e.data.size : Int)) = false := by rw [decide_eq_false]; omega
  have r9 : ∀ M, rdN (ap θ M) ⟨τ.size, 0, none⟩ 19 = some l := fun M => (h.sb.Old' (Old.ap (l := M))).rd
  have r17 : ∀ M, rd1 (ap θ M) ⟨τ.size, 17, none⟩ = some (.slice a1 L.E.length b1) := fun M => (h.sb.Old' (Old.ap (l := M))).rd17
  have V := h.sb.v
  simp only [↓eD0, ↓eD1, eC0, eC1, eC2, eC3, eC4, eC5, eC6, wantedE, ↓reduceIte, Nat.reduceEqDiff, yA, yB, reread, yC, yD, yE, yF, yG, yH, Value.cells, yI, yJ, outE, lks, lkR, rdV, neg1, evs, opt, Nat.reduceAdd, Nat.reduceMul, and_self, reduceCtorEq, yK, yL, yM, Value.oneCell', yN, yO, sets, fillL, Nat.reduceLeDiff, yP, yQ, yR, yS, yT, argsE, yU, yV, yW, Int.reduceLT, Int.reduceLE, Int.reduceToNat, Int.reduceEq, Nat.reduceLT, dl, hbd, Int.toNat_natCast, g5, dz, r9, V.len, V.sets, V.take, V.one, V.ne, g0, undef_eq]
  have b9ne12 : θ.size ≠ τ.size := by omega
  have b9ne13 : θ.size + 1 ≠ τ.size := by omega
  obtain ⟨v9, h9⟩ := h.sb.box
  have hle9 : σ.size ≤ θ.size := by omega
  have sfit : s.e.fit := ⟨hraw.1, hraw.2.1, hraw.2.2.1, hraw.2.2.2, by omega⟩
  have w12 : Away θ.size a1 := h.sb.u1.away (Nat.le_refl _)
  have x12 : Away θ.size a2 := h.sb.u2.away (Nat.le_refl _)
  have w13 : Away (θ.size + 1) a1 := h.sb.u1.away (by omega)
  have x13 : Away (θ.size + 1) a2 := h.sb.u2.away (by omega)
  have hEi := h.nE
  have hSi := h.nS
  by_cases k0' : s.kind.tmod 3 = 0
  case' pos =>
    have d0 : decide (s.kind.tmod 3 = 0) = true := decide_eq_true k0'
    simp only [↓eD0, ↓eD1, eC0, eC1, eC2, eC3, eC4, eC5, eC6, wantedE, ↓reduceIte, Nat.reduceEqDiff, yA, yB, reread, yC, yD, yE, yF, yG, yH, Value.cells, yI, yJ, outE, lks, lkR, rdV, neg1, evs, opt, Nat.reduceAdd, Nat.reduceMul, and_self, reduceCtorEq, yK, yL, yM, Value.oneCell', yN, yO, sets, fillL, Nat.reduceLeDiff, yP, yQ, yR, yS, yT, argsE, yU, yV, yW, Int.reduceLT, Int.reduceLE, Int.reduceToNat, Int.reduceEq, Nat.reduceLT, d0, r9, hbd, Int.toNat_natCast, ge, undef_eq]
    refine appK_of (lappend_app (e := s.e) (V.Old .ap) sfit h.good.c4 h.good.r) ?_
    rintro v θ3 ⟨ho3, l', a1', b1', rfl, V3, f3⟩
    rw [← zeroL] at ho3 f3
    have sz3 : (ap θ [.cells 1 l (0, 0), .cells 0 zeroL (0, 0)]).size = θ.size + 2 := by simp [ap_size]
    rw [sz3] at f3
    have z13 : θ3[θ.size + 1]? = some (.cells 0 zeroL (0, 0)) := (ho3.2 _ (by rw [sz3]; omega)).trans (by rw [ap_new]; rfl)
    have z12 : θ3[θ.size]? = some (.cells 1 l (0, 0)) := (ho3.2 _ (by rw [sz3]; omega)).trans (by rw [ap_new0]; rfl)
    have z9 : θ3[τ.size]? = some (.cells v9 l (0, 0)) := (ho3.2 _ (by rw [sz3]; omega)).trans ((ap_old hlt9).trans h9)
    have oθ3 : Old σ θ3 := (oθ.trans .ap).trans ho3
    have Vo : LgV θ3 l L a1 b1 a2 b2 := V.Old (Old.trans .ap ho3)
    have le3 := ho3.1
    rw [sz3] at le3
    obtain ⟨θ4, w4, o4, s4, g4, e4, V4⟩ := put19 (b := θ.size + 1) oθ3 (by omega) z13 rfl V3 (w13.fr f3 (by omega)) x13
    have Vo4 := Vo.but e4 w13 x13
    obtain ⟨θ5, w5, o5, s5, g5', e5, V5⟩ := put19 (b := θ.size) o4 hle9 ((e4 _ (by omega)).trans z12) V.len V4 (w12.fr f3 (by omega)) x12
    have Vo5 := Vo4.but e5 w12 x12
    have g13 := (e5 (θ.size + 1) (by omega)).trans g4
    have y9 : θ5[τ.size]? = some (.cells v9 l (0, 0)) := (e5 _ (by omega)).trans ((e4 _ (by omega)).trans z9)
    have r13 := rdN_all g4 V3.len
    have r13' := rdN_all g13 V3.len
    have t13 : rd1 θ5 ⟨θ.size + 1, 17, none⟩ = some (.slice a1' (appF L s.e).1.E.length b1') := by rw [rd1_eq, g13]; exact V3.c17
    have t9 : rd1 θ5 ⟨τ.size, 17, none⟩ = some (.slice a1 L.E.length b1) := by rw [rd1_eq, y9]; exact V.c17
    have r9' := rdN_all y9 V.len
    simp only [↓eD0, ↓eD1, eC0, eC1, eC2, eC3, eC4, eC5, eC6, wantedE, ↓reduceIte, Nat.reduceEqDiff, yA, yB, reread, yC, yD, yE, yF, yG, yH, Value.cells, yI, yJ, outE, lks, lkR, rdV, neg1, evs, opt, Nat.reduceAdd, Nat.reduceMul, and_self, reduceCtorEq, yK, yL, yM, Value.oneCell', yN, yO, sets, fillL, Nat.reduceLeDiff, yP, yQ, yR, yS, yT, argsE, yU, yV, yW, Int.reduceLT, Int.reduceLE, Int.reduceToNat, Int.reduceEq, Nat.reduceLT, V3.len, w4, r13, w5, undef_eq]
    have hTB : TB σ θ5 τ.size θ.size i key l' (appF L s.e).1 a1' b1' a2 b2 := by
      refine ⟨o5, hb9, ⟨v9, l, y9, V.len⟩, ⟨_, g5'⟩, V5, h.sb.w1.fr f3 (by omega), h.sb.w2, ?_, ?_, good_app h.good, ?_, ?_, ?_⟩
      · rw [s5, s4]; exact (h.sb.u1.mono (by omega)).fr f3 le3
      · rw [s5, s4]; exact h.sb.u2.mono (by omega)
      · rw [app_seals]; exact h.key
      · have := (app_few5 (L := L) (x := s.e)).1; omega
      · have := (app_few5 (L := L) (x := s.e)).2; omega
    have hfl := fol_app (L := L) (e := s.e)
    have hnl := V.fit.n
    have hcs : (decide ((appF L s.e).2 = 0) = true ∧ decide (((appF L s.e).1.E.length : Int) = IntKind.i64.wrap ((L.E.length : Int) + 1)) = true) ∨ (decide ((appF L s.e).2 = 0) = false ∧ decide (((appF L s.e).1.E.length : Int) = (L.E.length : Int)) = true) := by
      rcases app_cases (L := L) (e := s.e) with ⟨p1, p2⟩ | ⟨p1, p2⟩
      · exact .inl ⟨decide_eq_true p1, by rw [decide_eq_true]; rw [wrap64' (by omega) (by omega), p2]; omega⟩
      · exact .inr ⟨decide_eq_false p1, by rw [decide_eq_true]; rw [p2]⟩
    rcases hcs with ⟨p1, p2⟩ | ⟨p1, p2⟩
  case' pos.inl => simp only [↓eD0, ↓eD1, eC0, eC1, eC2, eC3, eC4, eC5, eC6, wantedE, ↓reduceIte, Nat.reduceEqDiff, yA, yB, reread, yC, yD, yE, yF, yG, yH, Value.cells, yI, yJ, outE, lks, lkR, rdV, neg1, evs, opt, Nat.reduceAdd, Nat.reduceMul, and_self, reduceCtorEq, yK, yL, yM, Value.oneCell', yN, yO, sets, fillL, Nat.reduceLeDiff, yP, yQ, yR, yS, yT, argsE, yU, yV, yW, Int.reduceLT, Int.reduceLE, Int.reduceToNat, Int.reduceEq, Nat.reduceLT, p1, p2, t13, t9, r13', r9', Bool.not_true, undef_eq]
  case' pos.inr => simp only [↓eD0, ↓eD1, eC0, eC1, eC2, eC3, eC4, eC5, eC6, wantedE, ↓reduceIte, Nat.reduceEqDiff, yA, yB, reread, yC, yD, yE, yF, yG, yH, Value.cells, yI, yJ, outE, lks, lkR, rdV, neg1, evs, opt, Nat.reduceAdd, Nat.reduceMul, and_self, reduceCtorEq, yK, yL, yM, Value.oneCell', yN, yO, sets, fillL, Nat.reduceLeDiff, yP, yQ, yR, yS, yT, argsE, yU, yV, yW, Int.reduceLT, Int.reduceLE, Int.reduceToNat, Int.reduceEq, Nat.reduceLT, p1, p2, t13, t9, r13', r9', Bool.not_true, Bool.not_false, undef_eq]
  case' pos.inl =>
    refine appK_of (lfollows_app Vo5.r V5.r V.fit.n) ?_
    rintro _ _ ⟨e2, rfl⟩
    rw [e2, hfl]
    clear e2
    simp only [↓eD0, ↓eD1, eC0, eC1, eC2, eC3, eC4, eC5, eC6, wantedE, ↓reduceIte, Nat.reduceEqDiff, yA, yB, reread, yC, yD, yE, yF, yG, yH, Value.cells, yI, yJ, outE, lks, lkR, rdV, neg1, evs, opt, Nat.reduceAdd, Nat.reduceMul, and_self, reduceCtorEq, yK, yL, yM, Value.oneCell', yN, yO, sets, fillL, Nat.reduceLeDiff, yP, yQ, yR, yS, yT, argsE, yU, yV, yW, Int.reduceLT, Int.reduceLE, Int.reduceToNat, Int.reduceEq, Nat.reduceLT, Bool.not_true, undef_eq]
  case' pos.inr =>
    refine appK_of (lfollows_app Vo5.r V5.r V.fit.n) ?_
    rintro _ _ ⟨e2, rfl⟩
    rw [e2, hfl]
    clear e2
    simp only [↓eD0, ↓eD1, eC0, eC1, eC2, eC3, eC4, eC5, eC6, wantedE, ↓reduceIte, Nat.reduceEqDiff, yA, yB, reread, yC, yD, yE, yF, yG, yH, Value.cells, yI, yJ, outE, lks, lkR, rdV, neg1, evs, opt, Nat.reduceAdd, Nat.reduceMul, and_self, reduceCtorEq, yK, yL, yM, Value.oneCell', yN, yO, sets, fillL, Nat.reduceLeDiff, yP, yQ, yR, yS, yT, argsE, yU, yV, yW, Int.reduceLT, Int.reduceLE, Int.reduceToNat, Int.reduceEq, Nat.reduceLT, Bool.not_true, undef_eq]
  case' neg =>
    have d0 : decide (s.kind.tmod 3 = 0) = false := decide_eq_false k0'
    have hno : TB σ (ap θ [.cells 1 l (0, 0)]) τ.size θ.size i key l L a1 b1 a2 b2 :=
      ⟨oθ.trans .ap, hb9, ⟨v9, l, (ap_old hlt9).trans h9, V.len⟩, ⟨1, by rw [ap_new0]; rfl⟩, V.Old .ap, h.sb.w1, h.sb.w2, h.sb.u1.mono (by simp [ap_size]), h.sb.u2.mono (by simp [ap_size]), h.good, h.key, by omega, by omega⟩
    rcases Decidable.em (s.kind.tmod 3 = 1) with k1' | k1'
  case' neg.inl =>
    have d1 : decide (s.kind.tmod 3 = 1) = true := decide_eq_true k1'
    simp only [↓eD0, ↓eD1, eC0, eC1, eC2, eC3, eC4, eC5, eC6, wantedE, ↓reduceIte, Nat.reduceEqDiff, yA, yB, reread, yC, yD, yE, yF, yG, yH, Value.cells, yI, yJ, outE, lks, lkR, rdV, neg1, evs, opt, Nat.reduceAdd, Nat.reduceMul, and_self, reduceCtorEq, yK, yL, yM, Value.oneCell', yN, yO, sets, fillL, Nat.reduceLeDiff, yP, yQ, yR, yS, yT, argsE, yU, yV, yW, Int.reduceLT, Int.reduceLE, Int.reduceToNat, Int.reduceEq, Nat.reduceLT, d0, d1, r9, undef_eq]
    generalize hθ1 : ap θ [.cells 1 l (0, 0)] = θ1 at hno
    refine appK_of (lseal_app (key := key) hno.v hks2 (hH.Old hno.old)) ?_
    rintro v θ3 ⟨ho3, l', a1', b1', a2', b2', rfl, W3, V3, f3, f3'⟩
    rcases Decidable.em ((sealS L key).2 = 0) with hse | hse
    case' inr =>
      have dse : decide ((sealS L key).2 = 0) = false := decide_eq_false hse
      have hTB : TB σ (ap θ3 [.cells 1 l' (0, 0)]) τ.size θ.size i key l L a1 b1 a2 b2 := by
        have hle := ho3.1
        have o13 : Old θ1 (ap θ3 [.cells 1 l' (0, 0)]) := ho3.trans .ap
        obtain ⟨ver, z, q9, hz9⟩ := hno.q9
        obtain ⟨v12, q12⟩ := hno.q12
        exact ⟨hno.old.trans o13, hb9, ⟨ver, z, (o13.2 _ (Array.getElem?_eq_some_iff.1 q9).1).trans q9, hz9⟩, ⟨v12, (o13.2 _ (Array.getElem?_eq_some_iff.1 q12).1).trans q12⟩, hno.v.Old o13, hno.w1, hno.w2, hno.u1.mono o13.1, hno.u2.mono o13.1, hno.good, hno.key, hno.nE, hno.nS⟩
      rw [← ap_nil (σ := θ3)]
      simp only [↓eD0, ↓eD1, eC0, eC1, eC2, eC3, eC4, eC5, eC6, wantedE, ↓reduceIte, Nat.reduceEqDiff, yA, yB, reread, yC, yD, yE, yF, yG, yH, Value.cells, yI, yJ, outE, lks, lkR, rdV, neg1, evs, opt, Nat.reduceAdd, Nat.reduceMul, and_self, reduceCtorEq, yK, yL, yM, Value.oneCell', yN, yO, sets, fillL, Nat.reduceLeDiff, yP, yQ, yR, yS, yT, argsE, yU, yV, yW, Int.reduceLT, Int.reduceLE, Int.reduceToNat, Int.reduceEq, Nat.reduceLT, W3.len, W3.sets, W3.take, W3.one, W3.ne, dse, undef_eq]
    case' inl =>
      have dse : decide ((sealS L key).2 = 0) = true := decide_eq_true hse
      have V3 := V3 hse
      have hl1 : θ1.size = θ.size + 1 := by rw [← hθ1]; simp [ap_size]
      have hn1 : ¬(L.E.length : Int) = endF L.S := fun hh => by
        have : sealS L key = (.zero, 4) := if_pos hh
        rw [this] at hse; cases hse
      have hn2 : L.S.length < 256 := by omega
      have hsv : sealS L key = (⟨L.d, L.c, L.E, L.S ++ [newSeal L key]⟩, 0) := by unfold sealS; rw [if_neg hn1, if_neg (by omega)]
      rw [hsv] at V3 ⊢
      have hgd : Good ⟨L.d, L.c, L.E, L.S ++ [newSeal L key]⟩ := good_seal h.good hn1 hn2
      have hkk : keyOk key (L.S ++ [newSeal L key]) = true := keyOk_new h.key
      have hls : lsealedF ⟨L.d, L.c, L.E, L.S ++ [newSeal L key]⟩ key = ((L.E.length : Int), 0) := by
        rw [keyOk_sealed (L := ⟨L.d, L.c, L.E, L.S ++ [newSeal L key]⟩) hkk, endF_app]
        rfl
      rw [← ap_nil (σ := θ3)]
      simp only [↓eD0, ↓eD1, eC0, eC1, eC2, eC3, eC4, eC5, eC6, wantedE, ↓reduceIte, Nat.reduceEqDiff, yA, yB, reread, yC, yD, yE, yF, yG, yH, Value.cells, yI, yJ, outE, lks, lkR, rdV, neg1, evs, opt, Nat.reduceAdd, Nat.reduceMul, and_self, reduceCtorEq, yK, yL, yM, Value.oneCell', yN, yO, sets, fillL, Nat.reduceLeDiff, yP, yQ, yR, yS, yT, argsE, yU, yV, yW, Int.reduceLT, Int.reduceLE, Int.reduceToNat, Int.reduceEq, Nat.reduceLT, V3.len, V3.sets, V3.take, V3.one, V3.ne, undef_eq]
      have hθ3s : θ.size + 1 ≤ θ3.size := by have := ho3.1; omega
      have q15 : (ap θ3 [.cells 1 l' (0, 0)])[θ3.size]? = some (.cells 1 l' (0, 0)) := by rw [ap_new0]; rfl
      have o13 : Old θ1 (ap θ3 [.cells 1 l' (0, 0)]) := ho3.trans .ap
      have V4 := V3.Old (Old.ap (l := [.cells 1 l' (0, 0)]))
      have hs4 : (ap θ3 [.cells 1 l' (0, 0)]).size = θ3.size + 1 := by simp [ap_size]
      generalize ap θ3 [.cells 1 l' (0, 0)] = θ4 at q15 o13 V4 hs4 ⊢
      obtain ⟨ver9, z9, q9, hz9⟩ := hno.q9
      obtain ⟨v12, q12⟩ := hno.q12
      have q9' : θ1[τ.size]? = some (.cells v9 l (0, 0)) := by rw [← hθ1]; exact (ap_old hlt9).trans h9
      have y9 : θ4[τ.size]? = some (.cells v9 l (0, 0)) := (o13.2 _ (by omega)).trans q9'
      have y12 : θ4[θ.size]? = some (.cells v12 l (0, 0)) := (o13.2 _ (by omega)).trans q12
      have o4 : Old σ θ4 := hno.old.trans o13
      have Vo4 := hno.v.Old o13
      have r15 := rdN_all q15 V3.len
      have r9' := rdN_all y9 V.len
      have t9 : rd1 θ4 ⟨τ.size, 17, none⟩ = some (.slice a1 L.E.length b1) := by rw [rd1_eq, y9]; exact V.c17
      refine appK_of (lsealed_app V4 hks2 (hH.Old o4)) ?_
      rintro _ _ ⟨e2, rfl⟩
      rw [e2, hls]
      clear e2
      simp only [↓eD0, ↓eD1, eC0, eC1, eC2, eC3, eC4, eC5, eC6, wantedE, ↓reduceIte, Nat.reduceEqDiff, yA, yB, reread, yC, yD, yE, yF, yG, yH, Value.cells, yI, yJ, outE, lks, lkR, rdV, neg1, evs, opt, Nat.reduceAdd, Nat.reduceMul, and_self, reduceCtorEq, yK, yL, yM, Value.oneCell', yN, yO, sets, fillL, Nat.reduceLeDiff, yP, yQ, yR, yS, yT, argsE, yU, yV, yW, Int.reduceLT, Int.reduceLE, Int.reduceToNat, Int.reduceEq, Nat.reduceLT, t9, r9', r15, undef_eq]
      refine appK_of (lfollows_app Vo4.r V4.r V.fit.n) ?_
      rintro _ _ ⟨e2, rfl⟩
      rw [e2, fol_refl (L := L) (M := ⟨L.d, L.c, L.E, L.S ++ [newSeal L key]⟩) rfl rfl rfl]
      clear e2
      simp only [↓eD0, ↓eD1, eC0, eC1, eC2, eC3, eC4, eC5, eC6, wantedE, ↓reduceIte, Nat.reduceEqDiff, yA, yB, reread, yC, yD, yE, yF, yG, yH, Value.cells, yI, yJ, outE, lks, lkR, rdV, neg1, evs, opt, Nat.reduceAdd, Nat.reduceMul, and_self, reduceCtorEq, yK, yL, yM, Value.oneCell', yN, yO, sets, fillL, Nat.reduceLeDiff, yP, yQ, yR, yS, yT, argsE, yU, yV, yW, Int.reduceLT, Int.reduceLE, Int.reduceToNat, Int.reduceEq, Nat.reduceLT, Bool.not_true, r9', r15, undef_eq]
      refine appK_of (lfollows_app V4.r Vo4.r V.fit.n) ?_
      rintro _ _ ⟨e2, rfl⟩
      rw [e2, fol_refl (L := ⟨L.d, L.c, L.E, L.S ++ [newSeal L key]⟩) (M := L) rfl rfl rfl]
      clear e2
      have A1 : Away θ.size a1' := (h.sb.u1.away (Nat.le_refl _)).fr f3 (by omega)
      have A2 : Away θ.size a2' := (h.sb.u2.away (Nat.le_refl _)).fr f3' (by omega)
      obtain ⟨θ5, w5, o5, s5, g5', e5, V5⟩ := put19 (b := θ.size) o4 hle9 y12 V.len V4 A1 A2
      have hTB : TB σ θ5 τ.size θ.size i key l' ⟨L.d, L.c, L.E, L.S ++ [newSeal L key]⟩ a1' b1' a2' b2' := by
        refine ⟨o5, hb9, ⟨v9, l, (e5 _ (by omega)).trans y9, V.len⟩, ⟨_, g5'⟩, V5, h.sb.w1.fr f3 (by omega), h.sb.w2.fr f3' (by omega), ?_, ?_, hgd, hkk, by simp only; omega, by simp; omega⟩
        · rw [s5, hs4]; exact ((h.sb.u1.mono (by omega)).fr f3 ho3.1).mono (by omega)
        · rw [s5, hs4]; exact ((h.sb.u2.mono (by omega)).fr f3' ho3.1).mono (by omega)
      simp only [↓eD0, ↓eD1, eC0, eC1, eC2, eC3, eC4, eC5, eC6, wantedE, ↓reduceIte, Nat.reduceEqDiff, yA, yB, reread, yC, yD, yE, yF, yG, yH, Value.cells, yI, yJ, outE, lks, lkR, rdV, neg1, evs, opt, Nat.reduceAdd, Nat.reduceMul, and_self, reduceCtorEq, yK, yL, yM, Value.oneCell', yN, yO, sets, fillL, Nat.reduceLeDiff, yP, yQ, yR, yS, yT, argsE, yU, yV, yW, Int.reduceLT, Int.reduceLE, Int.reduceToNat, Int.reduceEq, Nat.reduceLT, Bool.not_true, r15, V4.len, w5, undef_eq]
  case' neg.inr =>
    have d1 : decide (s.kind.tmod 3 = 1) = false := decide_eq_false k1'
    rcases Decidable.em (s.kind.tmod 3 = 2) with k2' | k2'
  case' neg.inr.inr =>
    have d2 : decide (s.kind.tmod 3 = 2) = false := decide_eq_false k2'
    have hTB := hno
    simp only [↓eD0, ↓eD1, eC0, eC1, eC2, eC3, eC4, eC5, eC6, wantedE, ↓reduceIte, Nat.reduceEqDiff, yA, yB, reread, yC, yD, yE, yF, yG, yH, Value.cells, yI, yJ, outE, lks, lkR, rdV, neg1, evs, opt, Nat.reduceAdd, Nat.reduceMul, and_self, reduceCtorEq, yK, yL, yM, Value.oneCell', yN, yO, sets, fillL, Nat.reduceLeDiff, yP, yQ, yR, yS, yT, argsE, yU, yV, yW, Int.reduceLT, Int.reduceLE, Int.reduceToNat, Int.reduceEq, Nat.reduceLT, d0, d1, d2, undef_eq]
  case' neg.inr.inl =>
    have d2 : decide (s.kind.tmod 3 = 2) = true := decide_eq_true k2'
    have hlen0 : 0 ≤ (L.E.length : Int) := by omega
    have hne0 : ((L.E.length : Int) + 1 = 0) = False := eq_false (by omega)
    have hwl : IntKind.wrap .i64 ((L.E.length : Int) + 1) = (L.E.length : Int) + 1 := wrap64' (by omega) (by omega)
    have hwn : IntKind.wrap .i64 s.n = s.n := wrap64' (by omega) (by omega)
    have hm0 : 0 ≤ s.n.tmod ((L.E.length : Int) + 1) := Int.tmod_nonneg _ n0
    have hm1 : s.n.tmod ((L.E.length : Int) + 1) < (L.E.length : Int) + 1 := Int.tmod_lt_of_pos _ (by omega)
    simp only [↓eD0, ↓eD1, eC0, eC1, eC2, eC3, eC4, eC5, eC6, wantedE, ↓reduceIte, Nat.reduceEqDiff, yA, yB, reread, yC, yD, yE, yF, yG, yH, Value.cells, yI, yJ, outE, lks, lkR, rdV, neg1, evs, opt, Nat.reduceAdd, Nat.reduceMul, and_self, reduceCtorEq, yK, yL, yM, Value.oneCell', yN, yO, sets, fillL, Nat.reduceLeDiff, yP, yQ, yR, yS, yT, argsE, yU, yV, yW, Int.reduceLT, Int.reduceLE, Int.reduceToNat, Int.reduceEq, Nat.reduceLT, d0, d1, d2, r9, r17, hbd, Int.toNat_natCast, g6, hwn, hwl, hne0, undef_eq]
    obtain ⟨N, hN⟩ : ∃ N : Nat, s.n.tmod ((L.E.length : Int) + 1) = (N : Int) := ⟨(s.n.tmod ((L.E.length : Int) + 1)).toNat, by omega⟩
    rw [hN] at hm1 ⊢
    refine appK_of (lcut_app (n := (N : Int)) (V.Old .ap)) ?_
    rintro v θ3 ⟨ho3, l', a1', b1', a2', b2', rfl, -, V3, f3, f3'⟩
    have V3 := V3 (by omega)
    have hcv : lcutF L (N : Int) = (⟨L.d, L.c, L.E.take N, L.S.take (cutK N L.S)⟩, 0) := by unfold lcutF; rw [if_neg (by omega), Int.toNat_natCast]
    rw [hcv] at V3 ⊢
    have hgd := good_cut (n := N) h.good (by omega)
    rw [← zeroL] at ho3 f3 f3'
    have sz3 : (ap θ [.cells 1 l (0, 0), .cells 0 zeroL (0, 0)]).size = θ.size + 2 := by simp [ap_size]
    rw [sz3] at f3 f3'
    have z13 : θ3[θ.size + 1]? = some (.cells 0 zeroL (0, 0)) := (ho3.2 _ (by rw [sz3]; omega)).trans (by rw [ap_new]; rfl)
    have z12 : θ3[θ.size]? = some (.cells 1 l (0, 0)) := (ho3.2 _ (by rw [sz3]; omega)).trans (by rw [ap_new0]; rfl)
    have z9 : θ3[τ.size]? = some (.cells v9 l (0, 0)) := (ho3.2 _ (by rw [sz3]; omega)).trans ((ap_old hlt9).trans h9)
    have oθ3 : Old σ θ3 := (oθ.trans .ap).trans ho3
    have Vo : LgV θ3 l L a1 b1 a2 b2 := V.Old (Old.trans .ap ho3)
    have le3 := ho3.1
    rw [sz3] at le3
    obtain ⟨θ4, w4, o4, s4, g4, e4, V4⟩ := put19 (b := θ.size + 1) oθ3 (by omega) z13 rfl V3 (w13.fr f3 (by omega)) (x13.fr f3' (by omega))
    have Vo4 := Vo.but e4 w13 x13
    obtain ⟨θ5, w5, o5, s5, g5', e5, V5⟩ := put19 (b := θ.size) o4 hle9 ((e4 _ (by omega)).trans z12) V.len V4 (w12.fr f3 (by omega)) (x12.fr f3' (by omega))
    have y9 : θ4[τ.size]? = some (.cells v9 l (0, 0)) := (e4 _ (by omega)).trans z9
    have r13 := rdN_all g4 V3.len
    have r9' := rdN_all y9 V.len
    have hTB : TB σ θ5 τ.size θ.size i key l' ⟨L.d, L.c, L.E.take N, L.S.take (cutK N L.S)⟩ a1' b1' a2' b2' := by
      refine ⟨o5, hb9, ⟨v9, l, (e5 _ (by omega)).trans y9, V.len⟩, ⟨_, g5'⟩, V5, h.sb.w1.fr f3 (by omega), h.sb.w2.fr f3' (by omega), ?_, ?_, hgd, keyOk_take h.key, ?_, ?_⟩
      · rw [s5, s4]; exact (h.sb.u1.mono (by omega)).fr f3 le3
      · rw [s5, s4]; exact (h.sb.u2.mono (by omega)).fr f3' le3
      · simp only [List.length_take]; omega
      · simp only [List.length_take]; omega
    simp only [↓eD0, ↓eD1, eC0, eC1, eC2, eC3, eC4, eC5, eC6, wantedE, ↓reduceIte, Nat.reduceEqDiff, yA, yB, reread, yC, yD, yE, yF, yG, yH, Value.cells, yI, yJ, outE, lks, lkR, rdV, neg1, evs, opt, Nat.reduceAdd, Nat.reduceMul, and_self, reduceCtorEq, yK, yL, yM, Value.oneCell', yN, yO, sets, fillL, Nat.reduceLeDiff, yP, yQ, yR, yS, yT, argsE, yU, yV, yW, Int.reduceLT, Int.reduceLE, Int.reduceToNat, Int.reduceEq, Nat.reduceLT, V3.len, w4, r13, r9', undef_eq]
    refine appK_of (lfollows_app V4.r Vo4.r (by simp only [List.length_take]; omega)) ?_
    rintro _ _ ⟨e2, rfl⟩
    rw [e2, fol_cut (L := L) (n := N) (by omega)]
    clear e2
    simp only [↓eD0, ↓eD1, eC0, eC1, eC2, eC3, eC4, eC5, eC6, wantedE, ↓reduceIte, Nat.reduceEqDiff, yA, yB, reread, yC, yD, yE, yF, yG, yH, Value.cells, yI, yJ, outE, lks, lkR, rdV, neg1, evs, opt, Nat.reduceAdd, Nat.reduceMul, and_self, reduceCtorEq, yK, yL, yM, Value.oneCell', yN, yO, sets, fillL, Nat.reduceLeDiff, yP, yQ, yR, yS, yT, argsE, yU, yV, yW, Int.reduceLT, Int.reduceLE, Int.reduceToNat, Int.reduceEq, Nat.reduceLT, Bool.not_true, r13, V3.len, w5, undef_eq]
  all_goals
    obtain ⟨r12, θ6, w6, hH6⟩ := hTB.next
    have r96 := hH6.sb.toSR.rd
    simp only [↓eD0, ↓eD1, eC0, eC1, eC2, eC3, eC4, eC5, eC6, wantedE, ↓reduceIte, Nat.reduceEqDiff, yA, yB, reread, yC, yD, yE, yF, yG, yH, Value.cells, yI, yJ, outE, lks, lkR, rdV, neg1, evs, opt, Nat.reduceAdd, Nat.reduceMul, and_self, reduceCtorEq, yK, yL, yM, Value.oneCell', yN, yO, sets, fillL, Nat.reduceLeDiff, yP, yQ, yR, yS, yT, argsE, yU, yV, yW, Int.reduceLT, Int.reduceLE, Int.reduceToNat, Int.reduceEq, Nat.reduceLT, r12, hTB.v.len, hTB.v.take, w6, r96, undef_eq]
    refine appK_of (lsealed_app hH6.sb.v hks2 (hH.Old hH6.sb.old)) ?_
    rintro _ _ ⟨e2, rfl⟩
    rw [e2, keyOk_sealed hH6.key]
    clear e2
    simp only [↓eD0, ↓eD1, eC0, eC1, eC2, eC3, eC4, eC5, eC6, wantedE, ↓reduceIte, Nat.reduceEqDiff, yA, yB, reread, yC, yD, yE, yF, yG, yH, Value.cells, yI, yJ, outE, lks, lkR, rdV, neg1, evs, opt, Nat.reduceAdd, Nat.reduceMul, and_self, reduceCtorEq, yK, yL, yM, Value.oneCell', yN, yO, sets, fillL, Nat.reduceLeDiff, yP, yQ, yR, yS, yT, argsE, yU, yV, yW, Int.reduceLT, Int.reduceLE, Int.reduceToNat, Int.reduceEq, Nat.reduceLT, r96, undef_eq]
    refine appK_of (lcheck_app hH6.sb.v (hH.Old hH6.sb.old)) ?_
    rintro _ _ ⟨e2, rfl⟩
    rw [e2, good_iff.2 hH6.good]
    clear e2
    simp only [↓eD0, ↓eD1, eC0, eC1, eC2, eC3, eC4, eC5, eC6, wantedE, ↓reduceIte, Nat.reduceEqDiff, yA, yB, reread, yC, yD, yE, yF, yG, yH, Value.cells, yI, yJ, outE, lks, lkR, rdV, neg1, evs, opt, Nat.reduceAdd, Nat.reduceMul, and_self, reduceCtorEq, yK, yL, yM, Value.oneCell', yN, yO, sets, fillL, Nat.reduceLeDiff, yP, yQ, yR, yS, yT, argsE, yU, yV, yW, Int.reduceLT, Int.reduceLE, Int.reduceToNat, Int.reduceEq, Nat.reduceLT, hw1, undef_eq]
    exact ⟨hlt, by omega, _, _, _, _, _, _, hH6⟩
end Go.Proofs.YtopnlllipkockaaDoor
