/- Walks of the functions that the claim reaches. Conditions: none. -/
import Derived.Test.YtljmjkpmkpchoaaDoorWi
import Derived.Test.YtljmjkpmkpchoaaDoorRows
import Derived.ProofKit
import Derived.LaidMore
set_option linter.all false
set_option linter.unusedSimpArgs false
set_option maxRecDepth 10000
set_option maxHeartbeats 1000000
namespace Go.Proofs.YtljmjkpmkpchoaaDoor
open Go Go.Cn Go.RowKit

theorem cells3 : Tryd.prog.cellsOf 3 = 1 := by kernel_rfl
theorem cells5 : Tryd.prog.cellsOf 5 = 1 := by kernel_rfl
theorem cells9 : Tryd.prog.cellsOf 9 = 1 := by kernel_rfl
theorem cells23 : Tryd.prog.cellsOf 23 = 16 := by kernel_rfl
theorem cells73 : Tryd.prog.cellsOf 73 = 16 := by kernel_rfl
theorem cells24 : Tryd.prog.cellsOf 24 = 1 := by kernel_rfl
theorem cells25 : Tryd.prog.cellsOf 25 = 1 := by kernel_rfl
theorem cells27 : Tryd.prog.cellsOf 27 = 19 := by kernel_rfl
theorem cells31 : Tryd.prog.cellsOf 31 = 5 := by kernel_rfl
theorem cells75 : Tryd.prog.cellsOf 75 = 33 := by kernel_rfl

variable {σ : H}

theorem rd_int {f : Nat} {cs : List Value} (h : Rd Tryd.prog σ f 3 cs) : ∃ n, cs = [.int .i64 n] := by
  cases f with
  | zero => exact h.elim
  | succ f => simp only [Rd, Tryd.underlying3] at h; obtain ⟨n, h, _⟩ := h; exact ⟨n, h⟩
theorem rd_byte {f : Nat} {cs : List Value} (h : Rd Tryd.prog σ f 5 cs) : ∃ n, cs = [.int .u8 n] := by
  cases f with
  | zero => exact h.elim
  | succ f => simp only [Rd, Tryd.underlying5] at h; obtain ⟨n, h, _⟩ := h; exact ⟨n, h⟩
theorem rd_str {f : Nat} {cs : List Value} (h : Rd Tryd.prog σ f 9 cs) : ∃ s, cs = [.string s] := by
  cases f with
  | zero => exact h.elim
  | succ f => simp only [Rd, Tryd.underlying9] at h; obtain ⟨n, h, _⟩ := h; exact ⟨n, h⟩

theorem dig_of : ∀ {cs : List Value}, (∀ i, i < cs.length → ∃ n, cs[i]? = some (.int .u8 n)) → ∃ d, cs = digC d ∧ d.length = cs.length
  | [], _ => ⟨[], rfl, rfl⟩
  | c :: cs, h => by
    obtain ⟨n, hn⟩ := h 0 (by simp)
    obtain ⟨d, rfl, hd⟩ := dig_of (cs := cs) fun i hi => by
      obtain ⟨m, hm⟩ := h (i + 1) (by simpa using hi)
      exact ⟨m, by simpa using hm⟩
    simp at hn
    exact ⟨n :: d, by simp [digC, hn], by simp [hd]⟩

theorem arr_dig {f : Nat} {cs : List Value} (h1 : cs.length = 16) (h2 : ∀ i, i < 16 → Rd Tryd.prog σ f 5 ((cs.drop (i * 1)).take 1)) : ∃ d, cs = digC d ∧ d.length = 16 := by
  obtain ⟨d, hd, hl⟩ := dig_of (cs := cs) fun i hi => by
    obtain ⟨n, hn⟩ := rd_byte (h2 i (by omega))
    refine ⟨n, ?_⟩
    have : ((cs.drop (i * 1)).take 1)[0]? = some (.int .u8 n) := by rw [hn]; rfl
    simpa [List.getElem?_take, List.getElem?_drop] using this
  exact ⟨d, hd, hl.trans h1⟩
theorem rd_dig {f : Nat} {cs : List Value} (h : Rd Tryd.prog σ f 23 cs) : ∃ d, cs = digC d ∧ d.length = 16 := by
  cases f with
  | zero => exact h.elim
  | succ f => simp only [Rd, Tryd.underlying23, cells23, cells5] at h; exact arr_dig h.1 h.2
theorem rd_seal {f : Nat} {cs : List Value} (h : Rd Tryd.prog σ f 73 cs) : ∃ d, cs = digC d ∧ d.length = 16 := by
  cases f with
  | zero => exact h.elim
  | succ f => simp only [Rd, Tryd.underlying73, cells73, cells5] at h; exact arr_dig h.1 h.2

theorem parts5 {cs : List Value} (h : cs.length = 5) : cs = (cs.drop 0).take 1 ++ (cs.drop 1).take 1 ++ (cs.drop 2).take 1 ++ (cs.drop 3).take 1 ++ (cs.drop 4).take 1 := by
  match cs, h with
  | [a, b, c, d, e], _ => rfl
theorem rd_ent {f : Nat} {cs : List Value} (h : Rd Tryd.prog σ f 31 cs) : ∃ e, cs = entV e := by
  cases f with
  | zero => exact h.elim
  | succ f =>
    simp only [Rd, Tryd.underlying31, cells31, List.forall_mem_cons, cells3, cells9] at h
    obtain ⟨hl, h1, h2, h3, h4, h5, _⟩ := h
    obtain ⟨n1, h1⟩ := rd_int h1
    obtain ⟨n2, h2⟩ := rd_int h2
    obtain ⟨n3, h3⟩ := rd_int h3
    obtain ⟨n4, h4⟩ := rd_int h4
    obtain ⟨s, h5⟩ := rd_str h5
    refine ⟨⟨n1, n2, n3, n4, s⟩, ?_⟩
    rw [parts5 hl, h1, h2, h3, h4, h5]
    rfl
theorem rd_sea {f : Nat} {cs : List Value} (h : Rd Tryd.prog σ f 75 cs) : ∃ s : Sea, s.ok ∧ cs = seaV s := by
  cases f with
  | zero => exact h.elim
  | succ f =>
    simp only [Rd, Tryd.underlying75, cells75, List.forall_mem_cons, cells3, cells23, cells73] at h
    obtain ⟨hl, h1, h2, h3, _⟩ := h
    obtain ⟨n1, h1⟩ := rd_int h1
    obtain ⟨d1, h2, l1⟩ := rd_dig h2
    obtain ⟨d2, h3, l2⟩ := rd_seal h3
    refine ⟨⟨n1, d1, d2⟩, ⟨l1, l2⟩, ?_⟩
    have h4 : (cs.drop 17).take 16 = cs.drop 17 := List.take_of_length_le (by simp [hl])
    have h5 : cs = (cs.drop 0).take 1 ++ ((cs.drop 1).take 16 ++ cs.drop 17) := by
      have e1 := List.take_append_drop 1 cs
      have e2 := List.take_append_drop 16 (cs.drop 1)
      rw [List.drop_drop] at e2
      rw [e2]
      simpa using e1.symm
    rw [h5, ← h4, h1, h2, h3]
    rfl

/-- A slice of data, read. -/
theorem rd_slice {α : Type} {f e s : Nat} {cs : List Value} {V : α → List Value} {ok : α → Prop} (hs : Tryd.prog.cellsOf e = s) (hV : ∀ l, Rd Tryd.prog σ f e l → ∃ x, ok x ∧ l = V x)
    (h : cs = [.slice none 0 0] ∨ (∃ b off len cap, cs = [.slice (some ⟨b, off, none⟩) len cap] ∧ 0 < cap ∧ len ≤ cap ∧ cap ≤ maxLen ∧ b < σ.size ∧
        (∀ i, i < cap → ∃ es, rdN σ ⟨b, off + i * Tryd.prog.cellsOf e, none⟩ (Tryd.prog.cellsOf e) = some es ∧ Rd Tryd.prog σ f e es)) ∨ ∃ a, cs = [.slice (some a) 0 0]) :
    ∃ (a : Option Addr) (c : Nat) (xs : List α), cs = [.slice a xs.length c] ∧ (∀ x ∈ xs, ok x) ∧ Row σ s (.slice a xs.length c) (xs.map V) ∧ CapOk s (.slice a xs.length c) := by
  subst hs
  rcases h with rfl | ⟨b, off, len, cap, rfl, h1, h2, h3, h4, h5⟩ | ⟨a, rfl⟩
  · exact ⟨none, 0, [], rfl, fun x hx => by simp at hx, ⟨none, 0, rfl, fun i x hx => by simp at hx⟩, none, 0, 0, rfl, by decide, .inl rfl⟩
  · have key : ∀ n, n ≤ cap → ∃ xs : List α, xs.length = n ∧ (∀ x ∈ xs, ok x) ∧ ∀ i x, (xs.map V)[i]? = some x → rdN σ ⟨b, off + i * Tryd.prog.cellsOf e, none⟩ (Tryd.prog.cellsOf e) = some x := by
      intro n
      induction n with
      | zero => intro _; exact ⟨[], rfl, fun x hx => by simp at hx, fun i x hx => by simp at hx⟩
      | succ n ih =>
        intro hn
        obtain ⟨xs, q1, q2, q3⟩ := ih (by omega)
        obtain ⟨es, r1, r2⟩ := h5 n (by omega)
        obtain ⟨x, r3, rfl⟩ := hV es r2
        refine ⟨xs ++ [x], by simp [q1], fun y hy => ?_, fun i y hy => ?_⟩
        · rcases List.mem_append.1 hy with hy | hy
          · exact q2 y hy
          · simp at hy; subst hy; exact r3
        · rw [List.map_append, List.getElem?_append] at hy
          split at hy
          · exact q3 i y hy
          · rename_i hi
            simp only [List.length_map, q1] at hi hy
            have : i = n := by
              by_cases hin : i - n = 0
              · omega
              · have : i - n ≥ 1 := by omega
                simp at hy
                rw [List.getElem?_eq_none (by simp; omega)] at hy
                cases hy
            subst this
            simp at hy
            rw [← hy]; exact r1
    obtain ⟨xs, q1, q2, q3⟩ := key len h2
    have hm : maxLen < big := by decide
    subst q1
    exact ⟨some ⟨b, off, none⟩, cap, xs, rfl, q2, ⟨some ⟨b, off, none⟩, cap, by simp, fun i x hx => ⟨b, off, rfl, q3 i x hx⟩⟩, _, _, _, rfl, by rw [capLow_small (by omega)]; exact h2, .inl (csz_small (by omega))⟩
  · exact ⟨some a, 0, [], rfl, fun x hx => by simp at hx, ⟨some a, 0, rfl, fun i x hx => by simp at hx⟩, _, _, _, rfl, Nat.zero_le _, .inl rfl⟩

theorem parts19 {cs : List Value} (h : cs.length = 19) : cs = (cs.drop 0).take 16 ++ ((cs.drop 16).take 1 ++ (cs.drop 17).take 1 ++ (cs.drop 18).take 1) := by
  have e1 := List.take_append_drop 16 cs
  have e2 : cs.drop 16 = (cs.drop 16).take 1 ++ (cs.drop 17).take 1 ++ (cs.drop 18).take 1 := by
    have : (cs.drop 16).length = 3 := by simp [h]
    generalize hd : cs.drop 16 = r at this ⊢
    have e17 : cs.drop 17 = r.drop 1 := by rw [← hd, List.drop_drop]
    have e18 : cs.drop 18 = r.drop 2 := by rw [← hd, List.drop_drop]
    rw [e17, e18]
    match r, this with
    | [a, b, c], _ => rfl
  rw [← e2]; simp

theorem dat_log {v : Value} (h : Dat Tryd.prog σ 27 v) : ∃ l L, v = .agg l.toArray ∧ RawLg σ l L := by
  simp only [Dat, Tryd.underlying27] at h
  obtain ⟨cs, f, rfl, h⟩ := h
  cases f with
  | zero => exact h.elim
  | succ f =>
    simp only [Rd, Tryd.underlying27, cells27, List.forall_mem_cons, cells3, cells23, cells24, cells25] at h
    obtain ⟨hl, h1, h2, h3, h4, _⟩ := h
    obtain ⟨d, g1, ld⟩ := rd_dig h1
    obtain ⟨c, g2⟩ := rd_int h2
    cases f with
    | zero => exact h3.elim
    | succ f =>
      simp only [Rd, Tryd.underlying24] at h3
      simp only [Rd, Tryd.underlying25] at h4
      obtain ⟨a, ca, E, g3, _, rE, cE⟩ := rd_slice (V := entV) (ok := fun _ => True) cells31 (fun l hl => let ⟨e, he⟩ := rd_ent hl; ⟨e, trivial, he⟩) h3
      obtain ⟨a', ca', S, g4, okS, rS, _⟩ := rd_slice (V := seaV) (ok := Sea.ok) cells75 (fun l hl => rd_sea hl) h4
      refine ⟨cs.toList, ⟨d, c, E, S⟩, by simp, ld, okS, a, ca, a', ca', ?_, rE, rS, cE⟩
      rw [parts19 hl, g1, g2, g3, g4]
      rfl

theorem dat_int {v : Value} (h : Dat Tryd.prog σ 3 v) : ∃ n, v = .int .i64 n := by
  simp only [Dat, Tryd.underlying3] at h
  obtain ⟨f, h⟩ := h
  obtain ⟨n, h⟩ := rd_int h
  injection h with h
  exact ⟨n, h⟩
end Go.Proofs.YtljmjkpmkpchoaaDoor

set_option linter.unusedSimpArgs false
set_option maxRecDepth 10000
set_option maxHeartbeats 1000000
namespace Go.Proofs.YtljmjkpmkpchoaaDoor
open Go Go.Cn Go.RowKit

abbrev laid0 : List (String × DataW Unit) := [("simulacrum/simulacrumref02.constants", Rows.laid_simulacrum_simulacrumref02_constants)]
theorem gConst : Tryd.prog.globalNamed "simulacrum/simulacrumref02.constants" = some 0 := by kernel_rfl

theorem glob_of {W : World} (h : laidMetH Tryd.prog laid0 W) : Glob (abs W) := by
  rw [MakeChecks.laidMetH_plain _ _ _ (by kernel_rfl)] at h
  obtain ⟨ps, ⟨g0, t0, cs0, f0, p0, q0, hg0, ht0, hv0, hd0, _, _⟩, _⟩ := h
  obtain rfl := Option.some.inj (gConst.symm.trans hg0)
  have hty : (Tryd.prog.globals[0]?).map (·.type) = some 98 := by kernel_rfl
  obtain rfl := Option.some.inj (hty.symm.trans ht0)
  unfold World.var? at hv0
  rw [hg0] at hv0
  simp only [Option.bind_some] at hv0
  have hlay : (Rows.laid_simulacrum_simulacrumref02_constants : DataW Unit) = .agg (roundK.map fun x => .lit (.int .u32 x)) := by kernel_rfl
  rw [hlay] at hd0
  have hcs := trod_nums (e := 95) (k := .u32) (n := 64) (by kernel_rfl) (by kernel_rfl) (by kernel_rfl) (by kernel_rfl) hd0
  split at hv0
  · rename_i cs t fz hh
    injection hv0 with hv0
    subst hv0
    have := glob_cells hh (fun v hv => by
      rw [hcs] at hv
      obtain ⟨x, _, rfl⟩ := List.mem_map.1 hv
      exact .int _ _)
    have hsz : cs.size = 64 := by rw [← Array.length_toList, hcs, List.length_map]; rfl
    rw [hsz, hcs] at this
    exact this
  · cases hv0
end Go.Proofs.YtljmjkpmkpchoaaDoor

set_option linter.unusedSimpArgs false
set_option maxRecDepth 10000
set_option maxHeartbeats 1000000
namespace Go.Proofs.YtljmjkpmkpchoaaDoor
open Go Go.Cn Go.RowKit

theorem cv_fv (r : CR) : ∃ (a b c d e f g : Int) (s : ByteArray) (t : Bool), contV r = .tuple #[.agg #[.int .i64 a, .int .i64 b, .int .i64 c, .int .i64 d, .int .i64 e, .int .i64 f, .int .i64 g, .string s, .bool t], .bool r.is] ∧
    foundV r = .agg #[.int .i64 a, .int .i64 b, .int .i64 c, .int .i64 d, .int .i64 e, .int .i64 f, .int .i64 g, .string s, .bool t, .bool r.is] := by
  cases r <;> exact ⟨_, _, _, _, _, _, _, _, _, rfl, rfl⟩
theorem obs_eq {a b c d e f g : Int} {s : ByteArray} {t : Bool} : aggEq [.int .i64, .int .i64, .int .i64, .int .i64, .int .i64, .int .i64, .int .i64, .string, .bool] [.int .i64 a, .int .i64 b, .int .i64 c, .int .i64 d, .int .i64 e, .int .i64 f, .int .i64 g, .string s, .bool t] [.int .i64 a, .int .i64 b, .int .i64 c, .int .i64 d, .int .i64 e, .int .i64 f, .int .i64 g, .string s, .bool t] = some true := by
  simp [aggEq, Leaf.fits, leafEq]

theorem law3 {σ : H} {la lb : List Value} {A B : Lg} {i : Int} (ha : RawLg σ la A) (hb : RawLg σ lb B) (hG : Glob σ) :
    App Tryd.prog (.func 3) #[] #[.agg la.toArray, .agg lb.toArray, .int .i64 i] σ fun v σ' => Old σ σ' ∧ v = .bool true := by
  refine App.of_sem mixed Tryd.func3 t3 k3 r3 (Nat.le_of_ble_eq_true rfl) ?_
  have la1 : la.length = 19 := by obtain ⟨hd, _, _, _, _, _, rfl, _⟩ := ha; exact rec_len hd
  have lb1 : lb.length = 19 := by obtain ⟨hd, _, _, _, _, _, rfl, _⟩ := hb; exact rec_len hd
  have ta : la.take 19 = la := List.take_of_length_le (by omega)
  have tb : lb.take 19 = lb := List.take_of_length_le (by omega)
  have rawOld : ∀ {τ : H} {l : List Value} {L : Lg}, RawLg σ l L → Old σ τ → RawLg τ l L := fun ⟨h1, h2, a, b, a', b', h3, h4, h5, h6⟩ ho => ⟨h1, h2, a, b, a', b', h3, h4.Old ho, h5.Old ho, h6⟩
  unfold s3
  have e0 : ap σ [] = σ := ap_nil
  rw [← e0]
  simp only [↓eD0, ↓eD1, eC0, eC1, eC2, eC3, eC4, eC5, eC6, wantedE, ↓reduceIte, Nat.reduceEqDiff, Option.map_some, Option.map_none, reread, List.nil_append, List.cons_append, List.map_cons, List.map_nil, List.length_nil, List.length_cons, Value.cells, List.getElem?_cons_zero, List.getElem?_cons_succ, outE, lks, lkR, rdV, neg1, evs, opt, Nat.reduceAdd, Nat.reduceMul, and_self, reduceCtorEq, List.size_toArray, List.all_cons, List.all_nil, Value.oneCell', List.set_cons_zero, List.set_cons_succ, sets, fillL, Nat.reduceLeDiff, List.drop_succ_cons, List.drop_zero, List.take_succ_cons, List.take_zero, List.toList_toArray, argsE, Array.append_empty, Array.empty_append, List.getElem?_toArray, Int.reduceLT, Int.reduceLE, Int.reduceToNat, Int.reduceEq, Nat.reduceLT, la1, lb1, ta, tb]
  refine appK_of (few_app (rawOld ha .ap) (hG.Old .ap)) ?_
  rintro _ _ ⟨e2, rfl⟩
  rw [e2]
  clear e2
  cases fa : fewF A
  · simp only [↓eD0, ↓eD1, eC0, eC1, eC2, eC3, eC4, eC5, eC6, wantedE, ↓reduceIte, Nat.reduceEqDiff, Option.map_some, Option.map_none, reread, List.nil_append, List.cons_append, List.map_cons, List.map_nil, List.length_nil, List.length_cons, Value.cells, List.getElem?_cons_zero, List.getElem?_cons_succ, outE, lks, lkR, rdV, neg1, evs, opt, Nat.reduceAdd, Nat.reduceMul, and_self, reduceCtorEq, List.size_toArray, List.all_cons, List.all_nil, Value.oneCell', List.set_cons_zero, List.set_cons_succ, sets, fillL, Nat.reduceLeDiff, List.drop_succ_cons, List.drop_zero, List.take_succ_cons, List.take_zero, List.toList_toArray, argsE, Array.append_empty, Array.empty_append, List.getElem?_toArray, Int.reduceLT, Int.reduceLE, Int.reduceToNat, Int.reduceEq, Nat.reduceLT, fa, la1, lb1, ta, tb]
    refine appK_of sanity_app ?_
    rintro _ _ ⟨e2, rfl⟩
    rw [e2]
    clear e2
    simp only [↓eD0, ↓eD1, eC0, eC1, eC2, eC3, eC4, eC5, eC6, wantedE, ↓reduceIte, Nat.reduceEqDiff, Option.map_some, Option.map_none, reread, List.nil_append, List.cons_append, List.map_cons, List.map_nil, List.length_nil, List.length_cons, Value.cells, List.getElem?_cons_zero, List.getElem?_cons_succ, outE, lks, lkR, rdV, neg1, evs, opt, Nat.reduceAdd, Nat.reduceMul, and_self, reduceCtorEq, List.size_toArray, List.all_cons, List.all_nil, Value.oneCell', List.set_cons_zero, List.set_cons_succ, sets, fillL, Nat.reduceLeDiff, List.drop_succ_cons, List.drop_zero, List.take_succ_cons, List.take_zero, List.toList_toArray, argsE, Array.append_empty, Array.empty_append, List.getElem?_toArray, Int.reduceLT, Int.reduceLE, Int.reduceToNat, Int.reduceEq, Nat.reduceLT]
    exact .ap
  simp only [↓eD0, ↓eD1, eC0, eC1, eC2, eC3, eC4, eC5, eC6, wantedE, ↓reduceIte, Nat.reduceEqDiff, Option.map_some, Option.map_none, reread, List.nil_append, List.cons_append, List.map_cons, List.map_nil, List.length_nil, List.length_cons, Value.cells, List.getElem?_cons_zero, List.getElem?_cons_succ, outE, lks, lkR, rdV, neg1, evs, opt, Nat.reduceAdd, Nat.reduceMul, and_self, reduceCtorEq, List.size_toArray, List.all_cons, List.all_nil, Value.oneCell', List.set_cons_zero, List.set_cons_succ, sets, fillL, Nat.reduceLeDiff, List.drop_succ_cons, List.drop_zero, List.take_succ_cons, List.take_zero, List.toList_toArray, argsE, Array.append_empty, Array.empty_append, List.getElem?_toArray, Int.reduceLT, Int.reduceLE, Int.reduceToNat, Int.reduceEq, Nat.reduceLT, fa, la1, lb1, ta, tb]
  refine appK_of (few_app (rawOld hb .ap) (hG.Old .ap)) ?_
  rintro _ _ ⟨e2, rfl⟩
  rw [e2]
  clear e2
  cases fb : fewF B
  · simp only [↓eD0, ↓eD1, eC0, eC1, eC2, eC3, eC4, eC5, eC6, wantedE, ↓reduceIte, Nat.reduceEqDiff, Option.map_some, Option.map_none, reread, List.nil_append, List.cons_append, List.map_cons, List.map_nil, List.length_nil, List.length_cons, Value.cells, List.getElem?_cons_zero, List.getElem?_cons_succ, outE, lks, lkR, rdV, neg1, evs, opt, Nat.reduceAdd, Nat.reduceMul, and_self, reduceCtorEq, List.size_toArray, List.all_cons, List.all_nil, Value.oneCell', List.set_cons_zero, List.set_cons_succ, sets, fillL, Nat.reduceLeDiff, List.drop_succ_cons, List.drop_zero, List.take_succ_cons, List.take_zero, List.toList_toArray, argsE, Array.append_empty, Array.empty_append, List.getElem?_toArray, Int.reduceLT, Int.reduceLE, Int.reduceToNat, Int.reduceEq, Nat.reduceLT, fa, fb, la1, lb1, ta, tb]
    refine appK_of sanity_app ?_
    rintro _ _ ⟨e2, rfl⟩
    rw [e2]
    clear e2
    simp only [↓eD0, ↓eD1, eC0, eC1, eC2, eC3, eC4, eC5, eC6, wantedE, ↓reduceIte, Nat.reduceEqDiff, Option.map_some, Option.map_none, reread, List.nil_append, List.cons_append, List.map_cons, List.map_nil, List.length_nil, List.length_cons, Value.cells, List.getElem?_cons_zero, List.getElem?_cons_succ, outE, lks, lkR, rdV, neg1, evs, opt, Nat.reduceAdd, Nat.reduceMul, and_self, reduceCtorEq, List.size_toArray, List.all_cons, List.all_nil, Value.oneCell', List.set_cons_zero, List.set_cons_succ, sets, fillL, Nat.reduceLeDiff, List.drop_succ_cons, List.drop_zero, List.take_succ_cons, List.take_zero, List.toList_toArray, argsE, Array.append_empty, Array.empty_append, List.getElem?_toArray, Int.reduceLT, Int.reduceLE, Int.reduceToNat, Int.reduceEq, Nat.reduceLT]
    exact .ap
  have sa := few_sized fa
  have sb := few_sized fb
  have hA : IsLg σ la A := ha.lg (by have := (few_of fa).1; omega) (by have := (few_of fa).2.1; omega)
  have hB : IsLg σ lb B := hb.lg (by have := (few_of fb).1; omega) (by have := (few_of fb).2.1; omega)
  simp only [↓eD0, ↓eD1, eC0, eC1, eC2, eC3, eC4, eC5, eC6, wantedE, ↓reduceIte, Nat.reduceEqDiff, Option.map_some, Option.map_none, reread, List.nil_append, List.cons_append, List.map_cons, List.map_nil, List.length_nil, List.length_cons, Value.cells, List.getElem?_cons_zero, List.getElem?_cons_succ, outE, lks, lkR, rdV, neg1, evs, opt, Nat.reduceAdd, Nat.reduceMul, and_self, reduceCtorEq, List.size_toArray, List.all_cons, List.all_nil, Value.oneCell', List.set_cons_zero, List.set_cons_succ, sets, fillL, Nat.reduceLeDiff, List.drop_succ_cons, List.drop_zero, List.take_succ_cons, List.take_zero, List.toList_toArray, argsE, Array.append_empty, Array.empty_append, List.getElem?_toArray, Int.reduceLT, Int.reduceLE, Int.reduceToNat, Int.reduceEq, Nat.reduceLT, fa, fb, la1, lb1, ta, tb]
  refine appK_of (merge_app (hA.Old .ap).log (hB.Old .ap).log sa sb) ?_
  rintro _ _ ⟨e2, rfl⟩
  rw [e2]
  clear e2
  obtain ⟨oa, ob, oc, od, oe, of', og, os, ot, hcv, hfv⟩ := cv_fv (contR A.d A.c A.E B.d B.c B.E)
  rw [hcv]
  simp only [↓eD0, ↓eD1, eC0, eC1, eC2, eC3, eC4, eC5, eC6, wantedE, ↓reduceIte, Nat.reduceEqDiff, Option.map_some, Option.map_none, reread, List.nil_append, List.cons_append, List.map_cons, List.map_nil, List.length_nil, List.length_cons, Value.cells, List.getElem?_cons_zero, List.getElem?_cons_succ, outE, lks, lkR, rdV, neg1, evs, opt, Nat.reduceAdd, Nat.reduceMul, and_self, reduceCtorEq, List.size_toArray, List.all_cons, List.all_nil, Value.oneCell', List.set_cons_zero, List.set_cons_succ, sets, fillL, Nat.reduceLeDiff, List.drop_succ_cons, List.drop_zero, List.take_succ_cons, List.take_zero, List.toList_toArray, argsE, Array.append_empty, Array.empty_append, List.getElem?_toArray, Int.reduceLT, Int.reduceLE, Int.reduceToNat, Int.reduceEq, Nat.reduceLT, la1, lb1, ta, tb]
  refine appK_of (drop_app (i := i) (hA.Old .ap)) ?_
  rintro _ τ1 ⟨ho1, l1, rfl, hD1⟩
  obtain ⟨a1, b1, a2, b2, rfl, _, _, _⟩ := hD1.recs
  have hd1 := hD1.log.d16
  have ho1' : Old σ τ1 := Old.ap.trans ho1
  have p0 : τ1[σ.size]? = some (.cells 0 la (0, 0)) := (ho1.2 _ (by simp [ap_size])).trans ap_new0
  have p1 : τ1[σ.size + 1]? = some (.cells 0 lb (0, 0)) := (ho1.2 _ (by simp [ap_size])).trans ap_new
  have p2 := (ho1.2 (σ.size + 2) (by simp [ap_size])).trans ap_new
  have e1 : ap τ1 [] = τ1 := ap_nil
  have z0 : σ.size < τ1.size := (Array.getElem?_eq_some_iff.1 p0).1
  have z1 : σ.size + 1 < τ1.size := (Array.getElem?_eq_some_iff.1 p1).1
  have ra : ∀ L, rdN (ap τ1 L) ⟨σ.size, 0, none⟩ 19 = some la := fun L => rdN_all ((ap_old z0).trans p0) la1
  have rb : ∀ L, rdN (ap τ1 L) ⟨σ.size + 1, 0, none⟩ 19 = some lb := fun L => rdN_all ((ap_old z1).trans p1) lb1
  rw [← e1]
  simp only [↓eD0, ↓eD1, eC0, eC1, eC2, eC3, eC4, eC5, eC6, wantedE, ↓reduceIte, Nat.reduceEqDiff, Option.map_some, Option.map_none, reread, List.nil_append, List.cons_append, List.map_cons, List.map_nil, List.length_nil, List.length_cons, Value.cells, List.getElem?_cons_zero, List.getElem?_cons_succ, outE, lks, lkR, rdV, neg1, evs, opt, Nat.reduceAdd, Nat.reduceMul, and_self, reduceCtorEq, List.size_toArray, List.all_cons, List.all_nil, Value.oneCell', List.set_cons_zero, List.set_cons_succ, sets, fillL, Nat.reduceLeDiff, List.drop_succ_cons, List.drop_zero, List.take_succ_cons, List.take_zero, List.toList_toArray, argsE, Array.append_empty, Array.empty_append, List.getElem?_toArray, Int.reduceLT, Int.reduceLE, Int.reduceToNat, Int.reduceEq, Nat.reduceLT, rec_len hd1, rec_take hd1, rec_sets hd1, rec_one, rec_ne, ra, rb]
  refine appK_of (refc_app (hA.Old (ho1'.trans .ap)).log (hB.Old (ho1'.trans .ap)).log sa sb) ?_
  rintro _ _ ⟨e2, rfl⟩
  rw [e2, hfv]
  clear e2
  simp only [↓eD0, ↓eD1, eC0, eC1, eC2, eC3, eC4, eC5, eC6, wantedE, ↓reduceIte, Nat.reduceEqDiff, Option.map_some, Option.map_none, reread, List.nil_append, List.cons_append, List.map_cons, List.map_nil, List.length_nil, List.length_cons, Value.cells, List.getElem?_cons_zero, List.getElem?_cons_succ, outE, lks, lkR, rdV, neg1, evs, opt, Nat.reduceAdd, Nat.reduceMul, and_self, reduceCtorEq, List.size_toArray, List.all_cons, List.all_nil, Value.oneCell', List.set_cons_zero, List.set_cons_succ, sets, fillL, Nat.reduceLeDiff, List.drop_succ_cons, List.drop_zero, List.take_succ_cons, List.take_zero, List.toList_toArray, argsE, Array.append_empty, Array.empty_append, List.getElem?_toArray, Int.reduceLT, Int.reduceLE, Int.reduceToNat, Int.reduceEq, Nat.reduceLT, ra, rb]
  refine appK_of (rdrop_app (i := i) (hA.Old (ho1'.trans .ap))) ?_
  rintro _ τ2 ⟨ho2, l2, rfl, hD2⟩
  obtain ⟨a3, b3, a4, b4, rfl, _, _, _⟩ := hD2.recs
  have hd2 := hD2.log.d16
  have ho2' : Old τ1 τ2 := Old.ap.trans ho2
  have q0 := (ho2'.2 _ z0).trans p0
  have q1 := (ho2'.2 _ z1).trans p1
  have q2 := (ho2'.2 _ (Array.getElem?_eq_some_iff.1 p2).1).trans p2
  have q9 := (ho2.2 τ1.size (by simp [ap_size])).trans ap_new0
  have q11 := (ho2.2 (τ1.size + 1) (by simp [ap_size])).trans ap_new
  have y0 := (Array.getElem?_eq_some_iff.1 q0).1
  have y1 := (Array.getElem?_eq_some_iff.1 q1).1
  have y2 := (Array.getElem?_eq_some_iff.1 q2).1
  have y9 := (Array.getElem?_eq_some_iff.1 q9).1
  have y11 := (Array.getElem?_eq_some_iff.1 q11).1
  have e1 : ap τ2 [] = τ2 := ap_nil
  have sa2 : ∀ L, rdN (ap τ2 L) ⟨σ.size, 0, none⟩ 19 = some la := fun L => rdN_all ((ap_old y0).trans q0) la1
  have sb2 : ∀ L, rdN (ap τ2 L) ⟨σ.size + 1, 0, none⟩ 19 = some lb := fun L => rdN_all ((ap_old y1).trans q1) lb1
  have so2 : ∀ L, rdN (ap τ2 L) ⟨σ.size + 2, 0, none⟩ 9 = some [.int .i64 oa, .int .i64 ob, .int .i64 oc, .int .i64 od, .int .i64 oe, .int .i64 of', .int .i64 og, .string os, .bool ot] := fun L => rdN_all ((ap_old y2).trans q2) rfl
  have s9 : ∀ L, rdN (ap τ2 L) ⟨τ1.size, 0, none⟩ 19 = some (recC (dropF A i).1.d (dropF A i).1.c (.slice a1 (dropF A i).1.E.length b1) (.slice a2 (dropF A i).1.S.length b2)) := fun L => rdN_all ((ap_old y9).trans q9) (rec_len hd1)
  have s11 : ∀ L, rdN (ap τ2 L) ⟨τ1.size + 1, 0, none⟩ 9 = some [.int .i64 oa, .int .i64 ob, .int .i64 oc, .int .i64 od, .int .i64 oe, .int .i64 of', .int .i64 og, .string os, .bool ot] := fun L => by
    rw [rdN_eq, if_neg (by decide), ap_old y11, q11]; rfl
  have s119 : ∀ L, rd1 (ap τ2 L) ⟨τ1.size + 1, 9, none⟩ = some (.bool (contR A.d A.c A.E B.d B.c B.E).is) := fun L => by
    rw [rd1_eq, ap_old y11, q11]; rfl
  have l20 : (recC (dropF A i).1.d (dropF A i).1.c (.slice a3 (dropF A i).1.E.length b3) (.slice a4 (dropF A i).1.S.length b4) ++ [Value.int .i64 (dropF A i).2]).length = 20 := by simp [rec_len hd2]
  have t20 : (recC (dropF A i).1.d (dropF A i).1.c (.slice a3 (dropF A i).1.E.length b3) (.slice a4 (dropF A i).1.S.length b4) ++ [Value.int .i64 (dropF A i).2]).take 20 = recC (dropF A i).1.d (dropF A i).1.c (.slice a3 (dropF A i).1.E.length b3) (.slice a4 (dropF A i).1.S.length b4) ++ [Value.int .i64 (dropF A i).2] := List.take_of_length_le (by omega)
  have g20 : ∀ z : List Value, z.length = 20 → sets z 0 (recC (dropF A i).1.d (dropF A i).1.c (.slice a3 (dropF A i).1.E.length b3) (.slice a4 (dropF A i).1.S.length b4) ++ [Value.int .i64 (dropF A i).2]) = recC (dropF A i).1.d (dropF A i).1.c (.slice a3 (dropF A i).1.E.length b3) (.slice a4 (dropF A i).1.S.length b4) ++ [Value.int .i64 (dropF A i).2] := fun z hz => by
    rw [sets_all (by omega), l20]; simp [hz]
  have f19 : (recC (dropF A i).1.d (dropF A i).1.c (.slice a3 (dropF A i).1.E.length b3) (.slice a4 (dropF A i).1.S.length b4) ++ [Value.int .i64 (dropF A i).2])[19]? = some (.int .i64 (dropF A i).2) := by
    rw [List.getElem?_append_right (by rw [rec_len hd2]; omega), rec_len hd2]; rfl
  have t19 : (recC (dropF A i).1.d (dropF A i).1.c (.slice a3 (dropF A i).1.E.length b3) (.slice a4 (dropF A i).1.S.length b4) ++ [Value.int .i64 (dropF A i).2]).take 19 = recC (dropF A i).1.d (dropF A i).1.c (.slice a3 (dropF A i).1.E.length b3) (.slice a4 (dropF A i).1.S.length b4) := List.take_left' (rec_len hd2)
  rw [← e1]
  simp only [↓eD0, ↓eD1, eC0, eC1, eC2, eC3, eC4, eC5, eC6, wantedE, ↓reduceIte, Nat.reduceEqDiff, Option.map_some, Option.map_none, reread, List.nil_append, List.cons_append, List.map_cons, List.map_nil, List.length_nil, List.length_cons, Value.cells, List.getElem?_cons_zero, List.getElem?_cons_succ, outE, lks, lkR, rdV, neg1, evs, opt, Nat.reduceAdd, Nat.reduceMul, and_self, reduceCtorEq, List.size_toArray, List.all_cons, List.all_nil, Value.oneCell', List.set_cons_zero, List.set_cons_succ, sets, fillL, Nat.reduceLeDiff, List.drop_succ_cons, List.drop_zero, List.take_succ_cons, List.take_zero, List.toList_toArray, argsE, Array.append_empty, Array.empty_append, List.getElem?_toArray, Int.reduceLT, Int.reduceLE, Int.reduceToNat, Int.reduceEq, Nat.reduceLT, l20, t20, g20, rec_one1, rec_ne1]
  refine appK_of sanity_app ?_
  rintro _ _ ⟨e2, rfl⟩
  rw [e2]
  clear e2
  have eb : ∀ b : Bool, decide (b = b) = true := fun b => by simp
  have ei : ∀ x : Int, decide (x = x) = true := fun b => by simp
  simp only [↓eD0, ↓eD1, eC0, eC1, eC2, eC3, eC4, eC5, eC6, wantedE, ↓reduceIte, Nat.reduceEqDiff, Option.map_some, Option.map_none, reread, List.nil_append, List.cons_append, List.map_cons, List.map_nil, List.length_nil, List.length_cons, Value.cells, List.getElem?_cons_zero, List.getElem?_cons_succ, outE, lks, lkR, rdV, neg1, evs, opt, Nat.reduceAdd, Nat.reduceMul, and_self, reduceCtorEq, List.size_toArray, List.all_cons, List.all_nil, Value.oneCell', List.set_cons_zero, List.set_cons_succ, sets, fillL, Nat.reduceLeDiff, List.drop_succ_cons, List.drop_zero, List.take_succ_cons, List.take_zero, List.toList_toArray, argsE, Array.append_empty, Array.empty_append, List.getElem?_toArray, Int.reduceLT, Int.reduceLE, Int.reduceToNat, Int.reduceEq, Nat.reduceLT, so2, s11, s119, obs_eq, sa2, sb2, eb]
  refine appK_of (same_app (hA.Old ((ho1'.trans ho2').trans .ap)).log (hB.Old ((ho1'.trans ho2').trans .ap)).log sa sb) ?_
  rintro _ _ ⟨e2, rfl⟩
  rw [e2]
  clear e2
  simp only [↓eD0, ↓eD1, eC0, eC1, eC2, eC3, eC4, eC5, eC6, wantedE, ↓reduceIte, Nat.reduceEqDiff, Option.map_some, Option.map_none, reread, List.nil_append, List.cons_append, List.map_cons, List.map_nil, List.length_nil, List.length_cons, Value.cells, List.getElem?_cons_zero, List.getElem?_cons_succ, outE, lks, lkR, rdV, neg1, evs, opt, Nat.reduceAdd, Nat.reduceMul, and_self, reduceCtorEq, List.size_toArray, List.all_cons, List.all_nil, Value.oneCell', List.set_cons_zero, List.set_cons_succ, sets, fillL, Nat.reduceLeDiff, List.drop_succ_cons, List.drop_zero, List.take_succ_cons, List.take_zero, List.toList_toArray, argsE, Array.append_empty, Array.empty_append, List.getElem?_toArray, Int.reduceLT, Int.reduceLE, Int.reduceToNat, Int.reduceEq, Nat.reduceLT, so2, s11, s119, obs_eq, sa2, sb2, eb]
  refine appK_of (rsame_app (hA.Old ((ho1'.trans ho2').trans .ap)).log (hB.Old ((ho1'.trans ho2').trans .ap)).log sa sb) ?_
  rintro _ _ ⟨e2, rfl⟩
  rw [e2]
  clear e2
  simp only [↓eD0, ↓eD1, eC0, eC1, eC2, eC3, eC4, eC5, eC6, wantedE, ↓reduceIte, Nat.reduceEqDiff, Option.map_some, Option.map_none, reread, List.nil_append, List.cons_append, List.map_cons, List.map_nil, List.length_nil, List.length_cons, Value.cells, List.getElem?_cons_zero, List.getElem?_cons_succ, outE, lks, lkR, rdV, neg1, evs, opt, Nat.reduceAdd, Nat.reduceMul, and_self, reduceCtorEq, List.size_toArray, List.all_cons, List.all_nil, Value.oneCell', List.set_cons_zero, List.set_cons_succ, sets, fillL, Nat.reduceLeDiff, List.drop_succ_cons, List.drop_zero, List.take_succ_cons, List.take_zero, List.toList_toArray, argsE, Array.append_empty, Array.empty_append, List.getElem?_toArray, Int.reduceLT, Int.reduceLE, Int.reduceToNat, Int.reduceEq, Nat.reduceLT, so2, s11, s119, obs_eq, sa2, sb2, eb, ei, f19, s9, t19, l20]
  refine appK_of (equal_app (hD1.Old (ho2'.trans .ap)) (hD2.Old .ap)) ?_
  rintro _ _ ⟨e2, rfl⟩
  rw [e2]
  clear e2
  simp only [↓eD0, ↓eD1, eC0, eC1, eC2, eC3, eC4, eC5, eC6, wantedE, ↓reduceIte, Nat.reduceEqDiff, Option.map_some, Option.map_none, reread, List.nil_append, List.cons_append, List.map_cons, List.map_nil, List.length_nil, List.length_cons, Value.cells, List.getElem?_cons_zero, List.getElem?_cons_succ, outE, lks, lkR, rdV, neg1, evs, opt, Nat.reduceAdd, Nat.reduceMul, and_self, reduceCtorEq, List.size_toArray, List.all_cons, List.all_nil, Value.oneCell', List.set_cons_zero, List.set_cons_succ, sets, fillL, Nat.reduceLeDiff, List.drop_succ_cons, List.drop_zero, List.take_succ_cons, List.take_zero, List.toList_toArray, argsE, Array.append_empty, Array.empty_append, List.getElem?_toArray, Int.reduceLT, Int.reduceLE, Int.reduceToNat, Int.reduceEq, Nat.reduceLT]
  exact (ho1'.trans ho2').trans .ap
end Go.Proofs.YtljmjkpmkpchoaaDoor
