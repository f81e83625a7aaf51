/- Walks of the functions that the claim reaches. Conditions: none. -/
import Derived.Test.YtopnlllipkockaaDoorGc
set_option linter.all false
set_option maxRecDepth 10000
set_option maxHeartbeats 4000000
namespace Go.Proofs.YtopnlllipkockaaDoor
open Go Go.Cn Go.RowKit
attribute [local irreducible] evL sem onG onI onV
def lrightF (L : Lg) : Bool := lfewF L && decide (checkF L = 0)
theorem law_right_app {σ : H} {l : List Value} {L : Lg} {a1 a2 : Option Addr} {b1 b2 : Nat} (h : LgR σ l L a1 b1 a2 b2) (hc : CapOk 5 (.slice a1 L.E.length b1)) (hG : Glob σ) :
  App Tryd.prog (.func 21) #[] #[.agg l.toArray] σ fun v σ' => σ' = σ ∧ v = .bool (lrightF L) := by
 refine App.forget (App.of_sem mixed Tryd.func21 t21 k21 r21 (Nat.le_of_ble_eq_true rfl) ?_)
 have hd := h.d
 have hl := h.l
 subst hl
 rw [← ap_nil (σ := σ)]
 unfold s21
 simp only [↓eD, eZ, ↓reduceIte, Nat.reduceEqDiff, Nat.reduceAdd, Nat.reduceMul, reduceCtorEq, Nat.reduceLeDiff, Int.reduceLT, Int.reduceLE, Int.reduceToNat, Int.reduceEq, Nat.reduceLT, rec_len hd, rec_take hd]
 refine appK_at (lfew_app hd rfl (h.E.Old .ap)) ?_
 cases hf : lfewF L with
 |false =>
  have hr : lrightF L = false := by unfold lrightF; rw [hf]; rfl
  simp only [↓eD, eZ, ↓reduceIte, Nat.reduceEqDiff, Nat.reduceAdd, Nat.reduceMul, reduceCtorEq, Nat.reduceLeDiff, Int.reduceLT, Int.reduceLE, Int.reduceToNat, Int.reduceEq, Nat.reduceLT, hr, undef_eq]
  exact ⟨.ap, rfl⟩
 |true =>
  obtain ⟨f1, f2, f3⟩ := of_decide_eq_true hf
  simp only [↓eD, eZ, ↓reduceIte, Nat.reduceEqDiff, Nat.reduceAdd, Nat.reduceMul, reduceCtorEq, Nat.reduceLeDiff, Int.reduceLT, Int.reduceLE, Int.reduceToNat, Int.reduceEq, Nat.reduceLT, rec_len hd, rec_take hd, undef_eq]
  refine appK_at (check_app ((IsLg.mk' hd h.E h.S h.ok (by omega) (by omega) hc).Old .ap) (hG.Old .ap)) ?_
  have hr : lrightF L = decide (checkF L = 0) := by unfold lrightF; rw [hf]; rfl
  simp only [↓eD, eZ, ↓reduceIte, Nat.reduceEqDiff, Nat.reduceAdd, Nat.reduceMul, reduceCtorEq, Nat.reduceLeDiff, Int.reduceLT, Int.reduceLE, Int.reduceToNat, Int.reduceEq, Nat.reduceLT, hr, undef_eq]
  exact ⟨.ap, rfl⟩
set_option maxHeartbeats 1000000
theorem cellsDig : Tryd.prog.cellsOf 23 = 16 := by kernel_rfl
theorem cellsSeal : Tryd.prog.cellsOf 61 = 16 := by kernel_rfl
theorem cellsEs : Tryd.prog.cellsOf 24 = 1 := by kernel_rfl
theorem cellsSs : Tryd.prog.cellsOf 25 = 1 := by kernel_rfl
theorem cellsLog : Tryd.prog.cellsOf 27 = 19 := by kernel_rfl
theorem cellsEnt : Tryd.prog.cellsOf 29 = 5 := by kernel_rfl
theorem cellsSea : Tryd.prog.cellsOf 63 = 33 := by kernel_rfl
variable {σ : H}
theorem rdi {f : Nat} {cs : List Value} (h : Rd Tryd.prog σ f 3 cs) : ∃ n, cs = [.int .i64 n] ∧ I64 n := by
 obtain ⟨n, h, h1, h2⟩ := rd_int Tryd.underlying3 h
 exact ⟨n, h, h1, by have : n ≤ 9223372036854775807 := h2; omega⟩
theorem rdb {f : Nat} {cs : List Value} (h : Rd Tryd.prog σ f 5 cs) : ∃ n, cs = [.int .u8 n] ∧ 0 ≤ n ∧ n ≤ 255 := by
 obtain ⟨n, h, h1, h2⟩ := rd_int Tryd.underlying5 h
 exact ⟨n, h, h1, h2⟩
theorem dig_of : ∀ {cs : List Value}, (∀ i, i < cs.length → ∃ n, cs[i]? = some (.int .u8 n) ∧ 0 ≤ n ∧ n ≤ 255) → ∃ d, cs = digC d ∧ d.length = cs.length ∧ Byt d
 |[], _ => ⟨[], rfl, rfl, fun x hx => by simp at hx⟩
 |c :: cs, h => by
  obtain ⟨n, hn, n0, n1⟩ := h 0 (by simp)
  obtain ⟨d, rfl, hd, hb⟩ := dig_of (cs := cs) fun i hi => by
   obtain ⟨m, hm, m0⟩ := h (i + 1) (by simpa using hi)
   exact ⟨m, by simpa using hm, m0⟩
  simp at hn
  exact ⟨n :: d, by simp [digC, hn], by simp [hd], fun x hx => (List.mem_cons.1 hx).elim (fun h => by omega) (hb x)⟩
theorem arr_dig {f : Nat} {cs : List Value} (h1 : cs.length = 16) (h2 : ∀ i, i < 16 → Rd Tryd.prog σ f 5 ((cs.drop (i * 1)).take 1)) : ∃ d, cs = digC d ∧ d.length = 16 ∧ Byt d := by
 obtain ⟨d, hd, hl, hb⟩ := dig_of (cs := cs) fun i hi => by
  obtain ⟨n, hn, n0⟩ := rdb (h2 i (by omega))
  refine ⟨n, ?_, n0⟩
  have : ((cs.drop (i * 1)).take 1)[0]? = some (.int .u8 n) := by rw [hn]; rfl
  simpa [List.getElem?_take, List.getElem?_drop] using this
 exact ⟨d, hd, hl.trans h1, hb⟩
theorem rd_dig {f : Nat} {cs : List Value} (h : Rd Tryd.prog σ f 23 cs) : ∃ d, cs = digC d ∧ d.length = 16 ∧ Byt d := by
 cases f with
 |zero => exact h.elim
 |succ f => simp only [Rd, Tryd.underlying23, cellsDig, cellsB] at h; exact arr_dig h.1 h.2
theorem rd_seal {f : Nat} {cs : List Value} (h : Rd Tryd.prog σ f 61 cs) : ∃ d, cs = digC d ∧ d.length = 16 ∧ Byt d := by
 cases f with
 |zero => exact h.elim
 |succ f => simp only [Rd, Tryd.underlying61, cellsSeal, cellsB] at h; exact arr_dig h.1 h.2
theorem parts5 {cs : List Value} (h : cs.length = 5) : cs = (cs.drop 0).take 1 ++ (cs.drop 1).take 1 ++ (cs.drop 2).take 1 ++ (cs.drop 3).take 1 ++ (cs.drop 4).take 1 := by
 match cs, h with
 |[a, b, c, d, e], _ => rfl
def Ent.raw (e : Ent) : Prop := I64 e.kind ∧ I64 e.cpu ∧ I64 e.count ∧ I64 e.n
theorem rd_ent {f : Nat} {cs : List Value} (h : Rd Tryd.prog σ f 29 cs) : ∃ e : Ent, e.raw ∧ cs = entV e := by
 cases f with
 |zero => exact h.elim
 |succ f =>
  simp only [Rd, Tryd.underlying29, cellsEnt, List.forall_mem_cons, cellsI, cellsS] at h
  obtain ⟨hl, h1, h2, h3, h4, h5, _⟩ := h
  obtain ⟨n1, h1, i1⟩ := rdi h1
  obtain ⟨n2, h2, i2⟩ := rdi h2
  obtain ⟨n3, h3, i3⟩ := rdi h3
  obtain ⟨n4, h4, i4⟩ := rdi h4
  obtain ⟨s, _, h5⟩ := rd_str h5
  refine ⟨⟨n1, n2, n3, n4, s⟩, ⟨i1, i2, i3, i4⟩, ?_⟩
  rw [parts5 hl, h1, h2, h3, h4, h5]
  rfl
theorem rd_sea {f : Nat} {cs : List Value} (h : Rd Tryd.prog σ f 63 cs) : ∃ s : Sea, (s.ok ∧ I64 s.end_ ∧ Byt s.dig ∧ Byt s.seal_) ∧ cs = seaV s := by
 cases f with
 |zero => exact h.elim
 |succ f =>
  simp only [Rd, Tryd.underlying62, Tryd.underlying63, cellsSea, List.forall_mem_cons, cellsI, cellsDig, cellsSeal] at h
  obtain ⟨hl, h1, h2, h3, _⟩ := h
  obtain ⟨n1, h1, i1⟩ := rdi h1
  obtain ⟨d1, h2, l1, bb1⟩ := rd_dig h2
  obtain ⟨d2, h3, l2, bb2⟩ := rd_seal h3
  refine ⟨⟨n1, d1, d2⟩, ⟨⟨l1, l2⟩, i1, bb1, bb2⟩, ?_⟩
  have h4 : (cs.drop 17).take 16 = cs.drop 17 := List.take_of_length_le (by simp [hl])
  have h5 : cs = (cs.drop 0).take 1 ++ ((cs.drop 1).take 16 ++ cs.drop 17) := by
   have e1 := List.take_append_drop 1 cs
   have e2 := List.take_append_drop 16 (cs.drop 1)
   rw [List.drop_drop] at e2
   rw [e2]
   simpa using e1.symm
  rw [h5, ← h4, h1, h2, h3]
  rfl
theorem parts19 {cs : List Value} (h : cs.length = 19) : cs = (cs.drop 0).take 16 ++ ((cs.drop 16).take 1 ++ (cs.drop 17).take 1 ++ (cs.drop 18).take 1) := by
 have e1 := List.take_append_drop 16 cs
 have e2 : cs.drop 16 = (cs.drop 16).take 1 ++ (cs.drop 17).take 1 ++ (cs.drop 18).take 1 := by
  have : (cs.drop 16).length = 3 := by simp [h]
  generalize hd : cs.drop 16 = r at this ⊢
  have e17 : cs.drop 17 = r.drop 1 := by rw [← hd, List.drop_drop]
  have e18 : cs.drop 18 = r.drop 2 := by rw [← hd, List.drop_drop]
  rw [e17, e18]
  match r, this with
  |[a, b, c], _ => rfl
 rw [← e2]; simp
structure LgA (σ : H) (l : List Value) (L : Lg) (a1 : Option Addr) (b1 : Nat) (a2 : Option Addr) (b2 : Nat) : Prop where
 r : LgR σ l L a1 b1 a2 b2
 c : I64 L.c
 e : ∀ e ∈ L.E, e.raw
 s : ∀ s ∈ L.S, I64 s.end_
 cE : CapOk 5 (.slice a1 L.E.length b1)
 cS : CapOk 33 (.slice a2 L.S.length b2)
 bd : Byt L.d
 bs : ∀ s ∈ L.S, Byt s.dig ∧ Byt s.seal_
theorem dat_log {v : Value} (h : Dat Tryd.prog σ 27 v) : ∃ l L a1 b1 a2 b2, v = .agg l.toArray ∧ LgA σ l L a1 b1 a2 b2 := by
 simp only [Dat, Tryd.underlying27] at h
 obtain ⟨cs, f, rfl, h⟩ := h
 cases f with
 |zero => exact h.elim
 |succ f =>
  simp only [Rd, Tryd.underlying27, cellsLog, List.forall_mem_cons, cellsI, cellsDig, cellsEs, cellsSs] at h
  obtain ⟨hl, h1, h2, h3, h4, _⟩ := h
  obtain ⟨d, g1, ld, bd⟩ := rd_dig h1
  obtain ⟨c, g2, ic⟩ := rdi h2
  cases f with
  |zero => exact h3.elim
  |succ f =>
   simp only [Rd, Tryd.underlying24] at h3
   simp only [Rd, Tryd.underlying25] at h4
   obtain ⟨a, ca, E, g3, okE, rE, cE⟩ := rd_slice (V := entV) (ok := Ent.raw) cellsEnt (fun l hl => rd_ent hl) h3
   obtain ⟨a', ca', S, g4, okS, rS, cS⟩ := rd_slice (V := seaV) (ok := fun s => s.ok ∧ I64 s.end_ ∧ Byt s.dig ∧ Byt s.seal_) cellsSea (fun l hl => rd_sea hl) h4
   refine ⟨cs.toList, ⟨d, c, E, S⟩, a, ca, a', ca', by simp, ⟨?_, ld, rE, rS, fun s hs => (okS s hs).1⟩, ic, okE, fun s hs => (okS s hs).2.1, cE, cS, bd, fun s hs => (okS s hs).2.2⟩
   rw [parts19 hl, g1, g2, g3, g4]
   rfl
end Go.Proofs.YtopnlllipkockaaDoor
set_option maxRecDepth 10000
set_option maxHeartbeats 4000000
namespace Go.Proofs.YtopnlllipkockaaDoor
open Go Go.Cn Go.RowKit
attribute [local irreducible] evL sem onG onI onV
structure Mk (σ τ : H) (l z : List Value) (d : List Int) (c : Int) (v w : Value) : Prop where
 old : Old σ τ
 len : σ.size + 3 ≤ τ.size
 h2 : τ[σ.size]? = some (.cells 0 l (0, 0))
 h4 : τ[σ.size + 1]? = some (.cells 0 z (0, 0))
 h5 : ∃ ver, τ[σ.size + 2]? = some (.cells ver (recC d c v w) (0, 0))
theorem Mk.ap {σ τ : H} {l z : List Value} {d : List Int} {c : Int} {v w : Value} (h : Mk σ τ l z d c v w) {L : List Blk} : Mk σ (ap τ L) l z d c v w :=
 have o : Old τ (Cn.ap τ L) := .ap
 have hl := h.len
 ⟨h.old.trans o, Nat.le_trans hl o.1, (o.2 _ (by omega)).trans h.h2, (o.2 _ (by omega)).trans h.h4, let ⟨ver, h5⟩ := h.h5; ⟨ver, (o.2 _ (by omega)).trans h5⟩⟩
theorem Mk.set {σ τ : H} {l z : List Value} {d : List Int} {c : Int} {v w v' w' : Value} (h : Mk σ τ l z d c v w) {ver : Nat} : Mk σ (τ.setIfInBounds (σ.size + 2) (.cells ver (recC d c v' w') (0, 0))) l z d c v' w' :=
 let ⟨_, h5⟩ := h.h5
 ⟨h.old.set (by omega), by simpa using h.len, (get_set_ne (by omega)).trans h.h2, (get_set_ne (by omega)).trans h.h4, ver, get_set h5⟩
theorem sets21 {x : List Value} (hx : x.length = 21) : sets [.int .u8 0, .int .u8 0, .int .u8 0, .int .u8 0, .int .u8 0, .int .u8 0, .int .u8 0, .int .u8 0, .int .u8 0, .int .u8 0, .int .u8 0, .int .u8 0, .int .u8 0, .int .u8 0, .int .u8 0, .int .u8 0, .int .i64 0, .slice none 0 0, .slice none 0 0, .int .i64 0, .int .i64 0] 0 x = x := by
 rw [sets_all (by rw [hx]; decide), hx, List.drop_eq_nil_of_le (by decide)]
 simp
def rd21 : List Value := [.int .u8 0, .int .u8 0, .int .u8 0, .int .u8 0, .int .u8 0, .int .u8 0, .int .u8 0, .int .u8 0, .int .u8 0, .int .u8 0, .int .u8 0, .int .u8 0, .int .u8 0, .int .u8 0, .int .u8 0, .int .u8 0, .int .i64 0, .slice none 0 0, .slice none 0 0, .int .i64 0, .int .i64 0]
theorem allS_append : ∀ {a b : List (Option Value)} {x y : List Value}, allS a = some x → allS b = some y → allS (a ++ b) = some (x ++ y)
 |[], b, x, y, h1, h2 => by simp only [allS, Option.some.injEq] at h1; subst h1; simpa using h2
 |none :: a, b, x, y, h1, h2 => by cases h1
 |some u :: a, b, x, y, h1, h2 => by
  simp only [allS, Option.map_eq_some_iff] at h1
  obtain ⟨x', g1, rfl⟩ := h1
  simp only [List.cons_append, allS, allS_append g1 h2, Option.map_some]
theorem rdN_add {σ : H} {b o m k : Nat} {x y : List Value} (h1 : rdN σ ⟨b, o, none⟩ m = some x) (h2 : rdN σ ⟨b, o + m, none⟩ k = some y) : rdN σ ⟨b, o, none⟩ (m + k) = some (x ++ y) := by
 by_cases hm : m = 0
 ·subst hm
  rw [rdN_eq, if_pos rfl] at h1
  injection h1 with h1
  subst h1
  simpa using h2
 by_cases hk : k = 0
 ·subst hk
  rw [rdN_eq, if_pos rfl] at h2
  injection h2 with h2
  subst h2
  simpa using h1
 rw [rdN_eq, if_neg hm] at h1
 rw [rdN_eq, if_neg hk] at h2
 rw [rdN_eq, if_neg (by omega)]
 simp only at h1 h2 ⊢
 generalize σ[b]? = q at h1 h2 ⊢
 cases q with
 |none => cases h1
 |some q =>
  cases q with
  |cells v cs fz =>
   simp only [rdcN] at h1 h2 ⊢
   split at h1
   ·split at h2
    ·injection h1 with h1
     injection h2 with h2
     subst h1 h2
     rw [if_pos (by omega), List.take_add, List.drop_drop]
    ·cases h2
   ·cases h1
  |part cs =>
   simp only [rdcN] at h1 h2 ⊢
   split at h1
   ·split at h2
    ·rw [if_pos (by omega), List.take_add, List.drop_drop]
     exact allS_append h1 h2
    ·cases h2
   ·cases h1
  |_ => cases h1
theorem rows_read {σ : H} {s b o : Nat} {xs : List (List Value)} (h : ∀ (i : Nat) (x : List Value), xs[i]? = some x → rdN σ ⟨b, o + i * s, none⟩ s = some x) : ∀ n, n ≤ xs.length → rdN σ ⟨b, o, none⟩ (n * s) = some (xs.take n).flatten
 |0, _ => by simp [rdN_eq]
 |n + 1, hn => by
  have ih := rows_read h n (by omega)
  have h1 := h n xs[n] (by simp)
  have e : (xs.take (n + 1)).flatten = (xs.take n).flatten ++ xs[n] := by rw [List.take_succ_eq_append_getElem (by omega), List.flatten_append]; simp
  rw [Nat.add_mul, Nat.one_mul, rdN_add ih h1, e]
theorem row_xcells {σ : H} {s : Nat} {v : Value} {xs : List (List Value)} (h : Row σ s v xs) : xcells σ s v = some (xs.length, xs.flatten) := by
 obtain ⟨base, cap, rfl, h2⟩ := h
 cases xs with
 |nil =>
  cases base with
  |none => simp [xcells]
  |some a => simp [xcells, rdN_eq]
 |cons x r =>
  obtain ⟨b, off, rfl, _⟩ := h2 0 x rfl
  have := rows_read (σ := σ) (s := s) (b := b) (o := off) (xs := x :: r) (fun i y hy => by
   obtain ⟨b', off', hb, hr⟩ := h2 i y hy
   injection hb with hb
   injection hb with hb1 hb2 hb3
   subst hb1 hb2
   exact hr) (x :: r).length (Nat.le_refl _)
  simp only [xcells, this, Option.map_some, List.take_length]
theorem entV_rows {E : List Ent} : ∀ r ∈ E.map entV, r.length = 5 := by
 intro r hr
 obtain ⟨x, _, rfl⟩ := List.mem_map.1 hr
 rfl
theorem entV_ones {E : List Ent} : ((E.map entV).flatten).all Value.oneCell' = true := by
 rw [List.all_eq_true]
 intro v hv
 obtain ⟨r, hr, hv⟩ := List.mem_flatten.1 hv
 obtain ⟨c, _, rfl⟩ := List.mem_map.1 hr
 simp only [entV, List.mem_cons, List.not_mem_nil, or_false] at hv
 rcases hv with rfl | rfl | rfl | rfl | rfl <;> rfl
theorem seaV_rows {S : List Sea} (h : ∀ s ∈ S, s.ok) : ∀ r ∈ S.map seaV, r.length = 33 := by
 intro r hr
 obtain ⟨x, hx, rfl⟩ := List.mem_map.1 hr
 exact seaV_len (h x hx)
section
variable {d : List Int} (hd : d.length = 16) {c : Int} {v w x y z : Value}
include hd
theorem r21_len : (recC d c v w ++ [y, z]).length = 21 := by simp [rec_len hd]
theorem r21_sets : sets rd21 0 (recC d c v w ++ [y, z]) = recC d c v w ++ [y, z] := sets21 (r21_len hd)
theorem r21_b : sets rd21 0 (recC d c v w) = recC d c v w ++ [.int .i64 0, .int .i64 0] := rec_sets21 hd
theorem ret21 {θ : H} {b : Nat} {a1 a2 : Option Addr} {n1 n2 c1 c2 : Nat} {i j : Int} (h : θ[b]? = some (.cells 0 rd21 (0, 0))) :
  wrN θ ⟨b, 0, none⟩ (recC d c (.slice a1 n1 c1) (.slice a2 n2 c2) ++ [.int .i64 i, .int .i64 j]) = some (θ.setIfInBounds b (.cells 1 (recC d c (.slice a1 n1 c1) (.slice a2 n2 c2) ++ [.int .i64 i, .int .i64 j]) (0, 0))) := by
 have lz : rd21.length = 21 := rfl
 rw [wrN_eq, if_neg (by rw [rec_ne1]; exact id), h, wrc_cells, if_pos ⟨by rw [r21_len hd, lz]; show 0 + 21 ≤ 21; omega, rec_one2⟩, r21_sets hd]
 rfl
end
theorem zr {θ : H} : LgR θ zeroL Lg.zero none 0 none 0 := ⟨rfl, rfl, ⟨none, 0, rfl, fun i x h => by simp [Lg.zero] at h⟩, ⟨none, 0, rfl, fun i x h => by simp [Lg.zero] at h⟩, fun s h => by simp [Lg.zero] at h⟩
end Go.Proofs.YtopnlllipkockaaDoor
