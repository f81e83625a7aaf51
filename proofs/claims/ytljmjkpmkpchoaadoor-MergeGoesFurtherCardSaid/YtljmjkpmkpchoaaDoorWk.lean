/- Walks and plain laws. Conditions: none. -/
import Derived.Test.YtljmjkpmkpchoaaDoorWj
set_option linter.all false
set_option linter.unusedSimpArgs false
namespace Go.Proofs.YtljmjkpmkpchoaaDoor
open Go Go.Cn Go.RowKit

/-- What a log does, step by step. -/
inductive Tok where
  | step (cpu : Int)
  | inp (e : Ent)

def expE (e : Ent) : List Tok := if e.kind = 1 then List.replicate e.n.toNat (.step e.cpu) else [.inp e]
def exp (A : List Ent) : List Tok := A.flatMap expE

theorem exp_cons {x : Ent} {A : List Ent} : exp (x :: A) = expE x ++ exp A := by simp [exp]
theorem exp_nil : exp [] = [] := rfl
theorem exp_append {A B : List Ent} : exp (A ++ B) = exp A ++ exp B := by simp [exp]
theorem exp_drop {A : List Ent} {i : Nat} {x : Ent} (h : A[i]? = some x) : exp (A.drop i) = expE x ++ exp (A.drop (i + 1)) := by
  have hi := (List.getElem?_eq_some_iff.1 h).1
  have hx := (List.getElem?_eq_some_iff.1 h).2
  rw [List.drop_eq_getElem_cons hi, exp_cons, hx]

/-- What is left of a log at a place. -/
def rem (A : List Ent) (i : Nat) (d : Int) : List Tok := (exp (A.drop i)).drop d.toNat

theorem rem_slice {A : List Ent} {i : Nat} {d : Int} {x : Ent} (h : A[i]? = some x) (hx : x.kind = 1) (h0 : 0 ≤ d) (hd : d < x.n) : rem A i d = List.replicate (x.n - d).toNat (.step x.cpu) ++ exp (A.drop (i + 1)) := by
  rw [rem, exp_drop h, expE, if_pos hx, List.drop_append_of_le_length (by simp; omega), List.drop_replicate]
  congr 2
  omega
theorem rem_inp {A : List Ent} {i : Nat} {x : Ent} (h : A[i]? = some x) (hx : x.kind ≠ 1) : rem A i 0 = .inp x :: exp (A.drop (i + 1)) := by
  rw [rem, exp_drop h, expE, if_neg hx]; rfl
theorem rem_zero {A : List Ent} {i : Nat} : rem A i 0 = exp (A.drop i) := rfl
theorem rem_none {A : List Ent} {i : Nat} {d : Int} (h : A[i]? = none) : rem A i d = [] := by
  have : A.length ≤ i := by simpa using h
  rw [rem, List.drop_eq_nil_of_le this, exp_nil]; simp

theorem prefix_rep {c : Int} {m n : Nat} {P Q : List Tok} : List.replicate m (Tok.step c) ++ P <+: List.replicate n (Tok.step c) ++ Q ↔
    (if m ≤ n then P <+: List.replicate (n - m) (Tok.step c) ++ Q else List.replicate (m - n) (Tok.step c) ++ P <+: Q) := by
  split
  · rename_i h
    have : n = m + (n - m) := by omega
    rw [this, ← List.replicate_append_replicate, List.append_assoc, List.prefix_append_right_inj, Nat.add_sub_cancel_left]
  · rename_i h
    have : m = n + (m - n) := by omega
    rw [this, ← List.replicate_append_replicate, List.append_assoc, List.prefix_append_right_inj, Nat.add_sub_cancel_left]

theorem mid0 {A : List Ent} {i : Nat} {d : Int} (hm : Mid A i d) {x : Ent} (hx : A[i]? = some x) (hk : x.kind ≠ 1) : d = 0 := by
  by_cases h : d = 0
  · exact h
  · obtain ⟨y, hy, h1, _⟩ := hm.2 h
    rw [hx] at hy; injection hy with hy; subst hy; exact absurd h1 hk
theorem mid_lt {A : List Ent} {i : Nat} {d : Int} (hm : Mid A i d) (sa : Sized A) {x : Ent} (hx : A[i]? = some x) (hk : x.kind = 1) : 0 ≤ d ∧ d < x.n := by
  refine ⟨hm.1, ?_⟩
  by_cases h : d = 0
  · have := sa x (List.mem_of_getElem? hx) hk; omega
  · obtain ⟨y, hy, _, h2⟩ := hm.2 h
    rw [hx] at hy; injection hy with hy; subst hy; exact h2
theorem mid_zero {A : List Ent} {i : Nat} : Mid A i 0 := ⟨by omega, fun h => absurd rfl h⟩

theorem ent_ext {x y : Ent} (h : sameE x y) : x = y := by
  obtain ⟨h1, h2, h3, h4, h5⟩ := h
  cases x; cases y; simp_all

/-- A comparison goes on to the end if, and only if, what is left of the one is the beginning of what is left of the other. -/
theorem cont_prefix {A B : List Ent} (sa : Sized A) (sb : Sized B) : ∀ (f i k : Nat) (da db : Int), Mid A i da → Mid B k db → (A.length - i) + (B.length - k) < f →
    ((contF A B f i k da db).is = true ↔ rem A i da <+: rem B k db) := by
  intro f
  induction f with
  | zero => intro i k da db _ _ h; omega
  | succ f ih =>
    intro i k da db ma mb hf
    rw [contF]
    cases hx : A[i]? with
    | none =>
      simp only [CR.is, true_iff]
      rw [rem_none hx]
      exact List.nil_prefix
    | some x =>
      have hi := (List.getElem?_eq_some_iff.1 hx).1
      cases hy : B[k]? with
      | none =>
        simp only [CR.is, Bool.false_eq_true, false_iff]
        rw [rem_none hy]
        intro h
        have := List.prefix_nil.1 h
        by_cases hk : x.kind = 1
        · obtain ⟨h1, h2⟩ := mid_lt ma sa hx hk
          rw [rem_slice hx hk h1 h2] at this
          have hl := congrArg List.length this
          simp at hl
          omega
        · have h0 := mid0 ma hx hk
          subst h0
          rw [rem_inp hx hk] at this
          cases this
      | some y =>
        have hk' := (List.getElem?_eq_some_iff.1 hy).1
        simp only
        by_cases hxk : x.kind = 1
        · obtain ⟨a1, a2⟩ := mid_lt ma sa hx hxk
          have ra := rem_slice hx hxk a1 a2
          by_cases hyk : y.kind = 1
          · obtain ⟨b1, b2⟩ := mid_lt mb sb hy hyk
            have rb := rem_slice hy hyk b1 b2
            by_cases hc : x.cpu = y.cpu
            · rw [if_pos ⟨hxk, hyk, hc⟩]
              rw [ra, rb, hc, prefix_rep]
              by_cases h1 : x.n - da < y.n - db
              · rw [if_pos h1, if_pos (by omega), ih _ _ _ _ mid_zero ⟨by omega, fun _ => ⟨y, hy, hyk, by omega⟩⟩ (by omega), rem_zero, rem_slice hy hyk (by omega) (by omega)]
                have : (y.n - db).toNat - (x.n - da).toNat = (y.n - (db + (x.n - da))).toNat := by omega
                rw [this]
              · rw [if_neg h1]
                by_cases h2 : y.n - db < x.n - da
                · rw [if_pos h2, if_neg (by omega), ih _ _ _ _ ⟨by omega, fun _ => ⟨x, hx, hxk, by omega⟩⟩ mid_zero (by omega), rem_zero, rem_slice hx hxk (by omega) (by omega), hc]
                  have : (x.n - da).toNat - (y.n - db).toNat = (x.n - (da + (y.n - db))).toNat := by omega
                  rw [this]
                · rw [if_neg h2, if_pos (by omega), ih _ _ _ _ mid_zero mid_zero (by omega), rem_zero, rem_zero]
                  have : (y.n - db).toNat - (x.n - da).toNat = 0 := by omega
                  rw [this]
                  rfl
            · rw [if_neg (by simp [hc]), if_neg (by simp [hxk]), if_neg (by simp [hyk])]
              simp only [CR.is, Bool.false_eq_true, false_iff, ra, rb]
              obtain ⟨m, hm⟩ : ∃ m, (x.n - da).toNat = m + 1 := ⟨(x.n - da).toNat - 1, by omega⟩
              obtain ⟨n, hn⟩ : ∃ n, (y.n - db).toNat = n + 1 := ⟨(y.n - db).toNat - 1, by omega⟩
              rw [hm, hn, List.replicate_succ, List.replicate_succ, List.cons_append, List.cons_append, List.cons_prefix_cons]
              rintro ⟨h, _⟩
              injection h with h
              exact hc h
          · rw [if_neg (by simp [hyk]), if_neg (by simp [hxk]), if_pos ⟨hxk, hyk⟩]
            simp only [CR.is, Bool.false_eq_true, false_iff, ra]
            have h0 := mid0 mb hy hyk
            subst h0
            rw [rem_inp hy hyk]
            obtain ⟨m, hm⟩ : ∃ m, (x.n - da).toNat = m + 1 := ⟨(x.n - da).toNat - 1, by omega⟩
            rw [hm, List.replicate_succ, List.cons_append, List.cons_prefix_cons]
            rintro ⟨h, _⟩
            cases h
        · have h0 := mid0 ma hx hxk
          subst h0
          rw [if_neg (by simp [hxk]), rem_inp hx hxk]
          by_cases hs : sameE x y
          · have hxy := ent_ext hs
            subst hxy
            have h0 := mid0 mb hy hxk
            subst h0
            rw [if_pos ⟨hxk, hs⟩, ih _ _ _ _ mid_zero mid_zero (by omega), rem_inp hy hxk, rem_zero, rem_zero, List.cons_prefix_cons]
            simp
          · rw [if_neg (by simp [hs]), if_neg (by simp [hxk])]
            simp only [CR.is, Bool.false_eq_true, false_iff]
            by_cases hyk : y.kind = 1
            · obtain ⟨b1, b2⟩ := mid_lt mb sb hy hyk
              rw [rem_slice hy hyk b1 b2]
              obtain ⟨n, hn⟩ : ∃ n, (y.n - db).toNat = n + 1 := ⟨(y.n - db).toNat - 1, by omega⟩
              rw [hn, List.replicate_succ, List.cons_append, List.cons_prefix_cons]
              rintro ⟨h, _⟩
              cases h
            · have h0 := mid0 mb hy hyk
              subst h0
              rw [rem_inp hy hyk, List.cons_prefix_cons]
              rintro ⟨h, _⟩
              injection h with h
              exact hs (by subst h; exact ⟨rfl, rfl, rfl, rfl, rfl⟩)

theorem contR_is {da db : List Int} {ca cb : Int} {A B : List Ent} (sa : Sized A) (sb : Sized B) : (contR da ca A db cb B).is = true ↔ da = db ∧ ca = cb ∧ exp A <+: exp B := by
  unfold contR
  split
  · rename_i h
    simp only [CR.is, Bool.false_eq_true, false_iff]
    rintro ⟨h1, h2, _⟩
    rcases h with h | h
    · exact h h1
    · exact h h2
  · rename_i h
    have h1 : da = db := by by_cases h1 : da = db; exact h1; exact absurd (Or.inl h1) h
    have h2 : ca = cb := by by_cases h2 : ca = cb; exact h2; exact absurd (Or.inr h2) h
    rw [cont_prefix sa sb _ _ _ _ _ mid_zero mid_zero (by omega), rem_zero, rem_zero]
    simp [h1, h2]
end Go.Proofs.YtljmjkpmkpchoaaDoor

set_option linter.unusedSimpArgs false
set_option maxRecDepth 10000
set_option maxHeartbeats 4000000
namespace Go.Proofs.YtljmjkpmkpchoaaDoor
open Go Go.Cn Go.RowKit

def rd21 : List Value := [.int .u8 0, .int .u8 0, .int .u8 0, .int .u8 0, .int .u8 0, .int .u8 0, .int .u8 0, .int .u8 0, .int .u8 0, .int .u8 0, .int .u8 0, .int .u8 0, .int .u8 0, .int .u8 0, .int .u8 0, .int .u8 0, .int .i64 0, .slice none 0 0, .slice none 0 0, .int .i64 0, .int .i64 0]

/-- Cut. -/
def cutF (L : Lg) (n : Int) : Lg × Int :=
  if n < 0 ∨ (L.E.length : Int) < n then (.zero, 1)
  else (⟨L.d, L.c, L.E.take n.toNat, filt (fun _ s => decide (s.end_ ≤ n)) L.S⟩, 0)

theorem cut_app {σ : H} {l : List Value} {L : Lg} {n : Int} (h : IsLg σ l L) :
    App Tryd.prog (.func 17) #[] #[.agg l.toArray, .int .i64 n] σ fun v σ' => Old σ σ' ∧ ∃ l', v = .agg (l' ++ [Value.int .i64 0, Value.int .i64 (cutF L n).2]).toArray ∧ IsLg σ' l' (cutF L n).1 ∧ ∀ ρ, IsLg ρ l L → IsLog ρ l' (cutF L n).1.d (cutF L n).1.c (cutF L n).1.E := by
  refine App.of_sem mixed Tryd.func17 t17 k17 r17 (Nat.le_of_ble_eq_true rfl) ?_
  obtain ⟨a1, b1, a2, b2, rfl, hv, hw, hcap⟩ := h.recs
  have hd := h.log.d16
  have e0 : ap σ [] = σ := ap_nil
  rw [← e0]
  unfold s17
  simp only [↓eD0, ↓eD1, eC0, eC1, eC2, eC3, eC4, eC5, eC6, wantedE, ↓reduceIte, Nat.reduceEqDiff, Option.map_some, Option.map_none, reread, List.nil_append, List.cons_append, List.map_cons, List.map_nil, List.length_nil, List.length_cons, Value.cells, List.getElem?_cons_zero, List.getElem?_cons_succ, outE, lks, lkR, rdV, neg1, evs, opt, Nat.reduceAdd, Nat.reduceMul, and_self, reduceCtorEq, List.size_toArray, List.all_cons, List.all_nil, Value.oneCell', List.set_cons_zero, List.set_cons_succ, sets, fillL, Nat.reduceLeDiff, List.drop_succ_cons, List.drop_zero, List.take_succ_cons, List.take_zero, List.toList_toArray, argsE, Array.append_empty, Array.empty_append, List.getElem?_toArray, Int.reduceLT, Int.reduceLE, Int.reduceToNat, Int.reduceEq, Nat.reduceLT, rec17 hd]
  by_cases h0 : n < 0
  · simp only [↓eD0, ↓eD1, eC0, eC1, eC2, eC3, eC4, eC5, eC6, wantedE, ↓reduceIte, Nat.reduceEqDiff, Option.map_some, Option.map_none, reread, List.nil_append, List.cons_append, List.map_cons, List.map_nil, List.length_nil, List.length_cons, Value.cells, List.getElem?_cons_zero, List.getElem?_cons_succ, outE, lks, lkR, rdV, neg1, evs, opt, Nat.reduceAdd, Nat.reduceMul, and_self, reduceCtorEq, List.size_toArray, List.all_cons, List.all_nil, Value.oneCell', List.set_cons_zero, List.set_cons_succ, sets, fillL, Nat.reduceLeDiff, List.drop_succ_cons, List.drop_zero, List.take_succ_cons, List.take_zero, List.toList_toArray, argsE, Array.append_empty, Array.empty_append, List.getElem?_toArray, Int.reduceLT, Int.reduceLE, Int.reduceToNat, Int.reduceEq, Nat.reduceLT, h0, rec17 hd]
    exact ⟨.ap, zeroL, by simp [cutF, h0, zeroL], by simp only [cutF, h0, true_or, if_true]; exact ⟨isLg_zero, fun _ _ => isLg_zero.log⟩⟩
  · by_cases h1 : (L.E.length : Int) < n
    · simp only [↓eD0, ↓eD1, eC0, eC1, eC2, eC3, eC4, eC5, eC6, wantedE, ↓reduceIte, Nat.reduceEqDiff, Option.map_some, Option.map_none, reread, List.nil_append, List.cons_append, List.map_cons, List.map_nil, List.length_nil, List.length_cons, Value.cells, List.getElem?_cons_zero, List.getElem?_cons_succ, outE, lks, lkR, rdV, neg1, evs, opt, Nat.reduceAdd, Nat.reduceMul, and_self, reduceCtorEq, List.size_toArray, List.all_cons, List.all_nil, Value.oneCell', List.set_cons_zero, List.set_cons_succ, sets, fillL, Nat.reduceLeDiff, List.drop_succ_cons, List.drop_zero, List.take_succ_cons, List.take_zero, List.toList_toArray, argsE, Array.append_empty, Array.empty_append, List.getElem?_toArray, Int.reduceLT, Int.reduceLE, Int.reduceToNat, Int.reduceEq, Nat.reduceLT, h0, h1, rec17 hd]
      exact ⟨.ap, zeroL, by simp [cutF, h0, h1, zeroL], by simp only [cutF, h1, or_true, if_true]; exact ⟨isLg_zero, fun _ _ => isLg_zero.log⟩⟩
    · obtain ⟨k, rfl⟩ : ∃ k : Nat, n = k := ⟨n.toNat, by omega⟩
      obtain ⟨v', hsl, hpre, hpc⟩ := hv.pre hcap (i := k) (by omega)
      have hdr : cutF L k = (⟨L.d, L.c, L.E.take k, filt (fun _ s => decide (s.end_ ≤ (k : Int))) L.S⟩, 0) := by
        unfold cutF; rw [if_neg (by omega), Int.toNat_natCast]
      have ov : v'.oneCell' = true := by obtain ⟨_, _, _, rfl, _⟩ := hpc; rfl
      obtain ⟨a3, n3, b3, rfl, _⟩ := id hpc
      simp only [↓eD0, ↓eD1, eC0, eC1, eC2, eC3, eC4, eC5, eC6, wantedE, ↓reduceIte, Nat.reduceEqDiff, Option.map_some, Option.map_none, reread, List.nil_append, List.cons_append, List.map_cons, List.map_nil, List.length_nil, List.length_cons, Value.cells, List.getElem?_cons_zero, List.getElem?_cons_succ, outE, lks, lkR, rdV, neg1, evs, opt, Nat.reduceAdd, Nat.reduceMul, and_self, reduceCtorEq, List.size_toArray, List.all_cons, List.all_nil, Value.oneCell', List.set_cons_zero, List.set_cons_succ, sets, fillL, Nat.reduceLeDiff, List.drop_succ_cons, List.drop_zero, List.take_succ_cons, List.take_zero, List.toList_toArray, argsE, Array.append_empty, Array.empty_append, List.getElem?_toArray, Int.reduceLT, Int.reduceLE, Int.reduceToNat, Int.reduceEq, Nat.reduceLT, h0, h1, rec16 hd, rec17 hd, rec_len hd, rec_take16 hd, digC_len hd, rec_build hd, rec_s16 hd, rec_s17 hd, rec_take hd, rec_sets hd, rec_one, rec_ne, hsl]
      generalize hvv : Value.slice a3 n3 b3 = v at hsl hpre hpc ov ⊢
      have hM : Mk σ (ap σ [.cells 0 (recC L.d L.c (.slice a1 L.E.length b1) (.slice a2 L.S.length b2)) (0, 0), .cells 0 rd21 (0, 0), .cells 1 (recC L.d L.c v (.slice none 0 0)) (0, 0)]) (recC L.d L.c (.slice a1 L.E.length b1) (.slice a2 L.S.length b2)) rd21 L.d L.c v (.slice none 0 0) :=
        ⟨.ap, by simp [ap_size], ap_new0, ap_new, 1, ap_new⟩
      obtain ⟨N, hN⟩ : ∃ N, N = σ.size + 3 := ⟨_, rfl⟩
      have hM0 : σ.size + 3 ≤ N := by omega
      refine loop_for (J := fun i e τ => i ≤ L.S.length ∧ ∃ w', Mk σ τ (recC L.d L.c (.slice a1 L.E.length b1) (.slice a2 L.S.length b2)) rd21 L.d L.c v w' ∧
        e = [(1, .int .i64 k), (2, .pointer (some ⟨σ.size, 0, none⟩)), (4, .pointer (some ⟨σ.size + 1, 0, none⟩)), (5, .pointer (some ⟨σ.size + 2, 0, none⟩)), (6, .int .i64 i)] ∧ N ≤ τ.size ∧
        Grown (sized N) τ 33 w' ((filt (fun _ s => decide (s.end_ ≤ (k : Int))) (L.S.take i)).map seaV).flatten (filt (fun _ s => decide (s.end_ ≤ (k : Int))) (L.S.take i)).length) L.S.length
        ⟨by omega, _, hM, rfl, by rw [hN, ap_size]; simp, .nil⟩ ?_
      clear hM
      rintro i e τ hi ⟨_, w', hM, rfl, hNτ, hg⟩
      obtain ⟨ver, h5⟩ := hM.h5
      have e1 : ap τ [] = τ := ap_nil
      have t2 : ∀ l, rd1 (ap τ l) ⟨σ.size, 18, none⟩ = some (.slice a2 L.S.length b2) := fun l => by rw [rd1_eq, hM.ap.h2, rdc1_cells, rec18 hd]
      have t5 : ∀ l, rd1 (ap τ l) ⟨σ.size + 2, 18, none⟩ = some w' := fun l => by obtain ⟨_, h5⟩ := (hM.ap (L := l)).h5; rw [rd1_eq, h5, rdc1_cells, rec18 hd]
      rw [← e1]
      simp only [↓eD0, ↓eD1, eC0, eC1, eC2, eC3, eC4, eC5, eC6, wantedE, ↓reduceIte, Nat.reduceEqDiff, Option.map_some, Option.map_none, reread, List.nil_append, List.cons_append, List.map_cons, List.map_nil, List.length_nil, List.length_cons, Value.cells, List.getElem?_cons_zero, List.getElem?_cons_succ, outE, lks, lkR, rdV, neg1, evs, opt, Nat.reduceAdd, Nat.reduceMul, and_self, reduceCtorEq, List.size_toArray, List.all_cons, List.all_nil, Value.oneCell', List.set_cons_zero, List.set_cons_succ, sets, fillL, Nat.reduceLeDiff, List.drop_succ_cons, List.drop_zero, List.take_succ_cons, List.take_zero, List.toList_toArray, argsE, Array.append_empty, Array.empty_append, List.getElem?_toArray, Int.reduceLT, Int.reduceLE, Int.reduceToNat, Int.reduceEq, Nat.reduceLT, t2, t5]
      refine onI_dec (fun hlt => ?_) (fun hge => ?_)
      · have hlt : i < L.S.length := by simpa using hlt
        have hx : (L.S.map seaV)[i]? = some (seaV L.S[i]) := by simp [hlt]
        obtain ⟨c2, off2, rfl, h1⟩ := hw.at hx
        have hr : ∀ l, rdN (ap τ l) ⟨c2, off2 + i * 33, none⟩ 33 = some (seaV L.S[i]) := fun l => rdN_Old (hM.ap.old) h1
        have hr1 : ∀ l, rd1 (ap τ l) ⟨c2, off2 + i * 33, none⟩ = some (.int .i64 L.S[i].end_) := fun l => rd1_row (hr l) (j := 0) rfl
        have hb : (0:Int) ≤ (i:Int) ∧ (i:Int) < (L.S.length : Int) := by omega
        have hlS := h.fewS
        have hw' : IntKind.wrap .i64 ((i:Int) + 1) = ((i + 1 : Nat) : Int) := by rw [wrap64 (by omega) (by omega)]; omega
        have ht := filt_take (p := fun _ s => decide (s.end_ ≤ (k : Int))) hlt
        have hsl := seaV_len (h.ok L.S[i] (by simp))
        have hso := seaV_one (s := L.S[i])
        have hsf : ∀ z : List Value, z.length = 33 → sets z 0 (seaV L.S[i]) = seaV L.S[i] := fun z hz => by
          rw [sets_all (by omega)]; simp [hsl, hz]
        have hst : (seaV L.S[i]).take 33 = seaV L.S[i] := List.take_of_length_le (by omega)
        have hne : seaV L.S[i] ≠ [] := by simp [seaV]
        by_cases hik : L.S[i].end_ ≤ (k:Int)
        · have hdec : decide (L.S[i].end_ ≤ (k:Int)) = true := by simpa using hik
          simp only [↓eD0, ↓eD1, eC0, eC1, eC2, eC3, eC4, eC5, eC6, wantedE, ↓reduceIte, Nat.reduceEqDiff, Option.map_some, Option.map_none, reread, List.nil_append, List.cons_append, List.map_cons, List.map_nil, List.length_nil, List.length_cons, Value.cells, List.getElem?_cons_zero, List.getElem?_cons_succ, outE, lks, lkR, rdV, neg1, evs, opt, Nat.reduceAdd, Nat.reduceMul, and_self, reduceCtorEq, List.size_toArray, List.all_cons, List.all_nil, Value.oneCell', List.set_cons_zero, List.set_cons_succ, sets, fillL, Nat.reduceLeDiff, List.drop_succ_cons, List.drop_zero, List.take_succ_cons, List.take_zero, List.toList_toArray, argsE, Array.append_empty, Array.empty_append, List.getElem?_toArray, Int.reduceLT, Int.reduceLE, Int.reduceToNat, Int.reduceEq, Nat.reduceLT, t2, t5, hdec, hb, Int.toNat_natCast, hr, hr1, hsl, hso, hsf, hst, hne]
          have hl : (filt (fun _ s => decide (s.end_ ≤ (k : Int))) (L.S.take i)).length ≤ i := Nat.le_trans filt_len (by simp; omega)
          obtain ⟨v', τ', ha, hA⟩ := append_grown (σ := ap τ [.cells 0 (seaV L.S[i]) (0, 0)]) (xa := .slice (some ⟨τ.size, 0, none⟩) 1 1) (bytes := 40) (m := 1) (new := seaV L.S[i]) (hg.old .ap) (by omega) (by rw [sized_size, ap_size]; omega) (by
            show (rdN (ap τ _) ⟨τ.size, 0, none⟩ (1 * 33)).map (1, ·) = _
            simp only [rdN_ap0, List.getElem?_cons_zero, rdcN_cells, hsl]
            simp [hst]) hsl hso (by omega) (by omega)
          refine onV_of ha ?_
          have hM' := (hM.ap (L := [.cells 0 (seaV L.S[i]) (0, 0)])).app hA (hg.old .ap) hM0
          obtain ⟨a', c', rfl⟩ := hA.grown.slice
          obtain ⟨ver', h5'⟩ := hM'.h5
          simp only [↓eD0, ↓eD1, eC0, eC1, eC2, eC3, eC4, eC5, eC6, wantedE, ↓reduceIte, Nat.reduceEqDiff, Option.map_some, Option.map_none, reread, List.nil_append, List.cons_append, List.map_cons, List.map_nil, List.length_nil, List.length_cons, Value.cells, List.getElem?_cons_zero, List.getElem?_cons_succ, outE, lks, lkR, rdV, neg1, evs, opt, Nat.reduceAdd, Nat.reduceMul, and_self, reduceCtorEq, List.size_toArray, List.all_cons, List.all_nil, Value.oneCell', List.set_cons_zero, List.set_cons_succ, sets, fillL, Nat.reduceLeDiff, List.drop_succ_cons, List.drop_zero, List.take_succ_cons, List.take_zero, List.toList_toArray, argsE, Array.append_empty, Array.empty_append, List.getElem?_toArray, Int.reduceLT, Int.reduceLE, Int.reduceToNat, Int.reduceEq, Nat.reduceLT, wrN_eq, h5', rec_len hd, rec_s18 hd, hw']
          have g := hA.grown.set (b := σ.size + 2) (k := .cells (ver' + 1) (recC L.d L.c v (.slice a' ((filt (fun _ s => decide (s.end_ ≤ (k : Int))) (L.S.take i)).length + 1) c')) (0, 0)) (by rw [sized_size]; omega)
          have g4 := hA.size
          rw [ht, if_pos hdec, List.map_append, List.flatten_append, List.length_append]
          have g5 : N ≤ (τ'.setIfInBounds (σ.size + 2) (.cells (ver' + 1) (recC L.d L.c v (.slice a' ((filt (fun _ s => decide (s.end_ ≤ (k : Int))) (L.S.take i)).length + 1) c')) (0, 0))).size := by
            rw [ap_size] at g4; simp only [Array.size_setIfInBounds]; omega
          refine ⟨hlt, by omega, _, hM'.set, ?_⟩
          first
          | exact ⟨rfl, g5, by simpa using g⟩
          | exact ⟨g5, by simpa using g⟩
        · have hdec : decide (L.S[i].end_ ≤ (k:Int)) = false := by simpa using hik
          simp only [↓eD0, ↓eD1, eC0, eC1, eC2, eC3, eC4, eC5, eC6, wantedE, ↓reduceIte, Nat.reduceEqDiff, Option.map_some, Option.map_none, reread, List.nil_append, List.cons_append, List.map_cons, List.map_nil, List.length_nil, List.length_cons, Value.cells, List.getElem?_cons_zero, List.getElem?_cons_succ, outE, lks, lkR, rdV, neg1, evs, opt, Nat.reduceAdd, Nat.reduceMul, and_self, reduceCtorEq, List.size_toArray, List.all_cons, List.all_nil, Value.oneCell', List.set_cons_zero, List.set_cons_succ, sets, fillL, Nat.reduceLeDiff, List.drop_succ_cons, List.drop_zero, List.take_succ_cons, List.take_zero, List.toList_toArray, argsE, Array.append_empty, Array.empty_append, List.getElem?_toArray, Int.reduceLT, Int.reduceLE, Int.reduceToNat, Int.reduceEq, Nat.reduceLT, t2, t5, hdec, hb, Int.toNat_natCast, hr1, hw']
          rw [ht, if_neg (by simp [hdec]), List.append_nil]
          have g5 : N ≤ (ap τ []).size := by rw [ap_size]; omega
          refine ⟨hlt, by omega, _, hM.ap, ?_⟩
          first
          | exact ⟨rfl, g5, hg.old .ap⟩
          | exact ⟨g5, hg.old .ap⟩
      · have : i = L.S.length := by omega
        subst this
        have h2' := (hM.ap (L := [])).h4
        obtain ⟨_, h5'⟩ := (hM.ap (L := [])).h5
        rw [List.take_length] at hg
        have ow := hg.one
        have hz : (rd21 : List Value).length = 21 := rfl
        have hal : (recC L.d L.c v w' ++ [Value.int .i64 0, Value.int .i64 0]).all Value.oneCell' = true := by rw [List.all_append, rec_oneV ov ow]; rfl
        have hl21 : (recC L.d L.c v w' ++ [Value.int .i64 0, Value.int .i64 0]).length = 21 := by simp [rec_len hd]
        have hs21 : sets rd21 0 (recC L.d L.c v w' ++ [Value.int .i64 0, Value.int .i64 0]) = recC L.d L.c v w' ++ [Value.int .i64 0, Value.int .i64 0] := by
          rw [sets_all (by simp [hl21, hz]), hl21]; simp [rd21]
        have ht21 : (recC L.d L.c v w' ++ [Value.int .i64 0, Value.int .i64 0]).take 21 = recC L.d L.c v w' ++ [Value.int .i64 0, Value.int .i64 0] := List.take_of_length_le (by omega)
        have gb : ∀ k, ((ap τ []).setIfInBounds (σ.size + 1) k)[σ.size + 1]? = some k := fun k => get_set h2'
        simp only [↓eD0, ↓eD1, eC0, eC1, eC2, eC3, eC4, eC5, eC6, wantedE, ↓reduceIte, Nat.reduceEqDiff, Option.map_some, Option.map_none, reread, List.nil_append, List.cons_append, List.map_cons, List.map_nil, List.length_nil, List.length_cons, Value.cells, List.getElem?_cons_zero, List.getElem?_cons_succ, outE, lks, lkR, rdV, neg1, evs, opt, Nat.reduceAdd, Nat.reduceMul, and_self, reduceCtorEq, List.size_toArray, List.all_cons, List.all_nil, Value.oneCell', List.set_cons_zero, List.set_cons_succ, sets, fillL, Nat.reduceLeDiff, List.drop_succ_cons, List.drop_zero, List.take_succ_cons, List.take_zero, List.toList_toArray, argsE, Array.append_empty, Array.empty_append, List.getElem?_toArray, Int.reduceLT, Int.reduceLE, Int.reduceToNat, Int.reduceEq, Nat.reduceLT, rd1_eq, wrN_eq, rdN_eq, h2', h5', rec_len hd, rec_take hd, rec_sets21 hd, hal, hl21, hs21, hz, rec_ne1, gb, ht21]
        refine ⟨hM.ap.old.set (by omega), recC L.d L.c v w', by rw [hdr], ?_⟩
        rw [hdr]
        have fS : (filt (fun _ (s : Sea) => decide (s.end_ ≤ (k : Int))) L.S).length ≤ L.S.length := filt_len
        have := h.fewE
        have := h.fewS
        have hok := filt_ok (p := fun _ s => decide (s.end_ ≤ (k : Int))) h.ok
        refine ⟨IsLg.mk' hd ?_ ?_ hok (by simp; omega) (by omega) hpc, fun ρ hρ => ⟨rec_len hd, rec_take16 hd, hd, rec16 hd, ⟨v, rec17 hd, ?_⟩, by simp; omega⟩⟩
        rotate_right
        · obtain ⟨sl, h17, hrow⟩ := hρ.log.ents
          rw [rec17 hd] at h17
          injection h17 with h17
          subst h17
          obtain ⟨v2, hsl2, hpre2, _⟩ := hrow.pre hcap (i := k) (by omega)
          rw [hsl] at hsl2
          injection hsl2 with hsl2
          subst hsl2
          rw [List.map_take]; exact hpre2
        · rw [List.map_take]; exact hpre.Old (hM.ap.old.set (by omega))
        · have g1 := (hg.old (Old.ap (l := []))).set (b := σ.size + 1) (k := .cells 1 (recC L.d L.c v w' ++ [Value.int .i64 0, Value.int .i64 0]) (0, 0)) (by rw [sized_size]; omega)
          refine Grown.Row (by simpa using g1) ?_
          intro r hr
          obtain ⟨e, he, rfl⟩ := List.mem_map.1 hr
          exact seaV_len (hok e he)
end Go.Proofs.YtljmjkpmkpchoaaDoor

set_option linter.unusedSimpArgs false
set_option maxRecDepth 10000
set_option maxHeartbeats 1000000
namespace Go.Proofs.YtljmjkpmkpchoaaDoor
open Go Go.Cn Go.RowKit

theorem RawLg.len19 {σ : H} {l : List Value} {L : Lg} (h : RawLg σ l L) : l.length = 19 := by obtain ⟨hd, _, _, _, _, _, rfl, _⟩ := h; exact rec_len hd
theorem RawLg.old {σ τ : H} {l : List Value} {L : Lg} : RawLg σ l L → Old σ τ → RawLg τ l L := fun ⟨h1, h2, a, b, a', b', h3, h4, h5, h6⟩ ho => ⟨h1, h2, a, b, a', b', h3, h4.Old ho, h5.Old ho, h6⟩
theorem RawLg.small {σ : H} {l : List Value} {L : Lg} (h : RawLg σ l L) (hf : fewF L = true) : IsLg σ l L := h.lg (by have := (few_of hf).1; omega) (by have := (few_of hf).2.1; omega)
theorem sized_take {E : List Ent} (h : Sized E) (k : Nat) : Sized (E.take k) := fun e he => h e (List.mem_of_mem_take he)
theorem exp_take {E : List Ent} (k : Nat) : exp (E.take k) <+: exp E := by
  have := congrArg exp (List.take_append_drop k E)
  rw [exp_append] at this
  exact ⟨_, this⟩
theorem cont_own {L : Lg} (h : Sized L.E) : (contR L.d L.c L.E L.d L.c L.E).is = true := (contR_is h h).2 ⟨rfl, rfl, List.prefix_refl _⟩
theorem cont_cut {L : Lg} (h : Sized L.E) (k : Nat) : (contR L.d L.c (L.E.take k) L.d L.c L.E).is = true := (contR_is (sized_take h k) h).2 ⟨rfl, rfl, exp_take k⟩
theorem cont_trans {A B C : Lg} (a : Sized A.E) (b : Sized B.E) (c : Sized C.E) (h1 : (contR A.d A.c A.E B.d B.c B.E).is = true) (h2 : (contR B.d B.c B.E C.d C.c C.E).is = true) : (contR A.d A.c A.E C.d C.c C.E).is = true := by
  obtain ⟨g1, g2, g3⟩ := (contR_is a b).1 h1
  obtain ⟨g4, g5, g6⟩ := (contR_is b c).1 h2
  exact (contR_is a c).2 ⟨g1.trans g4, g2.trans g5, g3.trans g6⟩

theorem law4 {σ : H} {la lb lc : List Value} {A B C : Lg} {n : Int} (ha : RawLg σ la A) (hb : RawLg σ lb B) (hc : RawLg σ lc C) (hG : Glob σ) (n0 : 0 ≤ n) (n1 : n ≤ 255) :
    App Tryd.prog (.func 4) #[] #[.agg la.toArray, .agg lb.toArray, .agg lc.toArray, .int .u8 n] σ fun v σ' => Old σ σ' ∧ v = .bool true := by
  refine App.of_sem mixed Tryd.func4 t4 k4 r4 (Nat.le_of_ble_eq_true rfl) ?_
  have la1 := ha.len19
  have lb1 := hb.len19
  have lc1 := hc.len19
  have ta : la.take 19 = la := List.take_of_length_le (by omega)
  have tb : lb.take 19 = lb := List.take_of_length_le (by omega)
  have tc : lc.take 19 = lc := List.take_of_length_le (by omega)
  unfold s4
  have e0 : ap σ [] = σ := ap_nil
  rw [← e0]
  simp only [↓eD0, ↓eD1, eC0, eC1, eC2, eC3, eC4, eC5, eC6, wantedE, ↓reduceIte, Nat.reduceEqDiff, Option.map_some, Option.map_none, reread, List.nil_append, List.cons_append, List.map_cons, List.map_nil, List.length_nil, List.length_cons, Value.cells, List.getElem?_cons_zero, List.getElem?_cons_succ, outE, lks, lkR, rdV, neg1, evs, opt, Nat.reduceAdd, Nat.reduceMul, and_self, reduceCtorEq, List.size_toArray, List.all_cons, List.all_nil, Value.oneCell', List.set_cons_zero, List.set_cons_succ, sets, fillL, Nat.reduceLeDiff, List.drop_succ_cons, List.drop_zero, List.take_succ_cons, List.take_zero, List.toList_toArray, argsE, Array.append_empty, Array.empty_append, List.getElem?_toArray, Int.reduceLT, Int.reduceLE, Int.reduceToNat, Int.reduceEq, Nat.reduceLT, la1, lb1, lc1, ta, tb, tc]
  refine appK_of (few_app (ha.old .ap) (hG.Old .ap)) ?_
  rintro _ _ ⟨e2, rfl⟩
  rw [e2]
  clear e2
  cases fa : fewF A
  · simp only [↓eD0, ↓eD1, eC0, eC1, eC2, eC3, eC4, eC5, eC6, wantedE, ↓reduceIte, Nat.reduceEqDiff, Option.map_some, Option.map_none, reread, List.nil_append, List.cons_append, List.map_cons, List.map_nil, List.length_nil, List.length_cons, Value.cells, List.getElem?_cons_zero, List.getElem?_cons_succ, outE, lks, lkR, rdV, neg1, evs, opt, Nat.reduceAdd, Nat.reduceMul, and_self, reduceCtorEq, List.size_toArray, List.all_cons, List.all_nil, Value.oneCell', List.set_cons_zero, List.set_cons_succ, sets, fillL, Nat.reduceLeDiff, List.drop_succ_cons, List.drop_zero, List.take_succ_cons, List.take_zero, List.toList_toArray, argsE, Array.append_empty, Array.empty_append, List.getElem?_toArray, Int.reduceLT, Int.reduceLE, Int.reduceToNat, Int.reduceEq, Nat.reduceLT, fa, la1, lb1, lc1, ta, tb, tc]
    refine appK_of sanity_app ?_
    rintro _ _ ⟨e2, rfl⟩
    rw [e2]
    clear e2
    simp only [↓eD0, ↓eD1, eC0, eC1, eC2, eC3, eC4, eC5, eC6, wantedE, ↓reduceIte, Nat.reduceEqDiff, Option.map_some, Option.map_none, reread, List.nil_append, List.cons_append, List.map_cons, List.map_nil, List.length_nil, List.length_cons, Value.cells, List.getElem?_cons_zero, List.getElem?_cons_succ, outE, lks, lkR, rdV, neg1, evs, opt, Nat.reduceAdd, Nat.reduceMul, and_self, reduceCtorEq, List.size_toArray, List.all_cons, List.all_nil, Value.oneCell', List.set_cons_zero, List.set_cons_succ, sets, fillL, Nat.reduceLeDiff, List.drop_succ_cons, List.drop_zero, List.take_succ_cons, List.take_zero, List.toList_toArray, argsE, Array.append_empty, Array.empty_append, List.getElem?_toArray, Int.reduceLT, Int.reduceLE, Int.reduceToNat, Int.reduceEq, Nat.reduceLT]
    exact .ap
  simp only [↓eD0, ↓eD1, eC0, eC1, eC2, eC3, eC4, eC5, eC6, wantedE, ↓reduceIte, Nat.reduceEqDiff, Option.map_some, Option.map_none, reread, List.nil_append, List.cons_append, List.map_cons, List.map_nil, List.length_nil, List.length_cons, Value.cells, List.getElem?_cons_zero, List.getElem?_cons_succ, outE, lks, lkR, rdV, neg1, evs, opt, Nat.reduceAdd, Nat.reduceMul, and_self, reduceCtorEq, List.size_toArray, List.all_cons, List.all_nil, Value.oneCell', List.set_cons_zero, List.set_cons_succ, sets, fillL, Nat.reduceLeDiff, List.drop_succ_cons, List.drop_zero, List.take_succ_cons, List.take_zero, List.toList_toArray, argsE, Array.append_empty, Array.empty_append, List.getElem?_toArray, Int.reduceLT, Int.reduceLE, Int.reduceToNat, Int.reduceEq, Nat.reduceLT, fa, la1, lb1, lc1, ta, tb, tc]
  refine appK_of (few_app (hb.old .ap) (hG.Old .ap)) ?_
  rintro _ _ ⟨e2, rfl⟩
  rw [e2]
  clear e2
  cases fb : fewF B
  · simp only [↓eD0, ↓eD1, eC0, eC1, eC2, eC3, eC4, eC5, eC6, wantedE, ↓reduceIte, Nat.reduceEqDiff, Option.map_some, Option.map_none, reread, List.nil_append, List.cons_append, List.map_cons, List.map_nil, List.length_nil, List.length_cons, Value.cells, List.getElem?_cons_zero, List.getElem?_cons_succ, outE, lks, lkR, rdV, neg1, evs, opt, Nat.reduceAdd, Nat.reduceMul, and_self, reduceCtorEq, List.size_toArray, List.all_cons, List.all_nil, Value.oneCell', List.set_cons_zero, List.set_cons_succ, sets, fillL, Nat.reduceLeDiff, List.drop_succ_cons, List.drop_zero, List.take_succ_cons, List.take_zero, List.toList_toArray, argsE, Array.append_empty, Array.empty_append, List.getElem?_toArray, Int.reduceLT, Int.reduceLE, Int.reduceToNat, Int.reduceEq, Nat.reduceLT, fa, fb, la1, lb1, lc1, ta, tb, tc]
    refine appK_of sanity_app ?_
    rintro _ _ ⟨e2, rfl⟩
    rw [e2]
    clear e2
    simp only [↓eD0, ↓eD1, eC0, eC1, eC2, eC3, eC4, eC5, eC6, wantedE, ↓reduceIte, Nat.reduceEqDiff, Option.map_some, Option.map_none, reread, List.nil_append, List.cons_append, List.map_cons, List.map_nil, List.length_nil, List.length_cons, Value.cells, List.getElem?_cons_zero, List.getElem?_cons_succ, outE, lks, lkR, rdV, neg1, evs, opt, Nat.reduceAdd, Nat.reduceMul, and_self, reduceCtorEq, List.size_toArray, List.all_cons, List.all_nil, Value.oneCell', List.set_cons_zero, List.set_cons_succ, sets, fillL, Nat.reduceLeDiff, List.drop_succ_cons, List.drop_zero, List.take_succ_cons, List.take_zero, List.toList_toArray, argsE, Array.append_empty, Array.empty_append, List.getElem?_toArray, Int.reduceLT, Int.reduceLE, Int.reduceToNat, Int.reduceEq, Nat.reduceLT]
    exact .ap
  simp only [↓eD0, ↓eD1, eC0, eC1, eC2, eC3, eC4, eC5, eC6, wantedE, ↓reduceIte, Nat.reduceEqDiff, Option.map_some, Option.map_none, reread, List.nil_append, List.cons_append, List.map_cons, List.map_nil, List.length_nil, List.length_cons, Value.cells, List.getElem?_cons_zero, List.getElem?_cons_succ, outE, lks, lkR, rdV, neg1, evs, opt, Nat.reduceAdd, Nat.reduceMul, and_self, reduceCtorEq, List.size_toArray, List.all_cons, List.all_nil, Value.oneCell', List.set_cons_zero, List.set_cons_succ, sets, fillL, Nat.reduceLeDiff, List.drop_succ_cons, List.drop_zero, List.take_succ_cons, List.take_zero, List.toList_toArray, argsE, Array.append_empty, Array.empty_append, List.getElem?_toArray, Int.reduceLT, Int.reduceLE, Int.reduceToNat, Int.reduceEq, Nat.reduceLT, fa, fb, la1, lb1, lc1, ta, tb, tc]
  refine appK_of (few_app (hc.old .ap) (hG.Old .ap)) ?_
  rintro _ _ ⟨e2, rfl⟩
  rw [e2]
  clear e2
  cases fc : fewF C
  · simp only [↓eD0, ↓eD1, eC0, eC1, eC2, eC3, eC4, eC5, eC6, wantedE, ↓reduceIte, Nat.reduceEqDiff, Option.map_some, Option.map_none, reread, List.nil_append, List.cons_append, List.map_cons, List.map_nil, List.length_nil, List.length_cons, Value.cells, List.getElem?_cons_zero, List.getElem?_cons_succ, outE, lks, lkR, rdV, neg1, evs, opt, Nat.reduceAdd, Nat.reduceMul, and_self, reduceCtorEq, List.size_toArray, List.all_cons, List.all_nil, Value.oneCell', List.set_cons_zero, List.set_cons_succ, sets, fillL, Nat.reduceLeDiff, List.drop_succ_cons, List.drop_zero, List.take_succ_cons, List.take_zero, List.toList_toArray, argsE, Array.append_empty, Array.empty_append, List.getElem?_toArray, Int.reduceLT, Int.reduceLE, Int.reduceToNat, Int.reduceEq, Nat.reduceLT, fa, fb, fc, la1, lb1, lc1, ta, tb, tc]
    refine appK_of sanity_app ?_
    rintro _ _ ⟨e2, rfl⟩
    rw [e2]
    clear e2
    simp only [↓eD0, ↓eD1, eC0, eC1, eC2, eC3, eC4, eC5, eC6, wantedE, ↓reduceIte, Nat.reduceEqDiff, Option.map_some, Option.map_none, reread, List.nil_append, List.cons_append, List.map_cons, List.map_nil, List.length_nil, List.length_cons, Value.cells, List.getElem?_cons_zero, List.getElem?_cons_succ, outE, lks, lkR, rdV, neg1, evs, opt, Nat.reduceAdd, Nat.reduceMul, and_self, reduceCtorEq, List.size_toArray, List.all_cons, List.all_nil, Value.oneCell', List.set_cons_zero, List.set_cons_succ, sets, fillL, Nat.reduceLeDiff, List.drop_succ_cons, List.drop_zero, List.take_succ_cons, List.take_zero, List.toList_toArray, argsE, Array.append_empty, Array.empty_append, List.getElem?_toArray, Int.reduceLT, Int.reduceLE, Int.reduceToNat, Int.reduceEq, Nat.reduceLT]
    exact .ap
  have sa := few_sized fa
  have sb := few_sized fb
  have sc := few_sized fc
  have hA := ha.small fa
  have hB := hb.small fb
  have hC := hc.small fc
  have eA := (few_of fa).1
  obtain ⟨a1, b1, a2, b2, hla, _, _, _⟩ := hA.recs
  have hd := hA.log.d16
  have l17 : la[17]? = some (.slice a1 A.E.length b1) := by rw [hla]; exact rec17 hd
  have w1 : IntKind.wrap .i64 n = n := wrap64 (by omega) (by omega)
  have w2 : IntKind.wrap .i64 ((A.E.length : Int) + 1) = ((A.E.length + 1 : Nat) : Int) := by rw [wrap64 (by omega) (by omega)]; omega
  have w3 : (((A.E.length + 1 : Nat) : Int) = 0) = False := by simp; omega
  obtain ⟨m, rfl⟩ : ∃ m : Nat, n = m := ⟨n.toNat, by omega⟩
  have w4 : (m : Int).tmod ((A.E.length + 1 : Nat) : Int) = ((m % (A.E.length + 1) : Nat) : Int) := by rw [Int.tmod_eq_emod_of_nonneg (by omega)]; omega
  have hk : m % (A.E.length + 1) ≤ A.E.length := by have := Nat.mod_lt m (show 0 < A.E.length + 1 by omega); omega
  simp only [↓eD0, ↓eD1, eC0, eC1, eC2, eC3, eC4, eC5, eC6, wantedE, ↓reduceIte, Nat.reduceEqDiff, Option.map_some, Option.map_none, reread, List.nil_append, List.cons_append, List.map_cons, List.map_nil, List.length_nil, List.length_cons, Value.cells, List.getElem?_cons_zero, List.getElem?_cons_succ, outE, lks, lkR, rdV, neg1, evs, opt, Nat.reduceAdd, Nat.reduceMul, and_self, reduceCtorEq, List.size_toArray, List.all_cons, List.all_nil, Value.oneCell', List.set_cons_zero, List.set_cons_succ, sets, fillL, Nat.reduceLeDiff, List.drop_succ_cons, List.drop_zero, List.take_succ_cons, List.take_zero, List.toList_toArray, argsE, Array.append_empty, Array.empty_append, List.getElem?_toArray, Int.reduceLT, Int.reduceLE, Int.reduceToNat, Int.reduceEq, Nat.reduceLT, fa, fb, fc, la1, lb1, lc1, ta, tb, tc, l17, w1, w2, w3, w4]
  generalize m % (A.E.length + 1) = k at hk ⊢
  refine appK_of (cut_app (n := k) (hA.Old .ap)) ?_
  rintro _ τ1 ⟨ho1, lk, rfl, hKL, hK⟩
  have hcut : cutF A k = (⟨A.d, A.c, A.E.take k, filt (fun _ s => decide (s.end_ ≤ (k : Int))) A.S⟩, 0) := by
    unfold cutF; rw [if_neg (by omega), Int.toNat_natCast]
  rw [hcut] at hK hKL ⊢
  obtain ⟨k1, k2, k3, k4, hlk, _, _, _⟩ := hKL.recs
  have all21 : (lk ++ [Value.int .i64 0, Value.int .i64 0]).all Value.oneCell' = true := by rw [hlk]; exact rec_one2
  have lk1 := (hK _ hA).len
  have p0 := (ho1.2 σ.size (by simp [ap_size])).trans ap_new0
  have p1 := (ho1.2 (σ.size + 1) (by simp [ap_size])).trans ap_new
  have p2 := (ho1.2 (σ.size + 2) (by simp [ap_size])).trans ap_new
  have p3 := (ho1.2 (σ.size + 3) (by simp [ap_size])).trans ap_new
  have lk21 : (lk ++ [Value.int .i64 0, Value.int .i64 0]).length = 21 := by simp [lk1]
  have tk21 : (lk ++ [Value.int .i64 0, Value.int .i64 0]).take 21 = lk ++ [Value.int .i64 0, Value.int .i64 0] := List.take_of_length_le (by omega)
  have tk19 : (lk ++ [Value.int .i64 0, Value.int .i64 0]).take 19 = lk := List.take_left' lk1
  obtain ⟨slk, hslk, hrowk⟩ := (hK _ hA).ents
  have w21 : wrN τ1 ⟨σ.size + 3, 0, none⟩ (lk ++ [Value.int .i64 0, Value.int .i64 0]) = some (τ1.setIfInBounds (σ.size + 3) (.cells 1 (lk ++ [Value.int .i64 0, Value.int .i64 0]) (0, 0))) := by
    rw [wrN_eq, if_neg (by simp), p3]
    simp only [List.getElem?_cons_succ, List.getElem?_cons_zero, wrc_cells]
    rw [if_pos ⟨by rw [lk21]; exact Nat.le_refl _, all21⟩, sets_all (by rw [lk21]; exact Nat.le_refl _), lk21]
    simp
  have e1 : ap (τ1.setIfInBounds (σ.size + 3) (.cells 1 (lk ++ [Value.int .i64 0, Value.int .i64 0]) (0, 0))) [] = _ := ap_nil
  have ho2 : Old σ (τ1.setIfInBounds (σ.size + 3) (.cells 1 (lk ++ [Value.int .i64 0, Value.int .i64 0]) (0, 0))) := (Old.ap.trans ho1).set (by omega)
  have q0 : (τ1.setIfInBounds (σ.size + 3) (.cells 1 (lk ++ [Value.int .i64 0, Value.int .i64 0]) (0, 0)))[σ.size]? = _ := (get_set_ne (by omega)).trans p0
  have q1 : (τ1.setIfInBounds (σ.size + 3) (.cells 1 (lk ++ [Value.int .i64 0, Value.int .i64 0]) (0, 0)))[σ.size + 1]? = _ := (get_set_ne (by omega)).trans p1
  have q2 : (τ1.setIfInBounds (σ.size + 3) (.cells 1 (lk ++ [Value.int .i64 0, Value.int .i64 0]) (0, 0)))[σ.size + 2]? = _ := (get_set_ne (by omega)).trans p2
  have q3 : (τ1.setIfInBounds (σ.size + 3) (.cells 1 (lk ++ [Value.int .i64 0, Value.int .i64 0]) (0, 0)))[σ.size + 3]? = _ := get_set p3
  simp only [↓eD0, ↓eD1, eC0, eC1, eC2, eC3, eC4, eC5, eC6, wantedE, ↓reduceIte, Nat.reduceEqDiff, Option.map_some, Option.map_none, reread, List.nil_append, List.cons_append, List.map_cons, List.map_nil, List.length_nil, List.length_cons, Value.cells, List.getElem?_cons_zero, List.getElem?_cons_succ, outE, lks, lkR, rdV, neg1, evs, opt, Nat.reduceAdd, Nat.reduceMul, and_self, reduceCtorEq, List.size_toArray, List.all_cons, List.all_nil, Value.oneCell', List.set_cons_zero, List.set_cons_succ, sets, fillL, Nat.reduceLeDiff, List.drop_succ_cons, List.drop_zero, List.take_succ_cons, List.take_zero, List.toList_toArray, argsE, Array.append_empty, Array.empty_append, List.getElem?_toArray, Int.reduceLT, Int.reduceLE, Int.reduceToNat, Int.reduceEq, Nat.reduceLT, lk21, tk21, w21]
  generalize τ1.setIfInBounds (σ.size + 3) (.cells 1 (lk ++ [Value.int .i64 0, Value.int .i64 0]) (0, 0)) = τ at e1 ho2 q0 q1 q2 q3 ⊢
  have y0 := (Array.getElem?_eq_some_iff.1 q0).1
  have y1 := (Array.getElem?_eq_some_iff.1 q1).1
  have y2 := (Array.getElem?_eq_some_iff.1 q2).1
  have y3 := (Array.getElem?_eq_some_iff.1 q3).1
  have ra : ∀ L, rdN (ap τ L) ⟨σ.size, 0, none⟩ 19 = some la := fun L => rdN_all ((ap_old y0).trans q0) la1
  have rb : ∀ L, rdN (ap τ L) ⟨σ.size + 1, 0, none⟩ 19 = some lb := fun L => rdN_all ((ap_old y1).trans q1) lb1
  have rc : ∀ L, rdN (ap τ L) ⟨σ.size + 2, 0, none⟩ 19 = some lc := fun L => rdN_all ((ap_old y2).trans q2) lc1
  have rk : ∀ L, rdN (ap τ L) ⟨σ.size + 3, 0, none⟩ 19 = some lk := fun L => by
    rw [rdN_eq, if_neg (by decide), ap_old y3, q3, rdcN_cells, if_pos (by show 0 + 19 ≤ _; rw [lk21]; decide), List.drop_zero, tk19]
  rw [← e1]
  simp only [↓eD0, ↓eD1, eC0, eC1, eC2, eC3, eC4, eC5, eC6, wantedE, ↓reduceIte, Nat.reduceEqDiff, Option.map_some, Option.map_none, reread, List.nil_append, List.cons_append, List.map_cons, List.map_nil, List.length_nil, List.length_cons, Value.cells, List.getElem?_cons_zero, List.getElem?_cons_succ, outE, lks, lkR, rdV, neg1, evs, opt, Nat.reduceAdd, Nat.reduceMul, and_self, reduceCtorEq, List.size_toArray, List.all_cons, List.all_nil, Value.oneCell', List.set_cons_zero, List.set_cons_succ, sets, fillL, Nat.reduceLeDiff, List.drop_succ_cons, List.drop_zero, List.take_succ_cons, List.take_zero, List.toList_toArray, argsE, Array.append_empty, Array.empty_append, List.getElem?_toArray, Int.reduceLT, Int.reduceLE, Int.reduceToNat, Int.reduceEq, Nat.reduceLT, ra]
  have own := cont_own sa
  have cut := cont_cut sa k
  have trans := cont_trans sa sb sc
  refine appK_of (merge_app (hA.Old (ho2.trans .ap)).log (hA.Old (ho2.trans .ap)).log sa sa) ?_
  rintro _ _ ⟨e2, rfl⟩
  rw [e2]
  clear e2
  obtain ⟨_, _, _, _, _, _, _, _, _, h1⟩ := contV_eq (contR A.d A.c A.E A.d A.c A.E)
  rw [h1, own]
  simp only [↓eD0, ↓eD1, eC0, eC1, eC2, eC3, eC4, eC5, eC6, wantedE, ↓reduceIte, Nat.reduceEqDiff, Option.map_some, Option.map_none, reread, List.nil_append, List.cons_append, List.map_cons, List.map_nil, List.length_nil, List.length_cons, Value.cells, List.getElem?_cons_zero, List.getElem?_cons_succ, outE, lks, lkR, rdV, neg1, evs, opt, Nat.reduceAdd, Nat.reduceMul, and_self, reduceCtorEq, List.size_toArray, List.all_cons, List.all_nil, Value.oneCell', List.set_cons_zero, List.set_cons_succ, sets, fillL, Nat.reduceLeDiff, List.drop_succ_cons, List.drop_zero, List.take_succ_cons, List.take_zero, List.toList_toArray, argsE, Array.append_empty, Array.empty_append, List.getElem?_toArray, Int.reduceLT, Int.reduceLE, Int.reduceToNat, Int.reduceEq, Nat.reduceLT, ra, rk]
  refine appK_of (merge_app ((hK _ hA).Old (ho2.trans .ap)) (hA.Old (ho2.trans .ap)).log (sized_take sa k) sa) ?_
  rintro _ _ ⟨e2, rfl⟩
  rw [e2]
  clear e2
  obtain ⟨_, _, _, _, _, _, _, _, _, h1⟩ := contV_eq (contR A.d A.c (A.E.take k) A.d A.c A.E)
  rw [h1, cut]
  simp only [↓eD0, ↓eD1, eC0, eC1, eC2, eC3, eC4, eC5, eC6, wantedE, ↓reduceIte, Nat.reduceEqDiff, Option.map_some, Option.map_none, reread, List.nil_append, List.cons_append, List.map_cons, List.map_nil, List.length_nil, List.length_cons, Value.cells, List.getElem?_cons_zero, List.getElem?_cons_succ, outE, lks, lkR, rdV, neg1, evs, opt, Nat.reduceAdd, Nat.reduceMul, and_self, reduceCtorEq, List.size_toArray, List.all_cons, List.all_nil, Value.oneCell', List.set_cons_zero, List.set_cons_succ, sets, fillL, Nat.reduceLeDiff, List.drop_succ_cons, List.drop_zero, List.take_succ_cons, List.take_zero, List.toList_toArray, argsE, Array.append_empty, Array.empty_append, List.getElem?_toArray, Int.reduceLT, Int.reduceLE, Int.reduceToNat, Int.reduceEq, Nat.reduceLT, ra, rb]
  refine appK_of (merge_app (hA.Old (ho2.trans .ap)).log (hB.Old (ho2.trans .ap)).log sa sb) ?_
  rintro _ _ ⟨e2, rfl⟩
  rw [e2]
  clear e2
  obtain ⟨_, _, _, _, _, _, _, _, _, h1⟩ := contV_eq (contR A.d A.c A.E B.d B.c B.E)
  rw [h1]
  simp only [↓eD0, ↓eD1, eC0, eC1, eC2, eC3, eC4, eC5, eC6, wantedE, ↓reduceIte, Nat.reduceEqDiff, Option.map_some, Option.map_none, reread, List.nil_append, List.cons_append, List.map_cons, List.map_nil, List.length_nil, List.length_cons, Value.cells, List.getElem?_cons_zero, List.getElem?_cons_succ, outE, lks, lkR, rdV, neg1, evs, opt, Nat.reduceAdd, Nat.reduceMul, and_self, reduceCtorEq, List.size_toArray, List.all_cons, List.all_nil, Value.oneCell', List.set_cons_zero, List.set_cons_succ, sets, fillL, Nat.reduceLeDiff, List.drop_succ_cons, List.drop_zero, List.take_succ_cons, List.take_zero, List.toList_toArray, argsE, Array.append_empty, Array.empty_append, List.getElem?_toArray, Int.reduceLT, Int.reduceLE, Int.reduceToNat, Int.reduceEq, Nat.reduceLT, rb, rc]
  refine appK_of (merge_app (hB.Old (ho2.trans .ap)).log (hC.Old (ho2.trans .ap)).log sb sc) ?_
  rintro _ _ ⟨e2, rfl⟩
  rw [e2]
  clear e2
  obtain ⟨_, _, _, _, _, _, _, _, _, h1⟩ := contV_eq (contR B.d B.c B.E C.d C.c C.E)
  rw [h1]
  simp only [↓eD0, ↓eD1, eC0, eC1, eC2, eC3, eC4, eC5, eC6, wantedE, ↓reduceIte, Nat.reduceEqDiff, Option.map_some, Option.map_none, reread, List.nil_append, List.cons_append, List.map_cons, List.map_nil, List.length_nil, List.length_cons, Value.cells, List.getElem?_cons_zero, List.getElem?_cons_succ, outE, lks, lkR, rdV, neg1, evs, opt, Nat.reduceAdd, Nat.reduceMul, and_self, reduceCtorEq, List.size_toArray, List.all_cons, List.all_nil, Value.oneCell', List.set_cons_zero, List.set_cons_succ, sets, fillL, Nat.reduceLeDiff, List.drop_succ_cons, List.drop_zero, List.take_succ_cons, List.take_zero, List.toList_toArray, argsE, Array.append_empty, Array.empty_append, List.getElem?_toArray, Int.reduceLT, Int.reduceLE, Int.reduceToNat, Int.reduceEq, Nat.reduceLT, ra, rc]
  refine appK_of (merge_app (hA.Old (ho2.trans .ap)).log (hC.Old (ho2.trans .ap)).log sa sc) ?_
  rintro _ _ ⟨e2, rfl⟩
  rw [e2]
  clear e2
  obtain ⟨_, _, _, _, _, _, _, _, _, h1⟩ := contV_eq (contR A.d A.c A.E C.d C.c C.E)
  rw [h1]
  simp only [↓eD0, ↓eD1, eC0, eC1, eC2, eC3, eC4, eC5, eC6, wantedE, ↓reduceIte, Nat.reduceEqDiff, Option.map_some, Option.map_none, reread, List.nil_append, List.cons_append, List.map_cons, List.map_nil, List.length_nil, List.length_cons, Value.cells, List.getElem?_cons_zero, List.getElem?_cons_succ, outE, lks, lkR, rdV, neg1, evs, opt, Nat.reduceAdd, Nat.reduceMul, and_self, reduceCtorEq, List.size_toArray, List.all_cons, List.all_nil, Value.oneCell', List.set_cons_zero, List.set_cons_succ, sets, fillL, Nat.reduceLeDiff, List.drop_succ_cons, List.drop_zero, List.take_succ_cons, List.take_zero, List.toList_toArray, argsE, Array.append_empty, Array.empty_append, List.getElem?_toArray, Int.reduceLT, Int.reduceLE, Int.reduceToNat, Int.reduceEq, Nat.reduceLT]
  refine appK_of sanity_app ?_
  rintro _ _ ⟨e2, rfl⟩
  rw [e2]
  clear e2
  simp only [↓eD0, ↓eD1, eC0, eC1, eC2, eC3, eC4, eC5, eC6, wantedE, ↓reduceIte, Nat.reduceEqDiff, Option.map_some, Option.map_none, reread, List.nil_append, List.cons_append, List.map_cons, List.map_nil, List.length_nil, List.length_cons, Value.cells, List.getElem?_cons_zero, List.getElem?_cons_succ, outE, lks, lkR, rdV, neg1, evs, opt, Nat.reduceAdd, Nat.reduceMul, and_self, reduceCtorEq, List.size_toArray, List.all_cons, List.all_nil, Value.oneCell', List.set_cons_zero, List.set_cons_succ, sets, fillL, Nat.reduceLeDiff, List.drop_succ_cons, List.drop_zero, List.take_succ_cons, List.take_zero, List.toList_toArray, argsE, Array.append_empty, Array.empty_append, List.getElem?_toArray, Int.reduceLT, Int.reduceLE, Int.reduceToNat, Int.reduceEq, Nat.reduceLT]
  cases x1 : (contR A.d A.c A.E B.d B.c B.E).is
  · simp only [↓eD0, ↓eD1, eC0, eC1, eC2, eC3, eC4, eC5, eC6, wantedE, ↓reduceIte, Nat.reduceEqDiff, Option.map_some, Option.map_none, reread, List.nil_append, List.cons_append, List.map_cons, List.map_nil, List.length_nil, List.length_cons, Value.cells, List.getElem?_cons_zero, List.getElem?_cons_succ, outE, lks, lkR, rdV, neg1, evs, opt, Nat.reduceAdd, Nat.reduceMul, and_self, reduceCtorEq, List.size_toArray, List.all_cons, List.all_nil, Value.oneCell', List.set_cons_zero, List.set_cons_succ, sets, fillL, Nat.reduceLeDiff, List.drop_succ_cons, List.drop_zero, List.take_succ_cons, List.take_zero, List.toList_toArray, argsE, Array.append_empty, Array.empty_append, List.getElem?_toArray, Int.reduceLT, Int.reduceLE, Int.reduceToNat, Int.reduceEq, Nat.reduceLT, x1]
    exact ho2.trans .ap
  · cases x2 : (contR B.d B.c B.E C.d C.c C.E).is
    · simp only [↓eD0, ↓eD1, eC0, eC1, eC2, eC3, eC4, eC5, eC6, wantedE, ↓reduceIte, Nat.reduceEqDiff, Option.map_some, Option.map_none, reread, List.nil_append, List.cons_append, List.map_cons, List.map_nil, List.length_nil, List.length_cons, Value.cells, List.getElem?_cons_zero, List.getElem?_cons_succ, outE, lks, lkR, rdV, neg1, evs, opt, Nat.reduceAdd, Nat.reduceMul, and_self, reduceCtorEq, List.size_toArray, List.all_cons, List.all_nil, Value.oneCell', List.set_cons_zero, List.set_cons_succ, sets, fillL, Nat.reduceLeDiff, List.drop_succ_cons, List.drop_zero, List.take_succ_cons, List.take_zero, List.toList_toArray, argsE, Array.append_empty, Array.empty_append, List.getElem?_toArray, Int.reduceLT, Int.reduceLE, Int.reduceToNat, Int.reduceEq, Nat.reduceLT, x1, x2]
      exact ho2.trans .ap
    · simp only [↓eD0, ↓eD1, eC0, eC1, eC2, eC3, eC4, eC5, eC6, wantedE, ↓reduceIte, Nat.reduceEqDiff, Option.map_some, Option.map_none, reread, List.nil_append, List.cons_append, List.map_cons, List.map_nil, List.length_nil, List.length_cons, Value.cells, List.getElem?_cons_zero, List.getElem?_cons_succ, outE, lks, lkR, rdV, neg1, evs, opt, Nat.reduceAdd, Nat.reduceMul, and_self, reduceCtorEq, List.size_toArray, List.all_cons, List.all_nil, Value.oneCell', List.set_cons_zero, List.set_cons_succ, sets, fillL, Nat.reduceLeDiff, List.drop_succ_cons, List.drop_zero, List.take_succ_cons, List.take_zero, List.toList_toArray, argsE, Array.append_empty, Array.empty_append, List.getElem?_toArray, Int.reduceLT, Int.reduceLE, Int.reduceToNat, Int.reduceEq, Nat.reduceLT, x1, x2, trans x1 x2]
      exact ho2.trans .ap
end Go.Proofs.YtljmjkpmkpchoaaDoor
