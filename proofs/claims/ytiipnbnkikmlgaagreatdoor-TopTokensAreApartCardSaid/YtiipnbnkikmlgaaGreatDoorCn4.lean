/- An abstract run of a program, and that the model does the same: a part of the framework. Conditions: none. -/
import Derived.Test.YtiipnbnkikmlgaaGreatDoorCn1
import Derived.ChangeKeysEq
set_option linter.all false
namespace Go.Cn
open Go Go.RowKit
section
variable {P : Program} {φ : Emb} {w : World}
theorem VR.bool_inv {b : Bool} {v' : Value} (h : VR φ (.bool b) v') : v' = .bool b := by cases h; rfl
theorem VR.int_inv {k : IntKind} {n : Int} {v' : Value} (h : VR φ (.int k n) v') : v' = .int k n := by cases h; rfl
theorem VR.string_inv {s : ByteArray} {v' : Value} (h : VR φ (.string s) v') : v' = .string s := by cases h; rfl
theorem VR.ptr_inv {a : Addr} {v' : Value} (h : VR φ (.pointer (some a)) v') : ∃ x, φ a.block = some x ∧ a = ⟨a.block, a.off, none⟩ ∧ v' = .pointer (some ⟨x.r, x.o + a.off, none⟩) := by
 cases h with | ptr b off x h => exact ⟨x, h, rfl, rfl⟩
theorem VR.agg_inv {cs : Array Value} {v' : Value} (h : VR φ (.agg cs) v') : ∃ cs', v' = .agg cs' ∧ VRs φ cs cs' := by
 cases h with | agg _ xs' hx hh => exact ⟨xs', rfl, hx, hh⟩
theorem VR.tuple_inv {cs : Array Value} {v' : Value} (h : VR φ (.tuple cs) v') : ∃ cs', v' = .tuple cs' ∧ VRs φ cs cs' := by
 cases h with | tuple _ xs' hx hh => exact ⟨xs', rfl, hx, hh⟩
theorem VR.slice_inv {a : Addr} {n c : Nat} {v' : Value} (h : VR φ (.slice (some a) n c) v') : ∃ a' c', v' = .slice (some a') n c' ∧ SlR φ a a' n c c' := by
 cases h with | slice _ a' _ _ c' hs => exact ⟨a', c', rfl, hs⟩
theorem decide_toList (a b : ByteArray) : (a.toList == b.toList) = decide (a = b) := by
 rw [ByteArray.toList_eq, ByteArray.toList_eq, Bool.eq_iff_iff]
 obtain ⟨⟨x⟩⟩ := a
 obtain ⟨⟨y⟩⟩ := b
 simp
theorem run_binInt {op : BinOp} {t : TypeId} {k : IntKind} {a b : Int} {v : Value} (hs : isShift op = false) (h : binInt op k a b = some v) :
    (binOp op t (.int k a) (.int k b)).run P w = .ok v w := by
  cases op <;> simp only [isShift, Bool.true_eq_false] at hs <;> simp only [binInt] at h
  all_goals first
    | (injection h with h; subst h; simp [binOp, Op.intArith, Op.intBits, Op.intCmp]; done)
    | (split at h
       · cases h
       · rename_i hb; injection h with h; subst h; simp [binOp, Op.intDiv, hb])
    | (injection h with h; subst h; simp [binOp, Op.intCmp, bne]; rfl)
theorem run_shift {op : BinOp} {t : TypeId} {k k' : IntKind} {a b : Int} {v : Value} (hs : isShift op = true) (h : shift op k a b = some v) :
  (binOp op t (.int k a) (.int k' b)).run P w = .ok v w := by
 unfold shift at h
 split at h
 ·cases h
 ·rename_i hb
  cases op <;> simp only [isShift, Bool.false_eq_true] at hs <;> (simp only at h; injection h with h; subst h; simp [binOp, Op.shift, hb])
theorem run_binStr {op : BinOp} {t : TypeId} {a b : ByteArray} {v : Value} (h : binStr op a b = some v) :
    (binOp op t (.string a) (.string b)).run P w = .ok v w := by
  cases op <;> simp only [binStr] at h
  all_goals first
    | (cases h; done)
    | (injection h with h; subst h; simp [binOp, Op.stringOp, decide_toList]; done)
    | (split at h
       · rename_i hb
         injection h with h; subst h
         have : ¬ (9223372036854775807 : Int) < (a.size : Int) + (b.size : Int) := by omega
         simp [binOp, Op.stringOp, this]
       · cases h)
theorem bin_sound {op : BinOp} {t : TypeId} {x y : Operand} {a b v a' b' : Value} (h : bin op a b = some v) (ha : VR φ a a') (hb : VR φ b b') :
    (eqGuard op t x y a' b' >>= fun _ => binOp op t a' b').run P w = .ok v w ∧ VR φ v v := by
  unfold bin at h
  split at h
  · rename_i k n k' m
    rw [ha.int_inv, hb.int_inv, eqGuard_at_int]
    split at h
    · rename_i hs
      refine ⟨by simpa using run_shift hs h, ?_⟩
      unfold shift at h
      split at h
      · cases h
      · split at h <;> first | (injection h with h; subst h; exact .int _ _) | cases h
    · rename_i hs
      split at h
      · rename_i hk
        subst hk
        refine ⟨by simpa using run_binInt (by simpa using hs) h, ?_⟩
        cases op <;> simp only [binInt] at h <;> first
          | (injection h with h; subst h; first | exact .int _ _ | exact .bool _)
          | (split at h
             · cases h
             · injection h with h; subst h; exact .int _ _)
          | cases h
      · cases h
  · rw [ha.string_inv, hb.string_inv, eqGuard_at_string]
    refine ⟨by simpa using run_binStr h, ?_⟩
    cases op <;> simp only [binStr] at h <;> first
      | (injection h with h; subst h; first | exact .string _ | exact .bool _)
      | (split at h
         · injection h with h; subst h; exact .string _
         · cases h)
      | cases h
  · cases h
theorem unop_sound {op : UnOp} {x v x' : Value} (h : unop op x = some v) (hx : VR φ x x') : (Op.unary op x').run P w = .ok v w ∧ VR φ v v := by
 unfold unop at h
 split at h
 ·injection h with h; subst h; rw [hx.int_inv]; exact ⟨by simp [Op.unary, Op.intArith], .int _ _⟩
 ·injection h with h; subst h; rw [hx.int_inv]; exact ⟨by simp [Op.unary, Op.intBits], .int _ _⟩
 ·injection h with h; subst h; rw [hx.bool_inv]; exact ⟨by simp [Op.unary], .bool _⟩
 ·cases h
theorem run_part {n : Option Nat} {t : TypeId} {cs : Array Value} {off : Nat} {v : Value} (ht : shapeOf P t = some n) (h : partOf n cs off = some v) :
  (part t cs off).run P w = .ok v w := by
 unfold shapeOf at ht
 unfold aggOf szOf at ht
 cases hu : P.underlying t with
 |none => simp [hu] at ht
 |some d =>
  cases hi : P.info? t with
  |none => cases d <;> simp [hu, hi] at ht
  |some i =>
   cases d <;> simp [hu, hi] at ht <;> subst ht <;> simp [partOf] at h <;>
    simp [part, isAgg, underlying, Sem.run_bind, hu, sizeOf, typeInfo, hi, h]
theorem partOf_VR {n : Option Nat} {cs cs' : Array Value} {off : Nat} {v : Value} (hc : VRs φ cs cs') (h : partOf n cs off = some v) : ∃ v', partOf n cs' off = some v' ∧ VR φ v v' := by
 cases n with
 |none => exact hc.get h
 |some n =>
  simp only [partOf, Option.some.injEq] at h ⊢
  subst h
  refine ⟨_, rfl, VR.aggs ⟨by simp [hc.1], fun i h1 h2 => ?_⟩⟩
  simp only [Array.getElem_extract]
  exact hc.2 _ _ _
end
section
variable {P : Program} {φ : Emb} {w : World}
def valOf (P : Program) (t : TypeId) (cs : List Value) : Value := if aggOf P t = some true then .agg cs.toArray else cs.headD undef
theorem aggEq_length : ∀ {ls : List Leaf} {xs ys : List Value} {b : Bool}, aggEq ls xs ys = some b → xs.length = ls.length ∧ ys.length = ls.length
 |[], [], [], _, _ => ⟨rfl, rfl⟩
 |[], _ :: _, _, _, h => by simp [aggEq] at h
 |[], [], _ :: _, _, h => by simp [aggEq] at h
 |_ :: _, [], _, _, h => by simp [aggEq] at h
 |_ :: _, _ :: _, [], _, h => by simp [aggEq] at h
 |l :: ls, x :: xs, y :: ys, b, h => by
  unfold aggEq at h
  split at h
  ·split at h
   ·rename_i h2
    have := aggEq_length h2
    simp [this.1, this.2]
   ·cases h
  ·cases h
theorem aggEq_append : ∀ {l r : List Leaf} {xs ys : List Value} {b : Bool}, aggEq (l ++ r) xs ys = some b →
    ∃ b1 b2, aggEq l (xs.take l.length) (ys.take l.length) = some b1 ∧ aggEq r (xs.drop l.length) (ys.drop l.length) = some b2 ∧ b = (b1 && b2)
  | [], r, xs, ys, b, h => ⟨true, b, by simp [aggEq], by simpa using h, by simp⟩
  | a :: l, r, xs, ys, b, h => by
    cases xs with
    | nil => simp [aggEq] at h
    | cons x xs =>
      cases ys with
      | nil => simp [aggEq] at h
      | cons y ys =>
        simp only [List.cons_append] at h
        unfold aggEq at h
        split at h
        · rename_i hf
          split at h
          · rename_i e1 e2 h1 h2
            injection h with h
            subst h
            obtain ⟨b1, b2, g1, g2, g3⟩ := aggEq_append h2
            refine ⟨e1 && b1, b2, ?_, by simpa using g2, by rw [g3, Bool.and_assoc]⟩
            simp only [List.length_cons, List.take_succ_cons]
            unfold aggEq
            rw [if_pos hf, h1, g1]
          · cases h
        · cases h
theorem run_part_val {t : TypeId} {cs : List Value} {off s : Nat} (hs : szOf P t = some s) (ha : ∃ b, aggOf P t = some b) (h1 : aggOf P t = some false → s = 1 ∧ off + s ≤ cs.length) :
  (part t cs.toArray off).run P w = .ok (valOf P t ((cs.drop off).take s)) w := by
 obtain ⟨b, hb⟩ := ha
 unfold szOf at hs
 cases hi : P.info? t with
 |none => simp [hi] at hs
 |some i =>
  simp only [hi, Option.map_some, Option.some.injEq] at hs
  unfold aggOf at hb
  cases hu : P.underlying t with
  |none => simp [hu] at hb
  |some d =>
   have sc : b = false → ∀ v, cs[off]? = some v → ((cs.drop off).take s).headD undef = v := by
    intro hbf v hv
    have hs1 : s = 1 := (h1 (by simp only [aggOf, hu, Option.map_some] at hb ⊢; rw [hb, hbf])).1
    rw [hs1]
    have : (cs.drop off).head? = some v := by rw [List.head?_drop]; exact hv
    cases hd : cs.drop off with
    |nil => rw [hd] at this; cases this
    |cons a r => rw [hd] at this; simpa using this
   cases d <;> simp only [hu, Option.map_some, Option.some.injEq] at hb <;> subst hb
   case struct fs =>
    simp [part, isAgg, underlying, Sem.run_bind, hu, sizeOf, typeInfo, hi, hs, valOf, aggOf]
    try (rw [List.extract_eq_take_drop])
   case array n e =>
    simp [part, isAgg, underlying, Sem.run_bind, hu, sizeOf, typeInfo, hi, hs, valOf, aggOf]
    try (rw [List.extract_eq_take_drop])
   all_goals
    have hs1 := h1 (by simp [aggOf, hu])
    have hlt : off < cs.length := by omega
    have hv : cs[off]? = some cs[off] := by simp [hlt]
    have := sc rfl _ hv
    simp [part, isAgg, underlying, Sem.run_bind, hu, valOf, aggOf, hlt]
    rw [← this]
    simp
theorem leaves_shape : ∀ {d : Nat} {t : TypeId} {ls : List Leaf}, leaves P d t = some ls → (∃ b, aggOf P t = some b) ∧ (aggOf P t = some false → ls.length = 1)
 |0, _, _, h => by simp [leaves] at h
 |d + 1, t, ls, h => by
  unfold leaves at h
  unfold aggOf
  cases hu : P.underlying t with
  |none => simp [hu] at h
  |some k => cases k <;> simp [hu] at h ⊢ <;> (try (subst h; rfl))
theorem leaves_eq : ∀ (d : Nat) (t : TypeId) (ls : List Leaf), leaves P d t = some ls → ∀ (xs ys : List Value) (b : Bool), aggEq ls xs ys = some b → ∀ D w, d ≤ D →
    (Op.equalIn D t (valOf P t xs) (valOf P t ys)).run P w = .ok b w := by
  intro d
  induction d with
  | zero => intro t ls h; simp [leaves] at h
  | succ d ih =>
    intro t ls h xs ys b hb D w hD
    obtain ⟨D, rfl⟩ : ∃ D', D = D' + 1 := ⟨D - 1, by omega⟩
    have hlen := aggEq_length hb
    unfold leaves at h
    cases hu : P.underlying t with
    | none => simp [hu] at h
    | some k =>
      cases k
      case int k =>
        simp only [hu, Option.some.injEq] at h
        subst h
        obtain ⟨x, rfl⟩ := List.length_eq_one_iff.1 hlen.1
        obtain ⟨y, rfl⟩ := List.length_eq_one_iff.1 hlen.2
        simp only [aggEq] at hb
        cases x <;> simp [Leaf.fits] at hb
        cases y <;> simp at hb
        obtain ⟨⟨rfl, rfl⟩, hb⟩ := hb
        simp [leafEq] at hb
        subst hb
        simp only [valOf, aggOf, hu, Option.map_some]
        simp [run_equalIn_int w D t _ _ _ _ hu]
        rfl
      case bool =>
        simp only [hu, Option.some.injEq] at h
        subst h
        obtain ⟨x, rfl⟩ := List.length_eq_one_iff.1 hlen.1
        obtain ⟨y, rfl⟩ := List.length_eq_one_iff.1 hlen.2
        simp only [aggEq] at hb
        cases x <;> simp [Leaf.fits] at hb
        cases y <;> simp [leafEq] at hb
        subst hb
        simp only [valOf, aggOf, hu, Option.map_some]
        simp [run_equalIn_bool w D t _ _ hu]
        rfl
      case string =>
        simp only [hu, Option.some.injEq] at h
        subst h
        obtain ⟨x, rfl⟩ := List.length_eq_one_iff.1 hlen.1
        obtain ⟨y, rfl⟩ := List.length_eq_one_iff.1 hlen.2
        simp only [aggEq] at hb
        cases x <;> simp [Leaf.fits] at hb
        cases y <;> simp [leafEq] at hb
        subst hb
        simp only [valOf, aggOf, hu, Option.map_some]
        simp [run_equalIn_string w D t _ _ hu, decide_toList]
      case struct fs =>
        simp only [hu] at h
        split at h
        · cases h
        · rename_i hst
          have hfs : P.fieldsOf t = fs := by simp [Program.fieldsOf, hu]
          have hval : ∀ l, valOf P t l = .agg l.toArray := fun l => by simp [valOf, aggOf, hu]
          rw [hval, hval, run_equalIn_struct w D t _ _ (by rw [hfs]; exact hu) (by simpa using hst), hfs]
          have key : ∀ (fl : List Field) (off : Nat) (ls : List Leaf) (b : Bool), leavesGo P (leaves P d) fl off = some ls → aggEq ls (xs.drop off) (ys.drop off) = some b →
              (Op.eqFields D xs.toArray ys.toArray fl).run P w = .ok b w := by
            intro fl
            induction fl with
            | nil =>
              intro off ls b hg hb
              simp only [leavesGo, Option.some.injEq] at hg
              subst hg
              have := aggEq_length hb
              have e1 : xs.drop off = [] := List.eq_nil_of_length_eq_zero this.1
              have e2 : ys.drop off = [] := List.eq_nil_of_length_eq_zero this.2
              rw [e1, e2] at hb
              simp [aggEq] at hb
              subst hb
              simp [Op.eqFields]
            | cons f fl ihf =>
              intro off ls b hg hb
              unfold leavesGo at hg
              split at hg
              · cases hg
              · rename_i hn
                rw [not_or] at hn
                obtain ⟨hn1, hn2⟩ := hn
                have hoff : f.offset = off := by simpa using hn2
                split at hg
                · rename_i l s hl hs
                  split at hg
                  · rename_i hls
                    split at hg
                    · rename_i r hr
                      injection hg with hg
                      subst hg
                      obtain ⟨b1, b2, g1, g2, g3⟩ := aggEq_append hb
                      have hlen := aggEq_length hb
                      simp only [List.length_append, List.length_drop] at hlen
                      have hsh := leaves_shape hl
                      have p1 := run_part_val (w := w) (cs := xs) (off := f.offset) hs hsh.1 (fun h => by have := hsh.2 h; omega)
                      have p2 := run_part_val (w := w) (cs := ys) (off := f.offset) hs hsh.1 (fun h => by have := hsh.2 h; omega)
                      have q := ih f.type l hl _ _ b1 g1 D w (by omega)
                      rw [hls, ← hoff] at q
                      simp only [Op.eqFields, hn1, ne_eq, not_false_eq_true, if_true, Sem.run_bind, p1, p2, q, Result.andThen_ok]
                      cases b1
                      · simp [g3]
                      · simp only [Bool.not_true, Bool.false_eq_true, if_false]
                        rw [g3, Bool.true_and]
                        exact ihf (off + s) r b2 hr (by rw [← hls, ← List.drop_drop, ← List.drop_drop]; exact g2)
                    · cases hg
                  · cases hg
                · cases hg
          exact key fs.toList 0 ls b h (by simpa using hb)
      case array n e =>
        simp only [hu] at h
        split at h
        · rename_i l s hl hs
          split at h
          · rename_i hls
            injection h with h
            subst h
            have hval : ∀ l, valOf P t l = .agg l.toArray := fun l => by simp [valOf, aggOf, hu]
            have hi : ∃ i, P.info? e = some i := by
              unfold szOf at hs
              cases hi : P.info? e with
              | none => simp [hi] at hs
              | some i => exact ⟨i, rfl⟩
            obtain ⟨i, hi⟩ := hi
            have hc : P.cellsOf e = s := by
              unfold szOf at hs
              simp only [hi, Option.map_some, Option.some.injEq] at hs
              simp [Program.cellsOf, hi, hs]
            rw [hval, hval, run_equalIn_array w D _ _ hu hi, hc]
            have key : ∀ (m j : Nat) (b : Bool), aggEq (List.replicate m l).flatten (xs.drop (j * s)) (ys.drop (j * s)) = some b →
                (Op.eqItems D e s xs.toArray ys.toArray (List.range' j m)).run P w = .ok b w := by
              intro m
              induction m with
              | zero =>
                intro j b hb
                simp only [List.replicate_zero, List.flatten_nil] at hb
                have := aggEq_length hb
                have e1 : xs.drop (j * s) = [] := List.eq_nil_of_length_eq_zero this.1
                have e2 : ys.drop (j * s) = [] := List.eq_nil_of_length_eq_zero this.2
                rw [e1, e2] at hb
                simp [aggEq] at hb
                subst hb
                simp [Op.eqItems]
              | succ m ihm =>
                intro j b hb
                simp only [List.replicate_succ, List.flatten_cons] at hb
                obtain ⟨b1, b2, g1, g2, g3⟩ := aggEq_append hb
                have hlen := aggEq_length hb
                simp only [List.length_append, List.length_drop] at hlen
                have hsh := leaves_shape hl
                have p1 := run_part_val (w := w) (cs := xs) (off := j * s) hs hsh.1 (fun h => by have := hsh.2 h; omega)
                have p2 := run_part_val (w := w) (cs := ys) (off := j * s) hs hsh.1 (fun h => by have := hsh.2 h; omega)
                have q := ih e l hl _ _ b1 g1 D w (by omega)
                rw [hls] at q
                simp only [List.range'_succ, Op.eqItems, Sem.run_bind, p1, p2, q, Result.andThen_ok]
                cases b1
                · simp [g3]
                · simp only [Bool.not_true, Bool.false_eq_true, if_false]
                  rw [g3, Bool.true_and]
                  refine ihm (j + 1) b2 ?_
                  rw [show (j + 1) * s = j * s + l.length from by rw [Nat.add_mul, Nat.one_mul, hls], ← List.drop_drop, ← List.drop_drop]
                  exact g2
            have := key n 0 b (by simpa using hb)
            rw [List.range_eq_range']
            exact this
          · cases h
        · cases h
      all_goals simp [hu] at h
end
section
variable {P : Program} {φ : Emb} {w : World} {ρ : Operand → Option Value} {ρ' : Operand → Value}
theorem info_of_sz {t : TypeId} {s : Nat} (h : szOf P t = some s) : ∃ i, P.info? t = some i ∧ i.size = s := by
 unfold szOf at h
 cases hi : P.info? t with
 |none => simp [hi] at h
 |some i => exact ⟨i, rfl, by simpa [hi] using h⟩
theorem run_sizeOf' {t : TypeId} {s : Nat} (h : szOf P t = some s) : (sizeOf t).run P w = .ok s w := by
 obtain ⟨i, hi, hs⟩ := info_of_sz h
 simp [sizeOf, typeInfo, hi, hs]
theorem add_none (a : Addr) (n : Nat) (h : a.spot = none) : a.add n = ⟨a.block, a.off + n, none⟩ := by
 unfold Addr.add
 split
 ·rename_i h0; subst h0; obtain ⟨b, o, s⟩ := a; simp at h; subst h; rfl
 ·rfl
theorem fieldAt_sound {t : TypeId} {fs : Array Field} {f : Nat} {fd : Field} {k : Nat} (hu : P.underlying t = some (.struct fs)) (hf : fs[f]? = some fd) (hs : szOf P fd.type = some (k + 1))
  (r o : Nat) : (Instr.fieldAt t (.pointer (some ⟨r, o, none⟩)) f).run P w = .ok (.pointer (some ⟨r, o + fd.offset, none⟩)) w := by
 simp [Instr.fieldAt, run_underlying hu, hf, Instr.sureAddr, fieldPlace, run_sizeOf' hs, add_none]
theorem run_bnd {v v' : Value} {d y y' : Nat} {r : Nat} (code : BoundsCode) (h : bnd (some v) d y = some r) (hv : VR φ v v') (hy : y ≤ y') :
  r ≤ y ∧ (Instr.sliceBound v' y' code).run P w = .ok r w := by
 simp only [bnd] at h
 cases v <;> simp [asI] at h
 obtain ⟨⟨h0, h1⟩, rfl⟩ := h
 rw [hv.int_inv]
 refine ⟨by omega, ?_⟩
 have h2 : (by assumption : Int) ≤ (y' : Int) := by omega
 simp only [Instr.sliceBound, asIntOf, Sem.run_bind, Sem.run_pure, Result.andThen_ok]
 rw [if_pos ⟨h0, by omega⟩]
 rfl
def OV (φ : Emb) (x x' : Option Value) : Prop := (∀ v, x = some v → ∃ v', x' = some v' ∧ VR φ v v') ∧ (x = none → x' = none)
theorem opt_OV (hρ : ∀ x v, opdOk P x = true → ρ x = some v → VR φ v (ρ' x)) {x : Option Operand} {r : Option Value} (hx : ∀ y, x = some y → opdOk P y = true) (h : opt ρ x = some r) : OV φ r (x.map ρ') := by
 cases x with
 |none => simp only [opt, Option.some.injEq] at h; subst h; exact ⟨fun v hv => by (cases hv), fun _ => rfl⟩
 |some y =>
  simp only [opt, Option.map_eq_some_iff] at h
  obtain ⟨v, hv, rfl⟩ := h
  exact ⟨fun u hu => by injection hu with hu; subst hu; exact ⟨_, rfl, hρ y v (hx y rfl) hv⟩, fun h => by (cases h)⟩
theorem capLow_sub {c l : Nat} (h : l ≤ capLow c) : capLow (c - l) = capLow c - l ∧ csz (c - l) = csz c := by
 have hb := big_pos
 unfold capLow csz at *
 have h1 := Nat.div_add_mod c big
 have h2 := Nat.mod_lt c hb
 have e : c - l = (c % big - l) + big * (c / big) := by omega
 constructor
 ·rw [e, Nat.add_mul_mod_self_left, Nat.mod_eq_of_lt (by omega)]
 ·rw [e, Nat.add_mul_div_left _ _ hb, Nat.div_eq_of_lt (by omega), Nat.zero_add]
theorem capLow_exact {c : Nat} (h : csz c = 0) : capLow c = c := Nat.mod_eq_of_lt (csz_zero h)
theorem run_bnds {len cap c' : Nat} {lo hi mx lo' hi' mx' : Option Value} {l h m : Nat} (b : Bool) (hb : bnds len cap lo hi mx = some (l, h, m)) (h1 : OV φ lo lo') (h2 : OV φ hi hi') (h3 : OV φ mx mx')
  (hex : csz cap = 0 → c' = cap) (hlow : capLow cap ≤ c') (hlen : len ≤ capLow cap) (hbig : csz cap = 0 → cap < big) :
  ∃ m', (Instr.sliceBounds b len c' lo' hi' mx').run P w = .ok (l, h, m') w ∧ l ≤ h ∧ h ≤ capLow m ∧ capLow m ≤ m' ∧ (csz m = 0 → m' = m) ∧ (csz m ≠ 0 → m = cap ∧ m' = c') ∧ m' ≤ c' := by
 have key : ∀ (m m' : Nat) (code : BoundsCode) (code2 : BoundsCode), (match (generalizing := false) bnd hi len (capLow m) with | none => none | some h => match bnd lo 0 h with | none => none | some l => some (l, h, m)) = some (l, h, m) → capLow m ≤ m' → (hi = none → len ≤ capLow m) →
   (((match (generalizing := false) hi' with | some v => Instr.sliceBound v m' code | none => pure len) >>= fun h => (match (generalizing := false) lo' with | some v => Instr.sliceBound v h code2 | none => pure 0) >>= fun l => pure (l, h, m')) : Sem (Nat × Nat × Nat)).run P w = .ok (l, h, m') w ∧ l ≤ h ∧ h ≤ capLow m := by
  intro m m' code code2 he hm hl
  have low : ∀ hh, (match (generalizing := false) bnd lo 0 hh with | none => none | some l => some (l, hh, m)) = some (l, h, m) →
    hh = h ∧ ((match (generalizing := false) lo' with | some v => Instr.sliceBound v hh code2 | none => pure 0) : Sem Nat).run P w = .ok l w ∧ l ≤ h := by
   intro hh he
   cases lo with
   |none =>
    simp only [bnd, Option.some.injEq, Prod.mk.injEq, and_true] at he
    obtain ⟨rfl, rfl⟩ := he
    rw [h1.2 rfl]
    exact ⟨rfl, rfl, Nat.zero_le _⟩
   |some v =>
    obtain ⟨v', hv', hv⟩ := h1.1 v rfl
    cases hq : bnd (some v) 0 hh with
    |none => simp [hq] at he
    |some l1 =>
     simp only [hq, Option.some.injEq, Prod.mk.injEq, and_true] at he
     obtain ⟨rfl, rfl⟩ := he
     obtain ⟨g1, g2⟩ := run_bnd (P := P) (w := w) code2 hq hv (Nat.le_refl _)
     rw [hv']
     exact ⟨rfl, g2, g1⟩
  cases hi with
  |none =>
   simp only [bnd] at he
   obtain ⟨rfl, e2, e3⟩ := low len he
   rw [h2.2 rfl]
   exact ⟨by simp [e2], e3, hl rfl⟩
  |some v =>
   obtain ⟨v', hv', hv⟩ := h2.1 v rfl
   cases hq : bnd (some v) len (capLow m) with
   |none => simp [hq] at he
   |some h0 =>
    simp only [hq] at he
    obtain ⟨rfl, e2, e3⟩ := low h0 he
    obtain ⟨g1, g2⟩ := run_bnd (P := P) (w := w) code hq hv hm
    rw [hv']
    exact ⟨by simp [e2, g2], e3, g1⟩
 unfold bnds at hb
 unfold Instr.sliceBounds
 cases mx with
 |none =>
  rw [h3.2 rfl]
  simp only [bnd] at hb
  have hm : m = cap := by
   split at hb
   ·cases hb
   ·split at hb
    ·cases hb
    ·injection hb with hb
     injection hb with _ hb
     injection hb with _ hb
     exact hb.symm
  subst hm
  obtain ⟨k1, k2, k3⟩ := key m c' (if b then .sliceAcap else .sliceAlen) .sliceB hb hlow (fun _ => hlen)
  refine ⟨c', ?_, k2, k3, hlow, hex, fun _ => ⟨rfl, rfl⟩, Nat.le_refl _⟩
  cases hi' <;> cases lo' <;> simpa using k1
 |some vm =>
  obtain ⟨vm', hvm', hvm⟩ := h3.1 vm rfl
  rw [hvm']
  cases hi with
  |none => simp at hb
  |some vh =>
   obtain ⟨vh', hvh', hvh⟩ := h2.1 vh rfl
   simp only at hb
   cases hq : bnd (some vm) cap (capLow cap) with
   |none => simp [hq] at hb
   |some m0 =>
    simp only [hq] at hb
    obtain ⟨g1, g2⟩ := run_bnd (P := P) (w := w) (y' := c') (if b then .slice3Acap else .slice3Alen) hq hvm hlow
    have hm : m = m0 := by
     split at hb
     ·cases hb
     ·split at hb
      ·cases hb
      ·injection hb with hb
       injection hb with _ hb
       injection hb with _ hb
       exact hb.symm
    subst hm
    have hmb : m < big := Nat.lt_of_le_of_lt g1 (Nat.mod_lt _ big_pos)
    obtain ⟨k1, k2, k3⟩ := key m m .slice3B .slice3C hb (Nat.le_of_eq (capLow_small hmb)) (fun h => by cases h)
    refine ⟨m, ?_, k2, k3, Nat.le_of_eq (capLow_small hmb), fun _ => rfl, fun h => absurd (csz_small hmb) h, Nat.le_trans g1 hlow⟩
    rw [hvh'] at k1 ⊢
    cases lo' <;> simpa [g2] using k1
theorem SlR.sub {a a' : Addr} {n c c' l h m m' size : Nat} (hs : SlR φ a a' n c c') (hz : csz c = 0 ∨ csz c = size) (h1 : l ≤ h) (h2 : h ≤ capLow m) (h3 : capLow m ≤ m')
  (h4 : csz m = 0 → m' = m) (h5 : csz m ≠ 0 → m = c ∧ m' = c') (h6 : m' ≤ c') :
  SlR φ ⟨a.block, a.off + l * size, none⟩ (if m' = l then a' else a'.add (l * size)) (h - l) (m - l) (m' - l) := by
 obtain ⟨e1, e2⟩ := capLow_sub (c := m) (l := l) (by omega)
 refine ⟨by rw [e1]; omega, fun hn => ?_, fun hn => ?_, by rw [e1]; omega, fun hn => ?_⟩
 ·rw [e2] at hn
  obtain ⟨rfl, rfl⟩ := h5 hn
  exact hs.born hn
 ·rw [e2] at hn
  rw [h4 hn]
 ·rw [if_neg (by omega)]
  obtain ⟨g1, x, g2, g3, g4⟩ := hs.at_ (by omega)
  refine ⟨rfl, x, g2, ?_, fun hn2 => ?_⟩
  ·rw [g3, add_none _ _ rfl]
   simp [Nat.add_assoc]
  ·rw [e2] at hn2 ⊢
   obtain ⟨rfl, rfl⟩ := h5 hn2
   have hsz : csz m = size := by rcases hz with h | h; exact absurd h hn2; exact h
   have := g4 hn2
   rw [hsz] at this ⊢
   show x.o + (a.off + l * size) + (m' - l) * size ≤ x.e
   have : l * size + (m' - l) * size = m' * size := by rw [← Nat.add_mul]; congr 1; omega
   omega
theorem sliceV_sound {size : Nat} {t e : TypeId} {x v x' : Value} {lo hi mx lo' hi' mx' : Option Value} (hu : P.underlying t = some (.slice e)) (hz : szOf P e = some size)
  (h : sliceV size x lo hi mx = some v) (hx : VR φ x x') (h1 : OV φ lo lo') (h2 : OV φ hi hi') (h3 : OV φ mx mx') :
  ∃ v', (Instr.sliceAt t x' lo' hi' mx').run P w = .ok v' w ∧ VR φ v v' := by
 unfold sliceV at h
 cases x <;> simp only at h <;> try (cases h; done)
 rename_i a len cap
 split at h
 ·rename_i hc
  cases hb : bnds len cap lo hi mx with
  |none => simp [hb] at h
  |some q =>
   obtain ⟨l, hh, m⟩ := q
   simp only [hb, Option.some.injEq] at h
   subst h
   cases a with
   |none =>
    cases hx
    obtain ⟨m', g1, g2, g3, g4, g5, g6, g7⟩ := run_bnds (P := P) (w := w) (c' := 0) true hb h1 h2 h3 (fun _ => rfl) (by simp [capLow]) (by simp) (fun _ => big_pos)
    have hm0 : m = 0 := by
     rcases Nat.eq_zero_or_pos (csz m) with hq | hq
     ·have := g5 hq; omega
     ·exact (g6 (by omega)).1
    have hl : l = 0 := by omega
    have hh0 : hh = 0 := by omega
    subst hm0; subst hl; subst hh0
    refine ⟨.slice none 0 0, ?_, .nilSlice⟩
    have hm' : m' = 0 := by omega
    subst hm'
    simp [Instr.sliceAt, run_underlying hu, Instr.slice, g1, run_sizeOf' hz]
   |some a =>
    obtain ⟨a', c', rfl, hs⟩ := hx.slice_inv
    obtain ⟨m', g1, g2, g3, g4, g5, g6, g7⟩ := run_bnds (P := P) (w := w) (c' := c') true hb h1 h2 h3 hs.exact hs.low hs.len csz_zero
    refine ⟨.slice (some (if m' = l then a' else a'.add (l * size))) (hh - l) (m' - l), ?_, .slice _ _ _ _ _ (hs.sub hc g2 g3 g4 g5 g6 g7)⟩
    simp only [Instr.sliceAt, Instr.slice, Sem.run_bind, run_underlying hu, Result.andThen_ok, g1, run_sizeOf' hz, Sem.run_pure]
    split <;> simp_all
 ·cases h
theorem SlR.ofPtr {a : Addr} {x : Loc} {n : Nat} (hx : φ a.block = some x) (ha : a.spot = none) (hn : n < big) : SlR φ a ⟨x.r, x.o + a.off, none⟩ n n n :=
 ⟨Nat.le_of_eq (capLow_small hn).symm, fun h => absurd (csz_small hn) h, fun _ => rfl, Nat.le_of_eq (capLow_small hn), fun _ => ⟨ha, x, hx, rfl, fun h => absurd (csz_small hn) h⟩⟩
theorem sliceArr_sound {n size : Nat} {t e : TypeId} {x v x' : Value} {lo hi mx lo' hi' mx' : Option Value} (hz : szOf P e = some size) (hn : n < big)
  (hu : P.underlying t = some (.array n e) ∨ ∃ a, P.underlying t = some (.pointer a) ∧ P.underlying a = some (.array n e))
  (h : sliceArr n size x lo hi mx = some v) (hx : VR φ x x') (h1 : OV φ lo lo') (h2 : OV φ hi hi') (h3 : OV φ mx mx') :
  ∃ v', (Instr.sliceAt t x' lo' hi' mx').run P w = .ok v' w ∧ VR φ v v' := by
 unfold sliceArr at h
 split at h
 ·rename_i a
  cases hb : bnds n n lo hi mx with
  |none => simp [hb] at h
  |some q =>
   obtain ⟨l, hh, m⟩ := q
   simp only [hb, Option.some.injEq] at h
   subst h
   obtain ⟨xl, hx1, hx2, rfl⟩ := hx.ptr_inv
   have hsp : a.spot = none := by rw [hx2]
   have hs := SlR.ofPtr (φ := φ) hx1 hsp hn
   obtain ⟨m', g1, g2, g3, g4, g5, g6, g7⟩ := run_bnds (P := P) (w := w) (c' := n) false hb h1 h2 h3 hs.exact hs.low hs.len csz_zero
   refine ⟨.slice (some (if m' = l then ⟨xl.r, xl.o + a.off, none⟩ else (⟨xl.r, xl.o + a.off, none⟩ : Addr).add (l * size))) (hh - l) (m' - l), ?_, .slice _ _ _ _ _ (hs.sub (.inl (csz_small hn)) g2 g3 g4 g5 g6 g7)⟩
   rcases hu with hu | ⟨b, hu, hub⟩
   ·simp only [Instr.sliceAt, Instr.sureAddr, Sem.run_bind, run_underlying hu, Result.andThen_ok, Sem.run_pure, g1, run_sizeOf' hz]
   ·simp only [Instr.sliceAt, Instr.slice, asAddr, Sem.run_bind, run_underlying hu, run_underlying hub, Result.andThen_ok, Sem.run_pure, g1, run_sizeOf' hz]
 ·cases h
theorem sliceStr_sound {t : TypeId} {x v x' : Value} {lo hi lo' hi' : Option Value} (hu : P.underlying t = some .string)
  (h : sliceStr x lo hi = some v) (hx : VR φ x x') (h1 : OV φ lo lo') (h2 : OV φ hi hi') :
  ∃ v', (Instr.sliceAt t x' lo' hi' none).run P w = .ok v' w ∧ VR φ v v' := by
 unfold sliceStr at h
 split at h
 ·rename_i s
  rw [hx.string_inv]
  cases hq : bnd hi s.size s.size with
  |none => simp [hq] at h
  |some hh =>
   simp only [hq] at h
   cases hq2 : bnd lo 0 hh with
   |none => simp [hq2] at h
   |some l =>
    simp only [hq2, Option.some.injEq] at h
    subst h
    refine ⟨_, ?_, .string _⟩
    have gh : ((match (generalizing := false) hi', (none : Option Value) with
     |some v, some _ => Instr.sliceBound v s.size .slice3B
     |some v, none => Instr.sliceBound v s.size (if false then .sliceAcap else .sliceAlen)
     |none, none => pure s.size
     |none, some _ => stuck "Slice: max without high") : Sem Nat).run P w = .ok hh w := by
     cases hi with
     |none => rw [h2.2 rfl]; simp only [bnd, Option.some.injEq] at hq; subst hq; rfl
     |some v =>
      obtain ⟨v', hv', hv⟩ := h2.1 v rfl
      rw [hv']
      exact (run_bnd (P := P) (w := w) _ hq hv (Nat.le_refl _)).2
    have gl : ((match (generalizing := false) lo' with | some v => Instr.sliceBound v hh (if (none : Option Value).isSome then .slice3C else .sliceB) | none => pure 0) : Sem Nat).run P w = .ok l w := by
     cases lo with
     |none => rw [h1.2 rfl]; simp only [bnd, Option.some.injEq] at hq2; subst hq2; rfl
     |some v =>
      obtain ⟨v', hv', hv⟩ := h1.1 v rfl
      rw [hv']
      exact (run_bnd (P := P) (w := w) _ hq2 hv (Nat.le_refl _)).2
    have gb : (Instr.sliceBounds false s.size s.size lo' hi' none).run P w = .ok (l, hh, s.size) w := by
     unfold Instr.sliceBounds
     cases hi' <;> cases lo' <;> simp_all
    simp [Instr.sliceAt, Instr.slice, run_underlying hu, gb]
 ·cases h
theorem isNil_VR {k : Nat} {x x' : Value} (hx : VR φ x x') : isNil k x' = isNil k x := by
 rcases k with _ | _ | _ | _ | k <;> cases hx <;> rfl
theorem run_eqlneq {neg : Bool} {t : TypeId} {a b : Value} {r : Bool} (hna : ∀ k n, a ≠ .int k n) (hnf : ∀ s, a ≠ .string s) (hnfl : ∀ k n, a ≠ .float k n) (hnc : ∀ k n m, a ≠ .complex k n m)
  (h : (Op.equal t a b).run P w = .ok r w) : (binOp (if neg then .neq else .eql) t a b).run P w = .ok (neg1 neg r) w := by
 cases neg
 ·have : binOp .eql t a b = (do pure (.bool (← Op.equal t a b))) := by
   cases a <;> first | rfl | exact absurd rfl (hna _ _) | exact absurd rfl (hnf _) | exact absurd rfl (hnfl _ _) | exact absurd rfl (hnc _ _ _)
  simp [this, h, neg1]
 ·have : binOp .neq t a b = (do pure (.bool (!(← Op.equal t a b)))) := by
   cases a <;> first | rfl | exact absurd rfl (hna _ _) | exact absurd rfl (hnf _) | exact absurd rfl (hnfl _ _) | exact absurd rfl (hnc _ _ _)
  simp [this, h, neg1]
end
section
variable {P : Program} {φ : Emb} {w : World} {ρ : Operand → Option Value} {ρ' : Operand → Value}
def Gives (P : Program) (φ : Emb) (w : World) (s : Sem Next) (v : Value) : Prop := ∃ v', s.run P w = .ok (.value v') w ∧ VR φ v v'
theorem gives_of {s : Sem Value} {v : Value} (h : ∃ v', s.run P w = .ok v' w ∧ VR φ v v') : Gives P φ w (do pure (.value (← s))) v := by
 obtain ⟨v', h1, h2⟩ := h
 exact ⟨v', by simp [h1], h2⟩
theorem sets_length : ∀ (l cs : List Value) (off : Nat), (sets cs off l).length = cs.length
 |[], _, _ => rfl
 |v :: l, cs, off => by simp [sets, sets_length l]
theorem VRs.set {cs : List Value} {cs' : Array Value} (h : VRs φ cs.toArray cs') {v v' : Value} (hv : VR φ v v') (i : Nat) : VRs φ (cs.set i v).toArray (cs'.setIfInBounds i v') := by
 refine VRs.of_get (by simpa using h.1) (fun j u hu => ?_)
 simp only [List.getElem?_toArray, List.getElem?_set] at hu
 rw [Array.getElem?_setIfInBounds]
 have hsz : cs.length = cs'.size := by simpa using h.1
 by_cases hij : i = j
 ·subst hij
  simp only [if_true] at hu ⊢
  split at hu
  ·rename_i hlt
   injection hu with hu; subst hu
   exact ⟨v', by simp [hsz ▸ hlt], hv⟩
  ·cases hu
 ·rw [if_neg hij] at hu ⊢
  exact h.get (by simpa using hu)
theorem sets_VRs : ∀ (l l' : List Value) (off : Nat) (cs : List Value) (cs' : Array Value), (∀ (i : Nat) (v : Value), l[i]? = some v → ∃ v', l'[i]? = some v' ∧ VR φ v v') → l.length = l'.length → VRs φ cs.toArray cs' →
  ∀ k, VRs φ (sets cs (off + k) l).toArray ((l'.zipIdx k).foldl (fun cs (p : Value × Nat) => cs.setIfInBounds (off + p.2) p.1) cs')
 |[], [], off, cs, cs', _, _, hc, k => by simpa [sets] using hc
 |[], _ :: _, _, _, _, _, hl, _, _ => by simp at hl
 |_ :: _, [], _, _, _, _, hl, _, _ => by simp at hl
 |v :: l, v' :: l', off, cs, cs', h, hl, hc, k => by
  obtain ⟨u, h1, h2⟩ := h 0 v rfl
  injection h1 with h1
  subst h1
  simp only [sets, List.zipIdx_cons, List.foldl_cons]
  have := sets_VRs l l' off (cs.set (off + k) v) (cs'.setIfInBounds (off + k) v') (fun i u hu => h (i + 1) u (by simpa using hu)) (by simpa using hl) (hc.set h2 _) (k + 1)
  rw [Nat.add_assoc]
  exact this
theorem fillL_sound : ∀ {l : List (Nat × Nat × Operand)} {ps : List (Nat × Operand)} {f : Nat → Option (Nat × Nat)} {cells r : List Value} {cells' : Array Value},
    partsOf f ps = some l → (∀ p ∈ ps, ∀ v, ρ p.2 = some v → VR φ v (ρ' p.2)) → VRs φ cells.toArray cells' →
    fillL cells (l.map fun p => (p.1, p.2.1, ρ p.2.2)) = some r → ∃ r', Instr.fill f cells' (ps.map fun p => (p.1, ρ' p.2)) = some r' ∧ VRs φ r.toArray r'
  | [], [], f, cells, r, cells', _, _, hc, hr => by
    simp only [List.map_nil, fillL, Option.some.injEq] at hr
    subst hr
    exact ⟨cells', by simp [Instr.fill], hc⟩
  | [], (i, x) :: ps, f, cells, r, cells', h, _, _, _ => by
    unfold partsOf at h
    split at h <;> simp at h
  | q :: l, [], f, cells, r, cells', h, _, _, _ => by simp [partsOf] at h
  | q :: l, (i, x) :: ps, f, cells, r, cells', h, hp, hc, hr => by
    unfold partsOf at h
    split at h
    · rename_i off size l' hf hl
      injection h with h
      injection h with h1 h2
      subst h1; subst h2
      simp only [List.map_cons] at hr
      unfold fillL at hr
      split at hr
      · cases hr
      · rename_i v hv
        split at hr
        · rename_i hsz
          have hvr := hp (i, x) (by simp) v hv
          have hcv := hvr.cells
          have hs1 : (ρ' x).cells.size = size := by rw [← hcv.1]; exact hsz.1
          have hs2 : cells'.size = cells.length := by rw [← hc.1]; simp
          have := sets_VRs (φ := φ) v.cells.toList (ρ' x).cells.toList off cells cells' (fun i u hu => by
            obtain ⟨u', h1, h2⟩ := hcv.get (i := i) (v := u) (by simpa using hu)
            exact ⟨u', by simpa using h1, h2⟩) (by simpa using hcv.1) hc 0
          rw [Nat.add_zero] at this
          obtain ⟨r', g1, g2⟩ := fillL_sound hl (fun p hp' => hp p (by simp [hp'])) this hr
          refine ⟨r', ?_, g2⟩
          simp only [List.map_cons]
          unfold Instr.fill
          simp only [hf]
          rw [if_neg (by simp [hs1]; omega), ← g1, ← Array.foldl_toList]
          simp
        · simp at hr
    · simp at h
theorem evs_VR : ∀ {xs : List Operand} {vs : List Value}, (∀ x ∈ xs, ∀ v, ρ x = some v → VR φ v (ρ' x)) → evs ρ xs = some vs → VRs φ vs.toArray (xs.map ρ').toArray
 |[], vs, _, h => by simp only [evs, Option.some.injEq] at h; subst h; exact ⟨rfl, fun i h => by simp at h⟩
 |x :: xs, vs, hx, h => by
  unfold evs at h
  split at h
  ·rename_i v vs' hv hvs
   injection h with h; subst h
   have ih := evs_VR (fun y hy => hx y (by simp [hy])) hvs
   have h0 := hx x (by simp) v hv
   refine VRs.of_get (by simpa using ih.1) (fun i u hu => ?_)
   cases i with
   |zero => simp at hu; subst hu; exact ⟨ρ' x, by simp, h0⟩
   |succ i => exact (by simpa using ih.get (i := i) (v := u) (by simpa using hu))
  ·cases h
theorem evs_length : ∀ {xs : List Operand} {vs : List Value}, evs ρ xs = some vs → vs.length = xs.length
 |[], vs, h => by simp only [evs, Option.some.injEq] at h; subst h; rfl
 |x :: xs, vs, h => by
  unfold evs at h
  split at h
  ·rename_i hvs
   injection h with h; subst h
   simp [evs_length hvs]
  ·cases h
theorem minV_sound {b : Bool} : ∀ {xs : List Value} {v r : Value} {xs' : List Value} {v' : Value}, minV b v xs = some r → VR φ v v' → (∀ (i : Nat) (u : Value), xs[i]? = some u → ∃ u', xs'[i]? = some u' ∧ VR φ u u') → xs.length = xs'.length →
  ∃ r', (xs'.foldlM (if b then Builtin.max2 else Builtin.min2) v').run P w = .ok r' w ∧ VR φ r r'
 |[], v, r, [], v', h, hv, _, _ => by
  simp only [minV, Option.some.injEq] at h; subst h
  exact ⟨v', by simp, hv⟩
 |[], _, _, _ :: _, _, _, _, _, hl => by simp at hl
 |_ :: _, _, _, [], _, _, _, _, hl => by simp at hl
 |x :: xs, v, r, x' :: xs', v', h, hv, hx, hl => by
  unfold minV at h
  split at h
  ·rename_i h0; cases h0
  ·rename_i k a k' c r0 h0
   injection h0 with h1 h2
   subst h1; subst h2
   split at h
   ·rename_i hk
    subst hk
    obtain ⟨u', g1, g2⟩ := hx 0 _ rfl
    injection g1 with g1
    subst g1
    rw [hv.int_inv, g2.int_inv]
    obtain ⟨r', e1, e2⟩ := minV_sound (xs' := xs') h (VR.int (φ := φ) k _) (fun i u hu => hx (i + 1) u hu) (by simpa using hl)
    refine ⟨r', ?_, e2⟩
    rw [List.foldlM_cons, Sem.run_bind]
    cases b
    ·simpa [Builtin.min2] using e1
    ·simpa [Builtin.max2] using e1
   ·cases h
  ·cases h
end
section
variable {P : Program} {φ : Emb} {w : World} {ρ : Operand → Option Value} {ρ' : Operand → Value}
theorem aggEq_same : ∀ {ls : List Leaf} {xs ys : List Value} {b : Bool} {xs' : Array Value}, aggEq ls xs ys = some b → VRs φ xs.toArray xs' → xs' = xs.toArray := by
 intro ls xs ys b xs' h hx
 have key : ∀ (ls : List Leaf) (xs ys : List Value) (b : Bool), aggEq ls xs ys = some b → ∀ v ∈ xs, ∀ v', VR φ v v' → v' = v := by
  intro ls
  induction ls with
  |nil => intro xs ys b h v hv; have := (aggEq_length h).1; have := List.eq_nil_of_length_eq_zero this; subst this; cases hv
  |cons l ls ih =>
   intro xs ys b h v hv v' hvr
   cases xs with
   |nil => cases hv
   |cons x xs =>
    cases ys with
    |nil => simp [aggEq] at h
    |cons y ys =>
     unfold aggEq at h
     split at h
     ·rename_i hf
      split at h
      ·rename_i h2
       rcases List.mem_cons.1 hv with rfl | hv
       ·cases l <;> cases v <;> simp [Leaf.fits] at hf <;> cases hvr <;> rfl
       ·exact ih xs ys _ h2 v hv v' hvr
      ·cases h
     ·cases h
 refine Array.ext (by simpa using hx.1.symm) (fun i h1 h2 => ?_)
 exact key ls xs ys b h _ (by simp) _ (hx.2 i h2 h1)
theorem aggEq_same2 : ∀ {ls : List Leaf} {xs ys : List Value} {b : Bool} {ys' : Array Value}, aggEq ls xs ys = some b → VRs φ ys.toArray ys' → ys' = ys.toArray := by
 intro ls xs ys b ys' h hx
 have key : ∀ (ls : List Leaf) (xs ys : List Value) (b : Bool), aggEq ls xs ys = some b → ∀ v ∈ ys, ∀ v', VR φ v v' → v' = v := by
  intro ls
  induction ls with
  |nil => intro xs ys b h v hv; have := (aggEq_length h).2; have := List.eq_nil_of_length_eq_zero this; subst this; cases hv
  |cons l ls ih =>
   intro xs ys b h v hv v' hvr
   cases xs with
   |nil => simp [aggEq] at h
   |cons x xs =>
    cases ys with
    |nil => cases hv
    |cons y ys =>
     unfold aggEq at h
     split at h
     ·rename_i hf
      split at h
      ·rename_i h2
       rcases List.mem_cons.1 hv with rfl | hv
       ·cases l <;> cases v <;> simp [Leaf.fits] at hf <;> cases hvr <;> rfl
       ·exact ih xs ys _ h2 v hv v' hvr
      ·cases h
     ·cases h
 refine Array.ext (by simpa using hx.1.symm) (fun i h1 h2 => ?_)
 exact key ls xs ys b h _ (by simp) _ (hx.2 i h2 h1)
theorem nil_eq {k : Nat} {t : TypeId} {a b : Value} {ra rb : Bool} (hk : (k = 0 ∧ ∃ e, P.underlying t = some (.pointer e)) ∨ (k = 1 ∧ ∃ e, P.underlying t = some (.slice e)) ∨ (k = 2 ∧ ∃ e f, P.underlying t = some (.map e f)) ∨ (k = 3 ∧ ∃ e f g, P.underlying t = some (.func e f g)))
  (ha : isNil k a = some ra) (hb : isNil k b = some rb) (h1 : ra = true ∨ rb = true) : (Op.equal t a b).run P w = .ok (ra && rb) w := by
 suffices h : ∀ d, (Op.equalIn (d + 1) t a b).run P w = .ok (ra && rb) w from h 9999
 intro d
 rcases hk with ⟨rfl, e, hu⟩ | ⟨rfl, e, hu⟩ | ⟨rfl, e, f, hu⟩ | ⟨rfl, e, f, g, hu⟩
 ·cases a <;> simp [isNil] at ha
  cases b <;> simp [isNil] at hb
  subst ha; subst hb
  rename_i p q
  cases p <;> cases q <;> simp at h1 <;> simp [Op.equalIn, run_underlying hu]
 ·cases a <;> simp [isNil] at ha
  cases b <;> simp [isNil] at hb
  subst ha; subst hb
  rename_i p _ _ q _ _
  cases p <;> cases q <;> simp at h1 <;> simp [Op.equalIn, run_underlying hu]
 ·cases a <;> simp [isNil] at ha
  cases b <;> simp [isNil] at hb
  subst ha; subst hb
  rename_i p q
  cases p <;> cases q <;> simp at h1 <;> simp [Op.equalIn, run_underlying hu]
 ·cases a <;> simp [isNil] at ha <;> cases b <;> simp [isNil] at hb <;> subst ha <;> subst hb <;> simp at h1 <;> simp [Op.equalIn, run_underlying hu]
theorem eqGuard_nil {op : BinOp} {t : TypeId} {x y : Operand} {k : Nat} {a b : Value} {ra : Bool} (ha : isNil k a = some ra) : eqGuard op t x y a b = pure () := by
 rcases k with _ | _ | _ | _ | k <;> cases a <;> simp [isNil] at ha
 ·exact eqGuard_at_pointer ..
 ·exact eqGuard_at_slice ..
 ·exact eqGuard_at_map ..
 ·exact eqGuard_at_func ..
 ·exact eqGuard_at_nilFunc ..
theorem pure_sound {o : Oper} {v : Value} (hρ : OR P φ ρ ρ') (h : (trOp P o.op).den ρ = .pure (some v)) : Gives P φ w (execOp ρ' o) v := by
 obtain ⟨dst, op, type, pos, after, guard⟩ := o
 simp only at h
 unfold trOp at h
 split at h
 case isFalse => simp [A.den] at h
 rename_i hop
 have mem : ∀ x ∈ op.operands, ∀ v, ρ x = some v → VR φ v (ρ' x) := fun x hx v hv => hρ.1 x v ((Array.all_eq_true_iff_forall_mem.1 hop) x hx) hv
 cases op <;> simp only [trOp1] at h
 case move x =>
  simp only [A.den, Den.pure.injEq] at h
  exact ⟨ρ' x, rfl, mem x (by simp [Op.operands]) v h⟩
 case assign x =>
  simp only [A.den, Den.pure.injEq] at h
  exact ⟨ρ' x, rfl, mem x (by simp [Op.operands]) v h⟩
 case pick c a b =>
  simp only [A.den, Den.pure.injEq] at h
  split at h
  ·rename_i t hc
   have hc' := (mem c (by simp [Op.operands]) _ hc).bool_inv
   cases t
   ·exact ⟨ρ' b, by simp [execOp, hc', asBool], mem b (by simp [Op.operands]) v (by simpa using h)⟩
   ·exact ⟨ρ' a, by simp [execOp, hc', asBool], mem a (by simp [Op.operands]) v (by simpa using h)⟩
  ·cases h
 case alloc t =>
  split at h
  ·split at h <;> simp [A.den] at h
  ·simp [A.den] at h
 case box t x => simp [A.den] at h
 case build t ps =>
  have hps : ∀ p ∈ ps.toList, ∀ v, ρ p.2 = some v → VR φ v (ρ' p.2) := fun p hp v hv => mem p.2 (by simp [Op.operands]; exact ⟨p.1, by simpa using hp⟩) v hv
  have done : ∀ (z : Value) (l : List (Nat × Nat × Operand)) (f : Nat → Option (Nat × Nat)), constOk z = true → partsOf f ps.toList = some l → (A.build z.cells.toList l).den ρ = .pure (some v) →
    ∃ r' : Array Value, Instr.fill f z.cells ((ps.map fun p => (p.1, ρ' p.2)).toList) = some r' ∧ VR φ v (.agg r') := by
   intro z l f hz hl hd
   simp only [A.den, Den.pure.injEq, Option.map_eq_some_iff] at hd
   obtain ⟨r, hr, rfl⟩ := hd
   obtain ⟨r', g1, g2⟩ := fillL_sound hl hps (by simpa using (VR.constOk (φ := φ) hz).cells) hr
   exact ⟨r', by rw [← g1]; simp, VR.aggs g2⟩
  split at h
  ·rename_i fs z hu hz
   split at h
   ·rename_i hc
    split at h
    ·rename_i l hl
     obtain ⟨r', g1, g2⟩ := done z l _ hc.1 hl h
     refine gives_of ⟨.agg r', ?_, g2⟩
     have hz' : ∃ i, P.info? t = some i ∧ i.zero = some z := by
      unfold zeroOf at hz
      cases hi : P.info? t with
      |none => simp [hi] at hz
      |some i => exact ⟨i, rfl, by simpa [hi] using hz⟩
     obtain ⟨i, hi, hiz⟩ := hz'
     have hmap : ∀ (fl : List Field), (∀ f ∈ fl, ∃ s, szOf P f.type = some s) →
       ∃ pl : List (Nat × Nat), (fl.mapM (fun f => do pure (f.offset, ← sizeOf f.type) : Field → Sem (Nat × Nat))).run P w = .ok pl w ∧
        ∀ i : Nat, pl[i]? = (fl[i]?).bind fun f => (szOf P f.type).map (f.offset, ·) := by
      intro fl
      induction fl with
      |nil => intro _; exact ⟨[], by simp, fun i => by simp⟩
      |cons f fl ih =>
       intro hf
       obtain ⟨pl, p1, p2⟩ := ih (fun g hg => hf g (by simp [hg]))
       obtain ⟨s, hs⟩ := hf f (by simp)
       refine ⟨(f.offset, s) :: pl, ?_, fun i => ?_⟩
       ·have p1' : Sem.run P (List.mapM (fun f => (fun a => (f.offset, a)) <$> sizeOf f.type) fl) w = Result.ok pl w := by simpa using p1
        simp [List.mapM_cons, run_sizeOf' hs, p1']
       ·cases i with
        |zero => simp [hs]
        |succ i => simpa using p2 i
     obtain ⟨pl, p1, p2⟩ := hmap fs.toList (fun f hf => by
      have := (Array.all_eq_true_iff_forall_mem.1 hc.2) f (by simpa using hf)
      exact Option.isSome_iff_exists.1 this)
     have hplace : (fun i : Nat => pl[i]?) = fieldPlaces P fs := by
      funext i
      rw [p2 i]
      unfold fieldPlaces
      rw [Array.getElem?_toList]
      cases fs[i]? <;> rfl
     have p1' : Sem.run P (List.mapM (fun f => (fun a => (f.offset, a)) <$> sizeOf f.type) fs.toList) w = Result.ok pl w := by simpa using p1
     simp only [Instr.build, Sem.run_bind, zeroValue, typeInfo, run_program, Result.andThen_ok, hi, Sem.run_pure, hiz, run_underlying hu, Array.mapM_eq_mapM_toList, Sem.run_map, bind_pure_comp, p1']
     have g1' : Instr.fill (fun x => pl.toArray[x]?) z.cells (Array.map (fun x => (x.fst, ρ' x.snd)) ps).toList = some r' := by
      rw [← g1, ← hplace]
      simp
     simp only [g1']
     rfl
    ·simp [A.den] at h
   ·simp [A.den] at h
  ·rename_i n e z hu hz
   split at h
   ·rename_i hc
    split at h
    ·rename_i s hs
     split at h
     ·rename_i l hl
      obtain ⟨r', g1, g2⟩ := done z l _ hc hl h
      refine gives_of ⟨.agg r', ?_, g2⟩
      unfold zeroOf at hz
      cases hi : P.info? t with
      |none => simp [hi] at hz
      |some i =>
       simp only [hi, Option.bind_some] at hz
       simp [Instr.build, zeroValue, typeInfo, hi, hz, run_underlying hu, run_sizeOf' hs]
       rw [show (Array.map (fun x => (x.fst, ρ' x.snd)) ps).toList = List.map (fun x => (x.fst, ρ' x.snd)) ps.toList from by simp] at g1
       rw [g1]
       rfl
     ·simp [A.den] at h
    ·simp [A.den] at h
   ·simp [A.den] at h
  ·simp [A.den] at h
 case buildSlice t n ps =>
  repeat' split at h
  all_goals simp [A.den] at h
 case load t a =>
  split at h <;> simp [A.den] at h
 case store t a x =>
  split at h <;> simp [A.den] at h
 case nilCheck x =>
  simp only [A.den, Den.pure.injEq] at h
  split at h
  ·rename_i a hx
   injection h with h; subst h
   have hx' := mem x (by simp [Op.operands]) _ hx
   obtain ⟨xl, h1, h2, h3⟩ := hx'.ptr_inv
   exact ⟨_, by simp [execOp, h3], h3 ▸ hx'⟩
  ·rename_i fn a b hx
   have hx' := mem x (by simp [Op.operands]) _ hx
   generalize hq : ρ' x = q at hx'
   cases hx' with
   |func _ fn' _ xs' _ ys' hf h1 h2 h3 h4 =>
    cases hf <;> simp at h <;> subst h <;> exact ⟨_, by simp [execOp, hq]; rfl, .func _ _ _ _ _ _ (by first | exact .func _ | exact .methodOf _ _ | exact .via _ _ _ _ | exact .yield _ _ ‹_›) h1 h2 h3 h4⟩
  ·cases h
 case binOp op t x y u =>
  have hbin : (A.bin op x y).den ρ = .pure (some v) → Gives P φ w (execOp ρ' { dst := dst, op := .binOp op t x y u, type := type, pos := pos, after := after, guard := guard }) v := by
   intro hd
   simp only [A.den, Den.pure.injEq] at hd
   split at hd
   ·rename_i a b hx hy
    obtain ⟨g1, g2⟩ := bin_sound (P := P) (w := w) (t := t) (x := x) (y := y) hd (mem x (by simp [Op.operands]) _ hx) (mem y (by simp [Op.operands]) _ hy)
    exact gives_of (s := (eqGuard op t x y (ρ' x) (ρ' y) >>= fun _ => binOp op t (ρ' x) (ρ' y))) ⟨v, g1, g2⟩
   ·cases hd
  have heq : ∀ neg : Bool, (trEq P neg t x y).den ρ = .pure (some v) → (op = if neg then .neq else .eql) → Gives P φ w (execOp ρ' { dst := dst, op := .binOp op t x y u, type := type, pos := pos, after := after, guard := guard }) v := by
   intro neg hd hop
   have hnil : ∀ k : Nat, (A.eqNil k neg x y).den ρ = .pure (some v) → ((k = 0 ∧ ∃ e, P.underlying t = some (.pointer e)) ∨ (k = 1 ∧ ∃ e, P.underlying t = some (.slice e)) ∨ (k = 2 ∧ ∃ e f, P.underlying t = some (.map e f)) ∨ (k = 3 ∧ ∃ e f g, P.underlying t = some (.func e f g))) →
     Gives P φ w (execOp ρ' { dst := dst, op := .binOp op t x y u, type := type, pos := pos, after := after, guard := guard }) v := by
    intro k hd hk
    simp only [A.den, Den.pure.injEq] at hd
    split at hd
    ·rename_i a b hx hy
     have hx' := isNil_VR (k := k) (mem x (by simp [Op.operands]) _ hx)
     have hy' := isNil_VR (k := k) (mem y (by simp [Op.operands]) _ hy)
     have fin : ∀ ra rb : Bool, isNil k a = some ra → isNil k b = some rb → (ra = true ∨ rb = true) → v = neg1 neg (ra && rb) → Gives P φ w (execOp ρ' { dst := dst, op := .binOp op t x y u, type := type, pos := pos, after := after, guard := guard }) v := by
      intro ra rb ha hb h1 hv
      subst hv
      refine gives_of (s := (eqGuard op t x y (ρ' x) (ρ' y) >>= fun _ => binOp op t (ρ' x) (ρ' y))) ⟨_, ?_, .bool _⟩
      rw [eqGuard_nil (hx'.trans ha), hop, pure_bind]
      have hq := hx'.trans ha
      refine run_eqlneq ?_ ?_ ?_ ?_ (nil_eq hk hq (hy'.trans hb) h1)
      all_goals (intros; intro e; rw [e] at hq; rcases k with _ | _ | _ | _ | k <;> simp [isNil] at hq)
     split at hd
     ·rename_i ra ha hb
      injection hd with hd
      exact fin ra true ha hb (.inr rfl) (by rw [← hd]; simp)
     ·rename_i rb _ ha hb
      injection hd with hd
      exact fin true rb ha hb (.inl rfl) (by rw [← hd]; simp)
     ·cases hd
    ·cases hd
   have hagg : ((if P.eqGuardType P.depth t then .bad else match leaves P 9 t with | some ls => .eqAgg neg ls x y | none => .bad : A)).den ρ = .pure (some v) → aggOf P t = some true →
     Gives P φ w (execOp ρ' { dst := dst, op := .binOp op t x y u, type := type, pos := pos, after := after, guard := guard }) v := by
    intro hd hu
    split at hd
    ·simp [A.den] at hd
    ·rename_i hg
     split at hd
     ·rename_i ls hl
      simp only [A.den, Den.pure.injEq] at hd
      split at hd
      ·rename_i a b hx hy
       simp only [Option.map_eq_some_iff] at hd
       obtain ⟨r, hr, rfl⟩ := hd
       obtain ⟨a', h1, h2⟩ := (mem x (by simp [Op.operands]) _ hx).agg_inv
       obtain ⟨b', h3, h4⟩ := (mem y (by simp [Op.operands]) _ hy).agg_inv
       have e1 := aggEq_same hr (by simpa using h2)
       have e2 := aggEq_same2 hr (by simpa using h4)
       subst e1; subst e2
       refine gives_of (s := (eqGuard op t x y (ρ' x) (ρ' y) >>= fun _ => binOp op t (ρ' x) (ρ' y))) ⟨_, ?_, .bool _⟩
       rw [h1, h3, Sem.run_bind, run_eqGuard_agg w op t x y _ _ (by simpa using hg), Result.andThen_ok, hop]
       refine run_eqlneq (by simp) (by simp) (by simp) (by simp) ?_
       have := leaves_eq 9 t ls hl _ _ r hr 10000 w (by omega)
       simp only [valOf, hu, if_true] at this
       exact this
      ·cases hd
     ·simp [A.den] at hd
   unfold trEq at hd
   split at hd
   ·subst hop; exact hbin hd
   ·subst hop; exact hbin hd
   ·rename_i hu
    simp only [A.den, Den.pure.injEq] at hd
    split at hd
    ·rename_i b1 b2 hx hy
     have hx' := mem x (by simp [Op.operands]) _ hx
     have hy' := mem y (by simp [Op.operands]) _ hy
     injection hd with hd
     subst hd
     refine gives_of (s := (eqGuard op t x y (ρ' x) (ρ' y) >>= fun _ => binOp op t (ρ' x) (ρ' y))) ⟨neg1 neg (decide (b1 = b2)), ?_, .bool _⟩
     rw [hx'.bool_inv, hy'.bool_inv, eqGuard_at_bool, hop, pure_bind]
     refine run_eqlneq (by simp) (by simp) (by simp) (by simp) ?_
     rw [run_equal_bool w t b1 b2 hu]
     rfl
    ·cases hd
   ·rename_i hu
    exact hagg hd (by simp [aggOf, hu])
   ·rename_i hu
    exact hagg hd (by simp [aggOf, hu])
   ·rename_i hu
    exact hnil 0 hd (.inl ⟨rfl, _, hu⟩)
   ·rename_i hu
    exact hnil 1 hd (.inr (.inl ⟨rfl, _, hu⟩))
   ·rename_i hu
    exact hnil 2 hd (.inr (.inr (.inl ⟨rfl, _, _, hu⟩)))
   ·rename_i hu
    exact hnil 3 hd (.inr (.inr (.inr ⟨rfl, _, _, _, hu⟩)))
   ·simp [A.den] at hd
  cases op <;> first
   |exact heq false h rfl
   |exact heq true h rfl
   |exact hbin h
 case unOp op t x =>
  simp only [A.den, Den.pure.injEq] at h
  cases hx : ρ x with
  |none => simp [hx] at h
  |some xv =>
   simp only [hx, Option.bind_some] at h
   obtain ⟨g1, g2⟩ := unop_sound (P := P) (w := w) h (mem x (by simp [Op.operands]) _ hx)
   exact gives_of ⟨v, g1, g2⟩
 case convert s d x =>
  unfold trConv at h
  split at h
  ·rename_i k1 k2 hu1 hu2
   simp only [A.den, Den.pure.injEq] at h
   split at h
   ·rename_i k n hx
    injection h with h; subst h
    have hx' := (mem x (by simp [Op.operands]) _ hx).int_inv
    refine gives_of ⟨.int k2 (k2.wrap n), ?_, .int _ _⟩
    simp [convert, run_underlying hu1, run_underlying hu2, hx', Conv.intToInt]
   ·cases h
  ·rename_i hu1 hu2
   simp only [A.den, Den.pure.injEq] at h
   split at h
   ·rename_i st hx
    injection h with h; subst h
    have hx' := (mem x (by simp [Op.operands]) _ hx).string_inv
    refine gives_of ⟨.string st, ?_, .string _⟩
    simp [convert, run_underlying hu1, run_underlying hu2, hx']
   ·cases h
  ·split at h <;> simp [A.den] at h
  ·split at h <;> simp [A.den] at h
  ·repeat' split at h
   all_goals simp [A.den] at h
  ·simp [A.den] at h
 case sliceToArrayPointer t x =>
  split at h
  ·rename_i n e hu
   simp only [A.den, Den.pure.injEq] at h
   split at h
   ·rename_i a m c hx
    split at h
    ·rename_i hn
     injection h with h; subst h
     have hx' := mem x (by simp [Op.operands]) _ hx
     obtain ⟨a', c', g1, hs⟩ := hx'.slice_inv
     obtain ⟨e1, xl, e2, e3, _⟩ := hs.at_ (by have := hs.len; have := hs.low; omega)
     refine gives_of ⟨.pointer (some a'), ?_, by rw [e3]; exact .ptr _ _ _ e2⟩
     simp [g1, Instr.arrayAt, run_underlying hu]
     omega
    ·cases h
   ·cases h
  ·simp [A.den] at h
 case makeFunc fn a b =>
  split at h
  ·simp only [A.den, Den.pure.injEq] at h
   split at h
   ·rename_i f va vb ha hb
    injection h with h; subst h
    have ga := evs_VR (ρ' := ρ') (fun x hx v hv => mem x (by simp [Op.operands]; exact .inl (by simpa using hx)) v hv) ha
    have gb := evs_VR (ρ' := ρ') (fun x hx v hv => mem x (by simp [Op.operands]; exact .inr (by simpa using hx)) v hv) hb
    refine gives_of ⟨_, rfl, .func _ _ _ _ _ _ (.func _) ?_ ?_ ?_ ?_⟩
    ·simpa using ga.1
    ·simpa using gb.1
    ·intro i h1 h2; have := ga.2 i h1 (by simpa using h2); simpa [-List.map_toArray] using this
    ·intro i h1 h2; have := gb.2 i h1 (by simpa using h2); simpa [-List.map_toArray] using this
   ·cases h
  ·simp [A.den] at h
 case makeMap t r =>
  repeat' split at h
  all_goals simp [A.den] at h
 case makeSlice t n c =>
  repeat' split at h
  all_goals simp [A.den] at h
 case slice t x lo hi mx =>
  have ov : ∀ (q : Option Operand) (r : Option Value), (∀ y, q = some y → y ∈ (Op.slice t x lo hi mx).operands) → opt ρ q = some r → OV φ r (q.map ρ') := by
   intro q r hq hr
   exact opt_OV hρ.1 (fun y hy => (Array.all_eq_true_iff_forall_mem.1 hop) y (hq y hy)) hr
  split at h
  ·rename_i hu
   split at h
   ·simp [A.den] at h
   ·rename_i hmx
    simp only [A.den, Den.pure.injEq] at h
    split at h
    ·rename_i xv l0 h0 hx hl hh
     have hm : mx = none := by cases mx with | none => rfl | some m => simp at hmx
     subst hm
     exact gives_of (sliceStr_sound hu h (mem x (by simp [Op.operands]) _ hx) (ov lo l0 (fun y hy => by simp [Op.operands, hy]) hl) (ov hi h0 (fun y hy => by simp [Op.operands, hy]) hh))
    ·cases h
  ·rename_i e hu
   split at h
   ·rename_i s hs
    simp only [A.den, Den.pure.injEq] at h
    split at h
    ·rename_i xv l0 h0 m0 hx hl hh hm
     exact gives_of (sliceV_sound hu hs h (mem x (by simp [Op.operands]) _ hx) (ov lo l0 (fun y hy => by simp [Op.operands, hy]) hl) (ov hi h0 (fun y hy => by simp [Op.operands, hy]) hh) (ov mx m0 (fun y hy => by simp [Op.operands, hy]) hm))
    ·cases h
   ·simp [A.den] at h
  ·rename_i n e hu
   split at h
   ·rename_i s hs
    split at h
    ·rename_i hn
     simp only [A.den, Den.pure.injEq] at h
     split at h
     ·rename_i xv l0 h0 m0 hx hl hh hm
      exact gives_of (sliceArr_sound hs hn (.inl hu) h (mem x (by simp [Op.operands]) _ hx) (ov lo l0 (fun y hy => by simp [Op.operands, hy]) hl) (ov hi h0 (fun y hy => by simp [Op.operands, hy]) hh) (ov mx m0 (fun y hy => by simp [Op.operands, hy]) hm))
     ·cases h
    ·simp [A.den] at h
   ·simp [A.den] at h
  ·rename_i a hu
   split at h
   ·rename_i n e hua
    split at h
    ·rename_i s hs
     split at h
     ·rename_i hn
      simp only [A.den, Den.pure.injEq] at h
      split at h
      ·rename_i xv l0 h0 m0 hx hl hh hm
       exact gives_of (sliceArr_sound hs hn (.inr ⟨a, hu, hua⟩) h (mem x (by simp [Op.operands]) _ hx) (ov lo l0 (fun y hy => by simp [Op.operands, hy]) hl) (ov hi h0 (fun y hy => by simp [Op.operands, hy]) hh) (ov mx m0 (fun y hy => by simp [Op.operands, hy]) hm))
      ·cases h
     ·simp [A.den] at h
    ·simp [A.den] at h
   ·simp [A.den] at h
  ·simp [A.den] at h
 case fieldAddr t x f =>
  split at h
  ·rename_i fs hu
   split at h
   ·rename_i fd hf
    split at h
    ·rename_i k hs
     simp only [A.den, Den.pure.injEq] at h
     split at h
     ·rename_i a hx
      injection h with h; subst h
      obtain ⟨xl, h1, h2, h3⟩ := (mem x (by simp [Op.operands]) _ hx).ptr_inv
      refine gives_of ⟨_, by rw [h3]; exact fieldAt_sound hu hf hs _ _, ?_⟩
      rw [Nat.add_assoc]
      exact .ptr _ _ _ h1
     ·cases h
    ·simp [A.den] at h
   ·simp [A.den] at h
  ·simp [A.den] at h
 case field t x f =>
  split at h
  ·rename_i fs hu
   split at h
   ·rename_i fd hf
    split at h
    ·rename_i n hs
     simp only [A.den, Den.pure.injEq] at h
     split at h
     ·rename_i cs hx
      obtain ⟨cs', h1, h2⟩ := (mem x (by simp [Op.operands]) _ hx).agg_inv
      obtain ⟨v', g1, g2⟩ := partOf_VR h2 h
      refine gives_of ⟨v', ?_, g2⟩
      simp [Instr.field, run_underlying hu, hf, h1, asAgg, run_part hs g1]
     ·cases h
    ·simp [A.den] at h
   ·simp [A.den] at h
  ·simp [A.den] at h
 case indexAddr t x i =>
  split at h
  ·rename_i e hu
   split at h
   ·rename_i s hs
    simp only [A.den, Den.pure.injEq] at h
    split at h
    ·rename_i a n c k j hx hi
     split at h
     ·rename_i hb
      injection h with h; subst h
      obtain ⟨a', c', g1, hsl⟩ := (mem x (by simp [Op.operands]) _ hx).slice_inv
      have g2 := (mem i (by simp [Op.operands]) _ hi).int_inv
      obtain ⟨e1, xl, e2, e3, _⟩ := hsl.at_ (by have := hsl.len; have := hsl.low; omega)
      refine gives_of ⟨.pointer (some ⟨xl.r, xl.o + (a.off + j.toNat * s), none⟩), ?_, .ptr _ _ _ e2⟩
      simp [Instr.indexAt, g1, g2, asIntOf, run_underlying hu, hb.1, hb.2, run_sizeOf' hs, e3, add_none, Nat.add_assoc]
     ·cases h
    ·cases h
   ·simp [A.den] at h
  ·rename_i n e hu
   split at h
   ·rename_i s hs
    simp only [A.den, Den.pure.injEq] at h
    split at h
    ·rename_i a k j hx hi
     split at h
     ·rename_i hb
      injection h with h; subst h
      obtain ⟨xl, h1, h2, h3⟩ := (mem x (by simp [Op.operands]) _ hx).ptr_inv
      have g2 := (mem i (by simp [Op.operands]) _ hi).int_inv
      refine gives_of ⟨.pointer (some ⟨xl.r, xl.o + (a.off + j.toNat * s), none⟩), ?_, .ptr _ _ _ h1⟩
      simp [Instr.indexAt, h3, g2, asIntOf, run_underlying hu, Instr.sureAddr, hb.1, hb.2, run_sizeOf' hs, add_none, Nat.add_assoc]
     ·cases h
    ·cases h
   ·simp [A.den] at h
  ·simp [A.den] at h
 case index t x i =>
  split at h
  ·rename_i n e hu
   split at h
   ·rename_i s m hs hm
    simp only [A.den, Den.pure.injEq] at h
    split at h
    ·rename_i cs k j hx hi
     split at h
     ·rename_i hb
      obtain ⟨cs', h1, h2⟩ := (mem x (by simp [Op.operands]) _ hx).agg_inv
      have g2 := (mem i (by simp [Op.operands]) _ hi).int_inv
      obtain ⟨v', e1, e2⟩ := partOf_VR h2 h
      refine gives_of ⟨v', ?_, e2⟩
      simp [Instr.index, h1, g2, asIntOf, run_underlying hu, hb.1, hb.2, run_sizeOf' hs, run_part hm e1]
     ·cases h
    ·cases h
   ·simp [A.den] at h
  ·rename_i hu
   simp only [A.den, Den.pure.injEq] at h
   split at h
   ·rename_i s k j hx hi
    split at h
    ·rename_i hb
     simp only [Option.map_eq_some_iff] at h
     obtain ⟨b, hb2, rfl⟩ := h
     have g1 := (mem x (by simp [Op.operands]) _ hx).string_inv
     have g2 := (mem i (by simp [Op.operands]) _ hi).int_inv
     refine gives_of ⟨_, ?_, .int _ _⟩
     simp [Instr.index, g1, g2, asIntOf, run_underlying hu, hb, hb2]
    ·cases h
   ·cases h
  ·simp [A.den] at h
 case extract x i =>
  simp only [A.den, Den.pure.injEq] at h
  split at h
  ·rename_i vs hx
   obtain ⟨vs', h1, h2⟩ := (mem x (by simp [Op.operands]) _ hx).tuple_inv
   obtain ⟨v', g1, g2⟩ := h2.get h
   exact gives_of ⟨v', by simp [Instr.extract, h1, g1], g2⟩
  ·cases h
 case lookup t x k ok =>
  repeat' split at h
  all_goals simp [A.den] at h
 case mapUpdate t m k x =>
  repeat' split at h
  all_goals simp [A.den] at h
 case insert t m k x =>
  repeat' split at h
  all_goals simp [A.den] at h
 case call c =>
  split at h
  ·simp [A.den] at h
  ·rename_i b hcal
   obtain ⟨cal, args, ts⟩ := c
   simp only at hcal h
   subst hcal
   have hmem : ∀ x ∈ args.toList, ∀ v, ρ x = some v → VR φ v (ρ' x) := fun x hx v hv => mem x (by simp [Op.operands, Call.operands]; simpa using hx) v hv
   unfold trBuiltin at h
   split at h
   ·rename_i t tl x xl hts hxs
    have hargs : args = (x :: xl).toArray := by rw [← hxs]
    have htys : ts = (t :: tl).toArray := by rw [← hts]
    subst hargs; subst htys
    have red : ∀ (r : Value), (Builtin.len_ (t :: tl).toArray type (((x :: xl).toArray).map ρ')).run P w = .ok r w → VR φ v r →
      Gives P φ w (execOp ρ' { dst := dst, op := .call { callee := .builtin .len, args := (x :: xl).toArray, argTypes := (t :: tl).toArray }, type := type, pos := pos, after := after, guard := guard }) v := by
     intro r hr hv
     refine ⟨r, ?_, hv⟩
     simp only [execOp, resolve, invoke, builtin, Sem.run_bind, Sem.run_pure, Result.andThen_ok, hr]
    split at h
    ·rename_i hu
     simp only [A.den, Den.pure.injEq] at h
     split at h
     ·rename_i s hx
      injection h with h; subst h
      refine red (goInt s.size) ?_ (.int _ _)
      simp [Builtin.len_, run_underlying hu, (hmem x (by simp) _ hx).string_inv]
     ·cases h
    ·rename_i e hu
     simp only [A.den, Den.pure.injEq] at h
     split at h
     ·rename_i a n c hx
      injection h with h; subst h
      refine red (goInt n) ?_ (.int _ _)
      cases a with
      |none =>
       have hx' := hmem x (by simp) _ hx
       generalize hq : ρ' x = q at hx'
       cases hx'
       simp [Builtin.len_, run_underlying hu, hq]
      |some a =>
       obtain ⟨a', c', g1, _⟩ := (hmem x (by simp) _ hx).slice_inv
       simp [Builtin.len_, run_underlying hu, g1]
     ·cases h
    ·rename_i n e hu
     simp only [A.den, Den.pure.injEq, Option.some.injEq] at h
     subst h
     exact red (goInt n) (by simp [Builtin.len_, run_underlying hu]) (.int _ _)
    ·rename_i a hu
     split at h
     ·rename_i n e hua
      simp only [A.den, Den.pure.injEq, Option.some.injEq] at h
      subst h
      exact red (goInt n) (by simp [Builtin.len_, run_underlying hu, run_underlying hua]) (.int _ _)
     ·simp [A.den] at h
    ·simp [A.den] at h
    ·simp [A.den] at h
   ·rename_i x xl hxs
    have hargs : args = (x :: xl).toArray := by rw [← hxs]
    subst hargs
    simp only [A.den, Den.pure.injEq] at h
    split at h
    ·rename_i v0 vs he
     have hvr := evs_VR (ρ' := ρ') hmem he
     have hlen := evs_length he
     simp only [List.length_cons] at hlen
     obtain ⟨r', e1, e2⟩ := minV_sound (P := P) (w := w) (b := false) (xs' := xl.map ρ') h (by have := hvr.2 0 (by simp) (by simp); simpa using this)
      (fun i u hu => by have := hvr.get (i := i + 1) (v := u) (by simpa using hu); simpa using this) (by simpa using hlen)
     refine ⟨r', ?_, e2⟩
     simp only [execOp, resolve, invoke, builtin, Sem.run_bind, Sem.run_pure, Result.andThen_ok, Builtin.min_]
     simp only [List.map_toArray, List.map_cons]
     have e1' : Sem.run P (List.foldlM Builtin.min2 (ρ' x) (List.map ρ' xl)) w = .ok r' w := by simpa using e1
     simp [e1']
    ·cases h
   ·rename_i x xl hxs
    have hargs : args = (x :: xl).toArray := by rw [← hxs]
    subst hargs
    simp only [A.den, Den.pure.injEq] at h
    split at h
    ·rename_i v0 vs he
     have hvr := evs_VR (ρ' := ρ') hmem he
     have hlen := evs_length he
     simp only [List.length_cons] at hlen
     obtain ⟨r', e1, e2⟩ := minV_sound (P := P) (w := w) (b := true) (xs' := xl.map ρ') h (by have := hvr.2 0 (by simp) (by simp); simpa using this)
      (fun i u hu => by have := hvr.get (i := i + 1) (v := u) (by simpa using hu); simpa using this) (by simpa using hlen)
     refine ⟨r', ?_, e2⟩
     simp only [execOp, resolve, invoke, builtin, Sem.run_bind, Sem.run_pure, Result.andThen_ok, Builtin.max_]
     simp only [List.map_toArray, List.map_cons]
     have e1' : Sem.run P (List.foldlM Builtin.max2 (ρ' x) (List.map ρ' xl)) w = .ok r' w := by simpa using e1
     simp [e1']
    ·cases h
   ·repeat' split at h
    all_goals simp [A.den] at h
   ·repeat' split at h
    all_goals simp [A.den] at h
   ·repeat' split at h
    all_goals simp [A.den] at h
   ·split at h
    all_goals simp [A.den] at h
   ·simp [A.den] at h
  ·simp [A.den] at h
 case range t x => split at h <;> simp [A.den] at h
 case next x s => split at h <;> simp [A.den] at h
 all_goals simp [A.den] at h
end
end Go.Cn
