/- For every right load and line: the numbers of Dirty do not increase, and from the second one on stay, once two are equal; the first one is all pages, none of the others is greater than Hot; fewer rounds have the same numbers; with a Rate of 0 nothing is left after the first round (the statement PlannerRoundsShrink). Conditions: those of the given statement, none added. -/
import Derived.Test.YtianomelnpiffaaPi
import Derived.Test.YtianomelnpiffaaRows
import Derived.ProofKit
set_option linter.all false
set_option linter.unusedSimpArgs false
namespace Go.Proofs.Ytianomelnpiffaa
open Go Go.Cn Go.RowKit Go.ChangeShapes Go.WideShapes

theorem app6 {W : World} {args : Array Value} (hs : args.size = Try.f6.params.size) (hd : ∀ (j : Nat) (t : TypeId) (v : Value), Try.f6.params[j]? = some t → args[j]? = some v → Dat Try.prog (abs W) t v) :
    App Try.prog (.func 6) #[] args (abs W) fun v σ' => Old (abs W) σ' ∧ v = .bool true := by
  have hn : args.size = 3 := hs
  obtain ⟨a, b, c, rfl⟩ : ∃ a b c, args = #[a, b, c] := by
    match args, hn with
    | ⟨[a, b, c]⟩, _ => exact ⟨a, b, c, rfl⟩
  obtain ⟨q0, rfl⟩ := dat_ld (hd 0 23 a rfl rfl)
  obtain ⟨q1, rfl⟩ := dat_ln (hd 1 25 b rfl rfl)
  obtain ⟨q2, rfl, q20, q21⟩ := dat_u8 (hd 2 5 c rfl rfl)
  exact law6 q20 q21

set_option maxRecDepth 100000 in
theorem lifted6 (os : Os) (started : os.Started) (H : Type) (enc : TypeId × Value → H) :
    ReturnsInHanded {} Try.checked os 6 .any (Rows.plannerRoundsShrinkSpec.pre6 enc Try.prog Try.f6 [] false) (Rows.plannerRoundsShrinkSpec.post enc Try.prog Try.f6 false true false false) :=
  law_plain (C := Try.checked) (g := 20) (tb := 4) own started (by kernel_rfl) Try.func6 rfl (by kernel_rfl) laidOut (by kernel_rfl) (by kernel_rfl) rfl
    (fun ds hds => match ds, hds with | [_, _, _], _ => ⟨rfl, rfl, rfl⟩) rfl Try.underlying4
    (ChangeSpec.witness6 (enc := enc) (C := Try.checked) false ⟨#[], #[.agg #[.int .i64 0, .int .i64 0, .int .i64 0, .int .i64 0], .agg #[.int .i64 0, .int .i64 0], .int .u8 0], []⟩ 20 (by kernel_rfl) (by kernel_rfl) (by kernel_rfl) (by kernel_rfl))
    globs (fun _ _ hs hd => app6 hs hd)

theorem said6 : Rows.PlannerRoundsShrinkSaid :=
  OpenClaim.holds_of_wide 6 Try.f6 rfl rfl rfl rfl rfl rfl rfl ⟨rfl, rfl, rfl, rfl, rfl⟩ rfl rfl rfl rfl rfl (by kernel_rfl) Try.func6 (by kernel_rfl)
    (of_decide_eq_true (by kernel_rfl)) (by unfold Func.isWrapper; first | (rw [if_pos (by decide +kernel)]; kernel_rfl) | (rw [if_neg (by decide +kernel)]; exact ⟨rfl, rfl⟩))
    (fun os started H enc _ => lifted6 os started H enc)
#print axioms said6
end Go.Proofs.Ytianomelnpiffaa
