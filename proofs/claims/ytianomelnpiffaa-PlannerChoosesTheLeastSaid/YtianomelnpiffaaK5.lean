/- For every right load and line, bounds, and any plan: what is chosen is within the bounds, and costs what Estimate says; a plan that is within the bounds is not better; without a choice none is within the bounds; with greater bounds there is a choice, too, with no greater Stall (the statement PlannerChoosesTheLeast). Conditions: those of the given statement, none added. -/
import Derived.Test.YtianomelnpiffaaPh
import Derived.Test.YtianomelnpiffaaRows
import Derived.ProofKit
set_option linter.all false
set_option linter.unusedSimpArgs false
namespace Go.Proofs.Ytianomelnpiffaa
open Go Go.Cn Go.RowKit Go.ChangeShapes Go.WideShapes

theorem app5 {W : World} {args : Array Value} (hs : args.size = Try.f5.params.size) (hd : ∀ (j : Nat) (t : TypeId) (v : Value), Try.f5.params[j]? = some t → args[j]? = some v → Dat Try.prog (abs W) t v) :
    App Try.prog (.func 5) #[] args (abs W) fun v σ' => Old (abs W) σ' ∧ v = .bool true := by
  have hn : args.size = 5 := hs
  obtain ⟨a, b, c, d, e, rfl⟩ : ∃ a b c d e, args = #[a, b, c, d, e] := by
    match args, hn with
    | ⟨[a, b, c, d, e]⟩, _ => exact ⟨a, b, c, d, e, rfl⟩
  obtain ⟨q0, rfl⟩ := dat_ld (hd 0 23 a rfl rfl)
  obtain ⟨q1, rfl⟩ := dat_ln (hd 1 25 b rfl rfl)
  obtain ⟨q2, rfl⟩ := dat_bd (hd 2 29 c rfl rfl)
  obtain ⟨q3, rfl⟩ := dat_pl (hd 3 27 d rfl rfl)
  obtain ⟨q4, rfl⟩ := dat_bd (hd 4 29 e rfl rfl)
  exact law5

set_option maxRecDepth 100000 in
theorem lifted5 (os : Os) (started : os.Started) (H : Type) (enc : TypeId × Value → H) :
    ReturnsInHanded {} Try.checked os 5 .any (Rows.plannerChoosesTheLeastSpec.pre6 enc Try.prog Try.f5 [] false) (Rows.plannerChoosesTheLeastSpec.post enc Try.prog Try.f5 false true false false) :=
  law_plain (C := Try.checked) (g := 20) (tb := 4) own started (by kernel_rfl) Try.func5 rfl (by kernel_rfl) laidOut (by kernel_rfl) (by kernel_rfl) rfl
    (fun ds hds => match ds, hds with | [_, _, _, _, _], _ => ⟨rfl, rfl, rfl⟩) rfl Try.underlying4
    (ChangeSpec.witness6 (enc := enc) (C := Try.checked) false ⟨#[], #[.agg #[.int .i64 0, .int .i64 0, .int .i64 0, .int .i64 0], .agg #[.int .i64 0, .int .i64 0], .agg #[.int .i64 0, .int .i64 0, .int .i64 0], .agg #[.int .i64 0, .int .i64 0], .agg #[.int .i64 0, .int .i64 0, .int .i64 0]], []⟩ 20 (by kernel_rfl) (by kernel_rfl) (by kernel_rfl) (by kernel_rfl))
    globs (fun _ _ hs hd => app5 hs hd)

theorem said5 : Rows.PlannerChoosesTheLeastSaid :=
  OpenClaim.holds_of_wide 5 Try.f5 rfl rfl rfl rfl rfl rfl rfl ⟨rfl, rfl, rfl, rfl, rfl⟩ rfl rfl rfl rfl rfl (by kernel_rfl) Try.func5 (by kernel_rfl)
    (of_decide_eq_true (by kernel_rfl)) (by unfold Func.isWrapper; first | (rw [if_pos (by decide +kernel)]; kernel_rfl) | (rw [if_neg (by decide +kernel)]; exact ⟨rfl, rfl⟩))
    (fun os started H enc _ => lifted5 os started H enc)
#print axioms said5
end Go.Proofs.Ytianomelnpiffaa
