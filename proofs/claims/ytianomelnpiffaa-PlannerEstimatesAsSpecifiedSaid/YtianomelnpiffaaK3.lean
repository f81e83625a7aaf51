/- For every load, line, plan, number of rounds and two costs: Check, Dirty, Estimate and Within return what the specification returns (the statement PlannerEstimatesAsSpecified). Conditions: those of the given statement, none added. -/
import Derived.Test.YtianomelnpiffaaPg
import Derived.Test.YtianomelnpiffaaRows
import Derived.ProofKit
set_option linter.all false
set_option linter.unusedSimpArgs false
namespace Go.Proofs.Ytianomelnpiffaa
open Go Go.Cn Go.RowKit Go.ChangeShapes Go.WideShapes

theorem app3 {W : World} {args : Array Value} (hs : args.size = Try.f3.params.size) (hd : ∀ (j : Nat) (t : TypeId) (v : Value), Try.f3.params[j]? = some t → args[j]? = some v → Dat Try.prog (abs W) t v) :
    App Try.prog (.func 3) #[] args (abs W) fun v σ' => Old (abs W) σ' ∧ v = .bool true := by
  have hn : args.size = 6 := hs
  obtain ⟨a, b, c, d, e, f, rfl⟩ : ∃ a b c d e f, args = #[a, b, c, d, e, f] := by
    match args, hn with
    | ⟨[a, b, c, d, e, f]⟩, _ => exact ⟨a, b, c, d, e, f, rfl⟩
  obtain ⟨q0, rfl⟩ := dat_ld (hd 0 23 a rfl rfl)
  obtain ⟨q1, rfl⟩ := dat_ln (hd 1 25 b rfl rfl)
  obtain ⟨q2, rfl⟩ := dat_pl (hd 2 27 c rfl rfl)
  obtain ⟨q3, rfl⟩ := dat_int (hd 3 3 d rfl rfl)
  obtain ⟨q4, rfl⟩ := dat_bd (hd 4 29 e rfl rfl)
  obtain ⟨q5, rfl⟩ := dat_bd (hd 5 29 f rfl rfl)
  exact law3

set_option maxRecDepth 100000 in
theorem lifted3 (os : Os) (started : os.Started) (H : Type) (enc : TypeId × Value → H) :
    ReturnsInHanded {} Try.checked os 3 .any (Rows.plannerEstimatesAsSpecifiedSpec.pre6 enc Try.prog Try.f3 [] false) (Rows.plannerEstimatesAsSpecifiedSpec.post enc Try.prog Try.f3 false true false false) :=
  law_plain (C := Try.checked) (g := 20) (tb := 4) own started (by kernel_rfl) Try.func3 rfl (by kernel_rfl) laidOut (by kernel_rfl) (by kernel_rfl) rfl
    (fun ds hds => match ds, hds with | [_, _, _, _, _, _], _ => ⟨rfl, rfl, rfl⟩) rfl Try.underlying4
    (ChangeSpec.witness6 (enc := enc) (C := Try.checked) false ⟨#[], #[.agg #[.int .i64 0, .int .i64 0, .int .i64 0, .int .i64 0], .agg #[.int .i64 0, .int .i64 0], .agg #[.int .i64 0, .int .i64 0], .int .i64 0, .agg #[.int .i64 0, .int .i64 0, .int .i64 0], .agg #[.int .i64 0, .int .i64 0, .int .i64 0]], []⟩ 20 (by kernel_rfl) (by kernel_rfl) (by kernel_rfl) (by kernel_rfl))
    globs (fun _ _ hs hd => app3 hs hd)

theorem said3 : Rows.PlannerEstimatesAsSpecifiedSaid :=
  OpenClaim.holds_of_wide 3 Try.f3 rfl rfl rfl rfl rfl rfl rfl ⟨rfl, rfl, rfl, rfl, rfl⟩ rfl rfl rfl rfl rfl (by kernel_rfl) Try.func3 (by kernel_rfl)
    (of_decide_eq_true (by kernel_rfl)) (by unfold Func.isWrapper; first | (rw [if_pos (by decide +kernel)]; kernel_rfl) | (rw [if_neg (by decide +kernel)]; exact ⟨rfl, rfl⟩))
    (fun os started H enc _ => lifted3 os started H enc)
#print axioms said3
end Go.Proofs.Ytianomelnpiffaa
