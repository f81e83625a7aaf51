/- For every right load and line with a Rate and a Delay of at most 50, and any writes of a machine that keeps to its load: if it is copied in rounds, no round sends more than Dirty says, and the last one has no more left (the statement PlannerBoundsRuns). Conditions: those of the given statement, none added. -/
import Derived.Test.YtianomelnpiffaaPk
import Derived.Test.YtianomelnpiffaaRows
import Derived.ProofKit
set_option linter.all false
set_option linter.unusedSimpArgs false
namespace Go.Proofs.Ytianomelnpiffaa
open Go Go.Cn Go.RowKit Go.ChangeShapes Go.WideShapes

theorem app7 {W : World} {args : Array Value} (hs : args.size = Try.f7.params.size) (hd : ∀ (j : Nat) (t : TypeId) (v : Value), Try.f7.params[j]? = some t → args[j]? = some v → Dat Try.prog (abs W) t v) :
    App Try.prog (.func 7) #[] args (abs W) fun v σ' => Old (abs W) σ' ∧ v = .bool true := by
  have hn : args.size = 4 := hs
  obtain ⟨a, b, c, d, rfl⟩ : ∃ a b c d, args = #[a, b, c, d] := by
    match args, hn with
    | ⟨[a, b, c, d]⟩, _ => exact ⟨a, b, c, d, rfl⟩
  obtain ⟨q0, rfl⟩ := dat_ld (hd 0 23 a rfl rfl)
  obtain ⟨q1, rfl⟩ := dat_ln (hd 1 25 b rfl rfl)
  obtain ⟨q2, rfl, q20, q21⟩ := dat_u8 (hd 2 5 c rfl rfl)
  obtain ⟨q3, oq3, hq3⟩ := dat_u8s (hd 3 55 d rfl rfl)
  exact law7 q20 q21 oq3 hq3

set_option maxRecDepth 100000 in
theorem lifted7 (os : Os) (started : os.Started) (H : Type) (enc : TypeId × Value → H) :
    ReturnsInHanded {} Try.checked os 7 .any (Rows.plannerBoundsRunsSpec.pre6 enc Try.prog Try.f7 [] false) (Rows.plannerBoundsRunsSpec.post enc Try.prog Try.f7 false true false false) :=
  law_plain (C := Try.checked) (g := 20) (tb := 4) own started (by kernel_rfl) Try.func7 rfl (by kernel_rfl) laidOut (by kernel_rfl) (by kernel_rfl) rfl
    (fun ds hds => match ds, hds with | [_, _, _, _], _ => ⟨rfl, rfl, rfl⟩) rfl Try.underlying4
    (ChangeSpec.witness6 (enc := enc) (C := Try.checked) false ⟨#[], #[.agg #[.int .i64 0, .int .i64 0, .int .i64 0, .int .i64 0], .agg #[.int .i64 0, .int .i64 0], .int .u8 0, .slice none 0 0], []⟩ 20 (by kernel_rfl) (by kernel_rfl) (by kernel_rfl) (by kernel_rfl))
    globs (fun _ _ hs hd => app7 hs hd)

theorem said7 : Rows.PlannerBoundsRunsSaid :=
  OpenClaim.holds_of_wide 7 Try.f7 rfl rfl rfl rfl rfl rfl rfl ⟨rfl, rfl, rfl, rfl, rfl⟩ rfl rfl rfl rfl rfl (by kernel_rfl) Try.func7 (by kernel_rfl)
    (of_decide_eq_true (by kernel_rfl)) (by unfold Func.isWrapper; first | (rw [if_pos (by decide +kernel)]; kernel_rfl) | (rw [if_neg (by decide +kernel)]; exact ⟨rfl, rfl⟩))
    (fun os started H enc _ => lifted7 os started H enc)
#print axioms said7
end Go.Proofs.Ytianomelnpiffaa
