/- For every budget with at most 40 tenants, a tenant and a number: Right and Valid return what the specification returns; for valid budgets so do Admit and Leave, and the budget stays valid (the statement SchedAdmitsAsSpecified). Conditions: those of the given statement, none added. -/
import Derived.Test.YtimcgoghjebalaaVl
import Derived.Test.YtimcgoghjebalaaRows
import Derived.ProofKit
set_option linter.all false
set_option linter.unusedSimpArgs false
namespace Go.Proofs.Ytimcgoghjebalaa
open Go Go.Cn Go.RowKit Go.ChangeShapes Go.WideShapes

theorem app7 {W : World} {args : Array Value} (hs : args.size = Try.f7.params.size) (hd : ∀ (j : Nat) (t : TypeId) (v : Value), Try.f7.params[j]? = some t → args[j]? = some v → Dat Try.prog (abs W) t v) :
    App Try.prog (.func 7) #[] args (abs W) fun v σ' => Old (abs W) σ' ∧ v = .bool true := by
  have hn : args.size = 3 := hs
  obtain ⟨a, b, c, rfl⟩ : ∃ a b c, args = #[a, b, c] := by
    match args, hn with
    | ⟨[a, b, c]⟩, _ => exact ⟨a, b, c, rfl⟩
  obtain ⟨q0v, q0, rfl, hq0⟩ := dat_bud (hd 0 46 a rfl rfl)
  obtain ⟨q1, rfl⟩ := dat_ten (hd 1 48 b rfl rfl)
  obtain ⟨q2, rfl⟩ := dat_int (hd 2 3 c rfl rfl)
  exact law7 hq0

set_option maxRecDepth 100000 in
theorem lifted7 (os : Os) (started : os.Started) (H : Type) (enc : TypeId × Value → H) :
    ReturnsInHanded {} Try.checked os 7 .any (Rows.schedAdmitsAsSpecifiedSpec.pre6 enc Try.prog Try.f7 [] false) (Rows.schedAdmitsAsSpecifiedSpec.post enc Try.prog Try.f7 false true false false) :=
  law_plain (C := Try.checked) (g := 20) (tb := 4) own started (by kernel_rfl) Try.func7 rfl (by kernel_rfl) laidOut (by kernel_rfl) (by kernel_rfl) rfl
    (fun ds hds => match ds, hds with | [_, _, _], _ => ⟨rfl, rfl, rfl⟩) rfl Try.underlying4
    (ChangeSpec.witness6 (enc := enc) (C := Try.checked) false ⟨#[], #[.agg #[.int .i64 0, .int .i64 0, .slice none 0 0], .agg #[.int .i64 0, .int .i64 0, .int .i64 0, .int .i64 0, .int .i64 0, .int .i64 0, .int .i64 0], .int .i64 0], []⟩ 20 (by kernel_rfl) (by kernel_rfl) (by kernel_rfl) (by kernel_rfl))
    globs (fun _ _ hs hd => app7 hs hd)

theorem said7 : Rows.SchedAdmitsAsSpecifiedSaid :=
  OpenClaim.holds_of_wide 7 Try.f7 rfl rfl rfl rfl rfl rfl rfl ⟨rfl, rfl, rfl, rfl, rfl⟩ rfl rfl rfl rfl rfl (by kernel_rfl) Try.func7 (by kernel_rfl)
    (of_decide_eq_true (by kernel_rfl)) (by unfold Func.isWrapper; first | (rw [if_pos (by decide +kernel)]; kernel_rfl) | (rw [if_neg (by decide +kernel)]; exact ⟨rfl, rfl⟩))
    (fun os started H enc _ => lifted7 os started H enc)
#print axioms said7
end Go.Proofs.Ytimcgoghjebalaa
