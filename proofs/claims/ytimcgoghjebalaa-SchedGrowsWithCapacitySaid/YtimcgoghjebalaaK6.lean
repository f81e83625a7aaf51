/- For every capacity, a greater one, contracts and demands for which it is specified: no contract gets less of the greater one; demands above the Limit change nothing (the statement SchedGrowsWithCapacity). Conditions: those of the given statement, none added. -/
import Derived.Test.YtimcgoghjebalaaVi
import Derived.Test.YtimcgoghjebalaaRows
import Derived.ProofKit
set_option linter.all false
set_option linter.unusedSimpArgs false
namespace Go.Proofs.Ytimcgoghjebalaa
open Go Go.Cn Go.RowKit Go.ChangeShapes Go.WideShapes

theorem app6 {W : World} {args : Array Value} (hs : args.size = Try.f6.params.size) (hd : ∀ (j : Nat) (t : TypeId) (v : Value), Try.f6.params[j]? = some t → args[j]? = some v → Dat Try.prog (abs W) t v) :
    App Try.prog (.func 6) #[] args (abs W) fun v σ' => Old (abs W) σ' ∧ v = .bool true := by
  have hn : args.size = 4 := hs
  obtain ⟨a, b, c, d, rfl⟩ : ∃ a b c d, args = #[a, b, c, d] := by
    match args, hn with
    | ⟨[a, b, c, d]⟩, _ => exact ⟨a, b, c, d, rfl⟩
  obtain ⟨q0, rfl⟩ := dat_int (hd 0 3 a rfl rfl)
  obtain ⟨q1, rfl, q10, q11⟩ := dat_u32 (hd 1 41 b rfl rfl)
  obtain ⟨q2, hq2⟩ := dat_ctrs (hd 2 35 c rfl rfl)
  obtain ⟨q3, hq3⟩ := dat_ints (hd 3 36 d rfl rfl)
  exact law6 hq2 hq3 q10 q11

set_option maxRecDepth 100000 in
theorem lifted6 (os : Os) (started : os.Started) (H : Type) (enc : TypeId × Value → H) :
    ReturnsInHanded {} Try.checked os 6 .any (Rows.schedGrowsWithCapacitySpec.pre6 enc Try.prog Try.f6 [] false) (Rows.schedGrowsWithCapacitySpec.post enc Try.prog Try.f6 false true false false) :=
  law_plain (C := Try.checked) (g := 20) (tb := 4) own started (by kernel_rfl) Try.func6 rfl (by kernel_rfl) laidOut (by kernel_rfl) (by kernel_rfl) rfl
    (fun ds hds => match ds, hds with | [_, _, _, _], _ => ⟨rfl, rfl, rfl⟩) rfl Try.underlying4
    (ChangeSpec.witness6 (enc := enc) (C := Try.checked) false ⟨#[], #[.int .i64 0, .int .u32 0, .slice none 0 0, .slice none 0 0], []⟩ 20 (by kernel_rfl) (by kernel_rfl) (by kernel_rfl) (by kernel_rfl))
    globs (fun _ _ hs hd => app6 hs hd)

theorem said6 : Rows.SchedGrowsWithCapacitySaid :=
  OpenClaim.holds_of_wide 6 Try.f6 rfl rfl rfl rfl rfl rfl rfl ⟨rfl, rfl, rfl, rfl, rfl⟩ rfl rfl rfl rfl rfl (by kernel_rfl) Try.func6 (by kernel_rfl)
    (of_decide_eq_true (by kernel_rfl)) (by unfold Func.isWrapper; first | (rw [if_pos (by decide +kernel)]; kernel_rfl) | (rw [if_neg (by decide +kernel)]; exact ⟨rfl, rfl⟩))
    (fun os started H enc _ => lifted6 os started H enc)
#print axioms said6
end Go.Proofs.Ytimcgoghjebalaa
