/- For every capacity, contracts and demands for which it is specified: there is a number t so that each contract has at least the less of its top and its base and t times Shares, and at most its base and t + 1 times Shares (the statement SchedIsFair). Conditions: those of the given statement, none added. -/
import Derived.Test.YtimcgoghjebalaaVh
import Derived.Test.YtimcgoghjebalaaRows
import Derived.ProofKit
set_option linter.all false
set_option linter.unusedSimpArgs false
namespace Go.Proofs.Ytimcgoghjebalaa
open Go Go.Cn Go.RowKit Go.ChangeShapes Go.WideShapes

theorem app5 {W : World} {args : Array Value} (hs : args.size = Try.f5.params.size) (hd : ∀ (j : Nat) (t : TypeId) (v : Value), Try.f5.params[j]? = some t → args[j]? = some v → Dat Try.prog (abs W) t v) :
    App Try.prog (.func 5) #[] args (abs W) fun v σ' => Old (abs W) σ' ∧ v = .bool true := by
  have hn : args.size = 3 := hs
  obtain ⟨a, b, c, rfl⟩ : ∃ a b c, args = #[a, b, c] := by
    match args, hn with
    | ⟨[a, b, c]⟩, _ => exact ⟨a, b, c, rfl⟩
  obtain ⟨q0, rfl⟩ := dat_int (hd 0 3 a rfl rfl)
  obtain ⟨q1, hq1⟩ := dat_ctrs (hd 1 35 b rfl rfl)
  obtain ⟨q2, hq2⟩ := dat_ints (hd 2 36 c rfl rfl)
  exact law5 hq1 hq2

set_option maxRecDepth 100000 in
theorem lifted5 (os : Os) (started : os.Started) (H : Type) (enc : TypeId × Value → H) :
    ReturnsInHanded {} Try.checked os 5 .any (Rows.schedIsFairSpec.pre6 enc Try.prog Try.f5 [] false) (Rows.schedIsFairSpec.post enc Try.prog Try.f5 false true false false) :=
  law_plain (C := Try.checked) (g := 20) (tb := 4) own started (by kernel_rfl) Try.func5 rfl (by kernel_rfl) laidOut (by kernel_rfl) (by kernel_rfl) rfl
    (fun ds hds => match ds, hds with | [_, _, _], _ => ⟨rfl, rfl, rfl⟩) rfl Try.underlying4
    (ChangeSpec.witness6 (enc := enc) (C := Try.checked) false ⟨#[], #[.int .i64 0, .slice none 0 0, .slice none 0 0], []⟩ 20 (by kernel_rfl) (by kernel_rfl) (by kernel_rfl) (by kernel_rfl))
    globs (fun _ _ hs hd => app5 hs hd)

theorem said5 : Rows.SchedIsFairSaid :=
  OpenClaim.holds_of_wide 5 Try.f5 rfl rfl rfl rfl rfl rfl rfl ⟨rfl, rfl, rfl, rfl, rfl⟩ rfl rfl rfl rfl rfl (by kernel_rfl) Try.func5 (by kernel_rfl)
    (of_decide_eq_true (by kernel_rfl)) (by unfold Func.isWrapper; first | (rw [if_pos (by decide +kernel)]; kernel_rfl) | (rw [if_neg (by decide +kernel)]; exact ⟨rfl, rfl⟩))
    (fun os started H enc _ => lifted5 os started H enc)
#print axioms said5
end Go.Proofs.Ytimcgoghjebalaa
