/- For every capacity, contracts and demands for which it is specified: each contract gets at least its base, and at most its top; together they get at most the capacity, and if they get less, each one has its top (the statement SchedKeepsContracts). Conditions: those of the given statement, none added. -/
import Derived.Test.YtimcgoghjebalaaVg
import Derived.Test.YtimcgoghjebalaaRows
import Derived.ProofKit
set_option linter.all false
set_option linter.unusedSimpArgs false
namespace Go.Proofs.Ytimcgoghjebalaa
open Go Go.Cn Go.RowKit Go.ChangeShapes Go.WideShapes

theorem app4 {W : World} {args : Array Value} (hs : args.size = Try.f4.params.size) (hd : ∀ (j : Nat) (t : TypeId) (v : Value), Try.f4.params[j]? = some t → args[j]? = some v → Dat Try.prog (abs W) t v) :
    App Try.prog (.func 4) #[] args (abs W) fun v σ' => Old (abs W) σ' ∧ v = .bool true := by
  have hn : args.size = 3 := hs
  obtain ⟨a, b, c, rfl⟩ : ∃ a b c, args = #[a, b, c] := by
    match args, hn with
    | ⟨[a, b, c]⟩, _ => exact ⟨a, b, c, rfl⟩
  obtain ⟨q0, rfl⟩ := dat_int (hd 0 3 a rfl rfl)
  obtain ⟨q1, hq1⟩ := dat_ctrs (hd 1 35 b rfl rfl)
  obtain ⟨q2, hq2⟩ := dat_ints (hd 2 36 c rfl rfl)
  exact law4 hq1 hq2

set_option maxRecDepth 100000 in
theorem lifted4 (os : Os) (started : os.Started) (H : Type) (enc : TypeId × Value → H) :
    ReturnsInHanded {} Try.checked os 4 .any (Rows.schedKeepsContractsSpec.pre6 enc Try.prog Try.f4 [] false) (Rows.schedKeepsContractsSpec.post enc Try.prog Try.f4 false true false false) :=
  law_plain (C := Try.checked) (g := 20) (tb := 4) own started (by kernel_rfl) Try.func4 rfl (by kernel_rfl) laidOut (by kernel_rfl) (by kernel_rfl) rfl
    (fun ds hds => match ds, hds with | [_, _, _], _ => ⟨rfl, rfl, rfl⟩) rfl Try.underlying4
    (ChangeSpec.witness6 (enc := enc) (C := Try.checked) false ⟨#[], #[.int .i64 0, .slice none 0 0, .slice none 0 0], []⟩ 20 (by kernel_rfl) (by kernel_rfl) (by kernel_rfl) (by kernel_rfl))
    globs (fun _ _ hs hd => app4 hs hd)

theorem said4 : Rows.SchedKeepsContractsSaid :=
  OpenClaim.holds_of_wide 4 Try.f4 rfl rfl rfl rfl rfl rfl rfl ⟨rfl, rfl, rfl, rfl, rfl⟩ rfl rfl rfl rfl rfl (by kernel_rfl) Try.func4 (by kernel_rfl)
    (of_decide_eq_true (by kernel_rfl)) (by unfold Func.isWrapper; first | (rw [if_pos (by decide +kernel)]; kernel_rfl) | (rw [if_neg (by decide +kernel)]; exact ⟨rfl, rfl⟩))
    (fun os started H enc _ => lifted4 os started H enc)
#print axioms said4
end Go.Proofs.Ytimcgoghjebalaa
