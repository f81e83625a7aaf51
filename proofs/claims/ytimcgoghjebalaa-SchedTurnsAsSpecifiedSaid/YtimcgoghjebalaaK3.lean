/- For all portions and every quantum for which it is specified: Turns returns what the specification returns; the turns of each portion have its steps together, and no two turns of a machine follow each other while another one has steps left (the statement SchedTurnsAsSpecified). Conditions: those of the given statement, none added. -/
import Derived.Test.YtimcgoghjebalaaVt
import Derived.Test.YtimcgoghjebalaaRows
import Derived.ProofKit
set_option linter.all false
set_option linter.unusedSimpArgs false
namespace Go.Proofs.Ytimcgoghjebalaa
open Go Go.Cn Go.RowKit Go.ChangeShapes Go.WideShapes

theorem app3 {W : World} {args : Array Value} (hs : args.size = Try.f3.params.size) (hd : ∀ (j : Nat) (t : TypeId) (v : Value), Try.f3.params[j]? = some t → args[j]? = some v → Dat Try.prog (abs W) t v) :
    App Try.prog (.func 3) #[] args (abs W) fun v σ' => Old (abs W) σ' ∧ v = .bool true := by
  have hn : args.size = 2 := hs
  obtain ⟨a, b, rfl⟩ : ∃ a b, args = #[a, b] := by
    match args, hn with
    | ⟨[a, b]⟩, _ => exact ⟨a, b, rfl⟩
  obtain ⟨q0, hq0, kq0⟩ := dat_pors (hd 0 22 a rfl rfl)
  obtain ⟨q1, rfl⟩ := dat_int (hd 1 3 b rfl rfl)
  exact law3 hq0 kq0

set_option maxRecDepth 100000 in
theorem lifted3 (os : Os) (started : os.Started) (H : Type) (enc : TypeId × Value → H) :
    ReturnsInHanded {} Try.checked os 3 .any (Rows.schedTurnsAsSpecifiedSpec.pre6 enc Try.prog Try.f3 [] false) (Rows.schedTurnsAsSpecifiedSpec.post enc Try.prog Try.f3 false true false false) :=
  law_plain (C := Try.checked) (g := 20) (tb := 4) own started (by kernel_rfl) Try.func3 rfl (by kernel_rfl) laidOut (by kernel_rfl) (by kernel_rfl) rfl
    (fun ds hds => match ds, hds with | [_, _], _ => ⟨rfl, rfl, rfl⟩) rfl Try.underlying4
    (ChangeSpec.witness6 (enc := enc) (C := Try.checked) false ⟨#[], #[.slice none 0 0, .int .i64 0], []⟩ 20 (by kernel_rfl) (by kernel_rfl) (by kernel_rfl) (by kernel_rfl))
    globs (fun _ _ hs hd => app3 hs hd)

theorem said3 : Rows.SchedTurnsAsSpecifiedSaid :=
  OpenClaim.holds_of_wide 3 Try.f3 rfl rfl rfl rfl rfl rfl rfl ⟨rfl, rfl, rfl, rfl, rfl⟩ rfl rfl rfl rfl rfl (by kernel_rfl) Try.func3 (by kernel_rfl)
    (of_decide_eq_true (by kernel_rfl)) (by unfold Func.isWrapper; first | (rw [if_pos (by decide +kernel)]; kernel_rfl) | (rw [if_neg (by decide +kernel)]; exact ⟨rfl, rfl⟩))
    (fun os started H enc _ => lifted3 os started H enc)
#print axioms said3
end Go.Proofs.Ytimcgoghjebalaa
