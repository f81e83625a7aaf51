/- For every two right logs of at most 60 entries: without the input that is the obstacle the second log goes on from the first one, or the obstacle is not before it (the card of the statement MergeGoesFurther). Conditions: those of the given statement, none added. -/
import Derived.Test.YtljmjkpmkpchoaaDoorKc
import Derived.Test.YtljmjkpmkpchoaaDoorRows
import Derived.Test.YtljmjkpmkpchoaaDoorTie
import Derived.Test.YtljmjkpmkpchoaaDoorCards
import Derived.ProofKit
import Derived.LaidMore
import Derived.SevenTiedAt
import Derived.Stop.Joined
set_option linter.all false
set_option linter.unusedSimpArgs false
namespace Go.Proofs.YtljmjkpmkpchoaaDoor
open Go Go.Cn Go.RowKit Go.ChangeShapes Go.WideShapes

theorem app7 {W : World} {args : Array Value} (hx : laidMetH Tryd.prog laid0 W) (hs : args.size = Tryd.f7.params.size) (hd : ∀ (j : Nat) (t : TypeId) (v : Value), Tryd.f7.params[j]? = some t → args[j]? = some v → Dat Tryd.prog (abs W) t v) :
    App Tryd.prog (.func 7) #[] args (abs W) fun v σ' => Old (abs W) σ' ∧ v = .bool true := by
  have h3 : args.size = 2 := hs
  obtain ⟨a, b, rfl⟩ : ∃ a b, args = #[a, b] := by
    match args, h3 with
    | ⟨[a, b]⟩, _ => exact ⟨a, b, rfl⟩
  obtain ⟨la, La, rfl, ha⟩ := dat_log (hd 0 27 a rfl rfl)
  obtain ⟨lb, Lb, rfl, hb⟩ := dat_log (hd 1 27 b rfl rfl)
  exact law7 ha hb (glob_of hx) 

set_option maxRecDepth 100000 in
theorem lifted7 (os : Os) (started : os.Started) (H : Type) (enc : TypeId × Value → H) :
    ReturnsInHanded {} Tryd.checked os 7 .any (fun w args => (Rows.mergeGoesFurtherSpec.pre enc Tryd.prog Tryd.f7 [] false w args ∧ laidMetH Tryd.prog laid0 w) ∧ sizedMet enc Tryd.prog Tryd.f7 (OpenSpec.ofChange Rows.mergeGoesFurtherSpec) false w args)
      (Rows.mergeGoesFurtherSpec.post enc Tryd.prog Tryd.f7 false true false false) :=
  law_laid (C := Tryd.checked) (g := 20) (tb := 4) (X := fun w => laidMetH Tryd.prog laid0 w) (fun _ _ hh h => h.of_heap hh) own started (by kernel_rfl) Tryd.func7 rfl (by kernel_rfl) laidOut (by kernel_rfl) (by kernel_rfl) rfl
    (fun ds hds => match ds, hds with | [_, _], _ => ⟨rfl, rfl, rfl⟩) rfl Tryd.underlying4
    (ChangeSpec.witness_shaped (enc := enc) (C := Tryd.checked) (os := os) (X := fun w _ => laidMetH Tryd.prog laid0 w) false (World.doorLaid Tryd.prog 400 os) #[logZ, logZ] 20 rfl (World.shaped_of_RefB (by kernel_rfl) (by kernel_rfl)) (by kernel_rfl) (by kernel_rfl) (by kernel_rfl) (door_met os _))
    (fun _ h => laid_heap h) (fun _ _ hx hs hd => app7 hx hs hd)

theorem said7 : Rows.MergeGoesFurtherSaid :=
  OpenClaim.holds_of_wide 7 Tryd.f7 rfl rfl rfl rfl rfl rfl rfl ⟨rfl, rfl, rfl, rfl, rfl⟩ rfl rfl rfl rfl rfl (by kernel_rfl) Tryd.func7 (by kernel_rfl)
    (of_decide_eq_true (by kernel_rfl)) (by unfold Func.isWrapper; first | (rw [if_pos (by decide +kernel)]; kernel_rfl) | (rw [if_neg (by decide +kernel)]; exact ⟨rfl, rfl⟩))
    (fun os started H enc _ => lifted7 os started H enc)

theorem card7 : Rows.MergeGoesFurtherCardSaid :=
  Claim7.holds_tied_plain_at .later [] [.data] true (true, "6a152c3ed4e46f3a01a279c48d06b84aecc433f5ceed276dc42a3b60f305510b") false
    said7 (fun _ h => by cases h) (by kernel_rfl) (fun _ h => by cases h) mergeGoesFurther_row_tie rfl ⟨rfl, rfl⟩ (by kernel_rfl) rfl
    (fun f fn hf hfn => by
      obtain rfl : f = 7 := Option.some.inj ((show Tryd.prog.funcNamed "simulacrum/simulacrumlaw42.MergeGoesFurther" = some 7 by kernel_rfl).symm.trans hf) |>.symm
      obtain rfl : fn = Tryd.f7 := (Option.some.inj (Tryd.func7.symm.trans hfn)).symm
      exact ⟨by kernel_rfl, fun j t ht => by
        have hm : t ∈ Tryd.f7.params.toList := by simpa using Array.mem_of_getElem? ht
        have hall : (Tryd.f7.params.toList.all fun u => !Tryd.prog.wantsStandIn u) = true := by kernel_rfl
        exact (show Tryd.prog.wantsStandIn t = false by simpa using List.all_eq_true.1 hall t hm)⟩)
    (by kernel_rfl)
#print axioms card7
end Go.Proofs.YtljmjkpmkpchoaaDoor
