/- For every list of at most 80 integers: Words returns the check of the bytes of their lowest 40 bits (the statement HashWordsMatchSpec). Conditions: those of the given statement, none added. -/
import Derived.Test.YtoegoigfbldkoaaDoorHr
set_option linter.all false
set_option linter.unusedSimpArgs false
namespace Go.Proofs.YtoegoigfbldkoaaDoor
open Go Go.Cn Go.RowKit Go.ChangeShapes Go.WideShapes

theorem app5 {W : World} {args : Array Value} (hx : laidMetH Tryd.prog laidA W) (hs : args.size = Tryd.f5.params.size) (hd : ∀ (j : Nat) (t : TypeId) (v : Value), Tryd.f5.params[j]? = some t → args[j]? = some v → Dat Tryd.prog (abs W) t v) :
    App Tryd.prog (.func 5) #[] args (abs W) fun v σ' => Old (abs W) σ' ∧ v = .bool true := by
  have h3 : args.size = 1 := hs
  obtain ⟨a, rfl⟩ : ∃ a, args = #[a] := by
    match args, h3 with
    | ⟨[a]⟩, _ => exact ⟨a, rfl⟩
  obtain ⟨la, ga, wa⟩ := dat_ints (hd 0 36 a rfl rfl)
  exact law5 ga wa (met_A hx).2.1 (met_A hx).2.2

set_option maxRecDepth 100000 in
theorem lifted5 (os : Os) (started : os.Started) (H : Type) (enc : TypeId × Value → H) :
    ReturnsInHanded {} Tryd.checked os 5 .any (fun w args => (Rows.hashWordsMatchSpecSpec.pre enc Tryd.prog Tryd.f5 [] false w args ∧ laidMetH Tryd.prog laidA w) ∧ sizedMet enc Tryd.prog Tryd.f5 (OpenSpec.ofChange Rows.hashWordsMatchSpecSpec) false w args)
      (Rows.hashWordsMatchSpecSpec.post enc Tryd.prog Tryd.f5 false true false false) :=
  law_laid (C := Tryd.checked) (g := 20) (tb := 4) (X := fun w => laidMetH Tryd.prog laidA w) (fun _ _ hh h => h.of_heap hh) own started (by kernel_rfl) Tryd.func5 rfl (by kernel_rfl) laidOut (by kernel_rfl) (by kernel_rfl) rfl
    (fun ds hds => match ds, hds with | [_], _ => ⟨rfl, rfl, rfl⟩) rfl Tryd.underlying4
    (ChangeSpec.witness_shaped (enc := enc) (C := Tryd.checked) (os := os) (X := fun w _ => laidMetH Tryd.prog laidA w) false (World.doorLaid Tryd.prog 400 os) #[.slice none 0 0] 20 rfl (World.shaped_of_RefB (by kernel_rfl) (by kernel_rfl)) (by kernel_rfl) (by kernel_rfl) (by kernel_rfl) (door_metA os _))
    (fun _ h => (met_A h).1) (fun _ _ hx hs hd => app5 hx hs hd)

theorem said5 : Rows.HashWordsMatchSpecSaid :=
  OpenClaim.holds_of_wide 5 Tryd.f5 rfl rfl rfl rfl rfl rfl rfl ⟨rfl, rfl, rfl, rfl, rfl⟩ rfl rfl rfl rfl rfl (by kernel_rfl) Tryd.func5 (by kernel_rfl)
    (of_decide_eq_true (by kernel_rfl)) (by unfold Func.isWrapper; first | (rw [if_pos (by decide +kernel)]; kernel_rfl) | (rw [if_neg (by decide +kernel)]; exact ⟨rfl, rfl⟩))
    (fun os started H enc _ => lifted5 os started H enc)

theorem card5 : Rows.HashWordsMatchSpecCardSaid :=
  Claim7.holds_tied_plain_at .later [] [.data, .data] true (true, "42e9cf196ed31d7a2aabbd92432a97f4e9544799b0a4ad1b4255031840fde5eb") false
    said5 (fun _ h => by cases h) (by kernel_rfl) (fun _ h => by cases h) hashWordsMatchSpec_row_tie rfl ⟨rfl, rfl⟩ (by kernel_rfl) rfl
    (fun f fn hf hfn => by
      obtain rfl : f = 5 := Option.some.inj ((show Tryd.prog.funcNamed "simulacrum/simulacrumlaw02.HashWordsMatchSpec" = some 5 by kernel_rfl).symm.trans hf) |>.symm
      obtain rfl : fn = Tryd.f5 := (Option.some.inj (Tryd.func5.symm.trans hfn)).symm
      exact ⟨by kernel_rfl, fun j t ht => by
        have hm : t ∈ Tryd.f5.params.toList := by simpa using Array.mem_of_getElem? ht
        have hall : (Tryd.f5.params.toList.all fun u => !Tryd.prog.wantsStandIn u) = true := by kernel_rfl
        exact (show Tryd.prog.wantsStandIn t = false by simpa using List.all_eq_true.1 hall t hm)⟩)
    (by kernel_rfl)
#print axioms card5
end Go.Proofs.YtoegoigfbldkoaaDoor
