/- If the bits that differ lie within 40 consecutive ones, and there is at least one, then the checks are different (the statement HashCrcBursts). Conditions: those of the given statement, none added. -/
import Derived.Test.YtoegoigfbldkoaaDoorHl
set_option linter.all false
set_option linter.unusedSimpArgs false
namespace Go.Proofs.YtoegoigfbldkoaaDoor
open Go Go.Cn Go.RowKit Go.ChangeShapes Go.WideShapes

theorem app10 {W : World} {args : Array Value} (hx : laidMetH Tryd.prog laidA W) (hs : args.size = Tryd.f10.params.size) (hd : ∀ (j : Nat) (t : TypeId) (v : Value), Tryd.f10.params[j]? = some t → args[j]? = some v → Dat Tryd.prog (abs W) t v) :
    App Tryd.prog (.func 10) #[] args (abs W) fun v σ' => Old (abs W) σ' ∧ v = .bool true := by
  have h3 : args.size = 3 := hs
  obtain ⟨a, b, c, rfl⟩ : ∃ a b c, args = #[a, b, c] := by
    match args, h3 with
    | ⟨[a, b, c]⟩, _ => exact ⟨a, b, c, rfl⟩
  obtain ⟨la, ga, wa⟩ := dat_bytes (hd 0 22 a rfl rfl)
  obtain ⟨nb, rfl, pb, qb⟩ := dat_u16 (hd 1 45 b rfl rfl)
  obtain ⟨nc, rfl, pc, qc⟩ := dat_u64 (hd 2 28 c rfl rfl)
  exact law10 ga wa pb qb pc qc (met_A hx).2.1 (met_A hx).2.2

set_option maxRecDepth 100000 in
theorem lifted10 (os : Os) (started : os.Started) (H : Type) (enc : TypeId × Value → H) :
    ReturnsInHanded {} Tryd.checked os 10 .any (fun w args => (Rows.hashCrcBurstsSpec.pre enc Tryd.prog Tryd.f10 [] false w args ∧ laidMetH Tryd.prog laidA w) ∧ sizedMet enc Tryd.prog Tryd.f10 (OpenSpec.ofChange Rows.hashCrcBurstsSpec) false w args)
      (Rows.hashCrcBurstsSpec.post enc Tryd.prog Tryd.f10 false true false false) :=
  law_laid (C := Tryd.checked) (g := 20) (tb := 4) (X := fun w => laidMetH Tryd.prog laidA w) (fun _ _ hh h => h.of_heap hh) own started (by kernel_rfl) Tryd.func10 rfl (by kernel_rfl) laidOut (by kernel_rfl) (by kernel_rfl) rfl
    (fun ds hds => match ds, hds with | [_, _, _], _ => ⟨rfl, rfl, rfl⟩) rfl Tryd.underlying4
    (ChangeSpec.witness_shaped (enc := enc) (C := Tryd.checked) (os := os) (X := fun w _ => laidMetH Tryd.prog laidA w) false (World.doorLaid Tryd.prog 400 os) #[.slice none 0 0, .int .u16 0, .int .u64 0] 20 rfl (World.shaped_of_RefB (by kernel_rfl) (by kernel_rfl)) (by kernel_rfl) (by kernel_rfl) (by kernel_rfl) (door_metA os _))
    (fun _ h => (met_A h).1) (fun _ _ hx hs hd => app10 hx hs hd)

theorem said10 : Rows.HashCrcBurstsSaid :=
  OpenClaim.holds_of_wide 10 Tryd.f10 rfl rfl rfl rfl rfl rfl rfl ⟨rfl, rfl, rfl, rfl, rfl⟩ rfl rfl rfl rfl rfl (by kernel_rfl) Tryd.func10 (by kernel_rfl)
    (of_decide_eq_true (by kernel_rfl)) (by unfold Func.isWrapper; first | (rw [if_pos (by decide +kernel)]; kernel_rfl) | (rw [if_neg (by decide +kernel)]; exact ⟨rfl, rfl⟩))
    (fun os started H enc _ => lifted10 os started H enc)

theorem card10 : Rows.HashCrcBurstsCardSaid :=
  Claim7.holds_tied_plain_at .later [] [.data, .data] true (true, "42e9cf196ed31d7a2aabbd92432a97f4e9544799b0a4ad1b4255031840fde5eb") false
    said10 (fun _ h => by cases h) (by kernel_rfl) (fun _ h => by cases h) hashCrcBursts_row_tie rfl ⟨rfl, rfl⟩ (by kernel_rfl) rfl
    (fun f fn hf hfn => by
      obtain rfl : f = 10 := Option.some.inj ((show Tryd.prog.funcNamed "simulacrum/simulacrumlaw02.HashCrcBursts" = some 10 by kernel_rfl).symm.trans hf) |>.symm
      obtain rfl : fn = Tryd.f10 := (Option.some.inj (Tryd.func10.symm.trans hfn)).symm
      exact ⟨by kernel_rfl, fun j t ht => by
        have hm : t ∈ Tryd.f10.params.toList := by simpa using Array.mem_of_getElem? ht
        have hall : (Tryd.f10.params.toList.all fun u => !Tryd.prog.wantsStandIn u) = true := by kernel_rfl
        exact (show Tryd.prog.wantsStandIn t = false by simpa using List.all_eq_true.1 hall t hm)⟩)
    (by kernel_rfl)
#print axioms card10
end Go.Proofs.YtoegoigfbldkoaaDoor
