/- For a witness that keeps nothing, and at most 30 pleas for two machines: what it answers, and keeps, of each machine is what it would without the pleas for the other one (the statement TopTokensAreApart). Conditions: those of the given statement, none added. -/
import Derived.Test.YtiipnbnkikmlgaaGreatDoorHr
set_option linter.all false
set_option maxRecDepth 100000
namespace Go.Proofs.YtiipnbnkikmlgaaGreatDoor
open Go Go.Cn Go.RowKit Go.ChangeShapes Go.WideShapes
theorem app3 {W : World} {args : Array Value} (hg : Tryz.prog.globals.size ≤ (abs W).size) (hx : laidMetH Tryz.prog laidA W) (hs : args.size = Tryz.f3.params.size) (hd : ∀ (j : Nat) (t : TypeId) (v : Value), Tryz.f3.params[j]? = some t → args[j]? = some v → DatS Tryz.prog (abs W) t v) :
  App Tryz.prog (.func 3) #[] args (abs W) fun v σ' => Old (abs W) σ' ∧ v = .bool true := by
 have h3 : args.size = 1 := hs
 obtain ⟨a, rfl⟩ : ∃ a, args = #[a] := by
  match args, h3 with
  |⟨[a]⟩, _ => exact ⟨a, rfl⟩
 obtain ⟨L, wa, na⟩ := dat_pleas (hd 0 22 a rfl rfl)
 exact law3 wa na hg
set_option maxRecDepth 100000 in
theorem lifted3 (os : Os) (started : os.Started) (H : Type) (enc : TypeId × Value → H) :
  ReturnsInHanded {} Tryz.checked os 3 .any (fun w args => (Rows.topTokensAreApartSpec.pre enc Tryz.prog Tryz.f3 [] false w args ∧ laidMetH Tryz.prog laidA w) ∧ sizedMet enc Tryz.prog Tryz.f3 (OpenSpec.ofChange Rows.topTokensAreApartSpec) false w args)
   (Rows.topTokensAreApartSpec.post enc Tryz.prog Tryz.f3 false true false false) :=
 law_laid_sized_g (C := Tryz.checked) (g := 20) (tb := 4) (X := fun w => laidMetH Tryz.prog laidA w) (fun _ _ hh h => h.of_heap hh) own started (by kernel_rfl) Tryz.func3 rfl (by kernel_rfl) laidOut (by kernel_rfl) (by kernel_rfl) rfl
  (fun ds hds => match ds, hds with | [_], _ => ⟨rfl, rfl, rfl⟩) rfl Tryz.underlying4
  (ChangeSpec.witness_shaped (enc := enc) (C := Tryz.checked) (os := os) (X := fun w _ => laidMetH Tryz.prog laidA w) false (World.laidAll Tryz.prog os laidA) #[.slice none 0 0] 20 (World.laidAll_os _ _ _) (World.shaped_of_ZipB (by kernel_rfl) (by kernel_rfl)) (by kernel_rfl) (by kernel_rfl) (by kernel_rfl) (door_metA os _))
  globs (fun _ _ hg hx hs hd => app3 hg hx hs hd)
theorem said3 : Rows.TopTokensAreApartSaid :=
 OpenClaim.holds_of_wide 3 Tryz.f3 rfl rfl rfl rfl rfl rfl rfl ⟨rfl, rfl, rfl, rfl, rfl⟩ rfl rfl rfl rfl rfl (by kernel_rfl) Tryz.func3 (by kernel_rfl)
  (of_decide_eq_true (by kernel_rfl)) (by unfold Func.isWrapper; first | (rw [if_pos (by decide +kernel)]; kernel_rfl) | (rw [if_neg (by decide +kernel)]; exact ⟨rfl, rfl⟩))
  (fun os started H enc _ => lifted3 os started H enc)
theorem card3 : Rows.TopTokensAreApartCardSaid :=
 Claim7.holds_tied_plain_at .later [] [.data, .data, .pinned] true (true, "992f3e64ab93fc55c980b6b6a49da1b38963ad4466b96346e5a516ba13297c65") true
  said3 (fun _ h => by cases h) (by kernel_rfl) (fun _ h => by cases h) topTokensAreApart_row_tie rfl ⟨rfl, rfl⟩ (by kernel_rfl) rfl
  (fun f fn hf hfn => by
   obtain rfl : f = 3 := Option.some.inj ((show Tryz.prog.funcNamed "simulacrum/simulacrumtop.TopTokensAreApart" = some 3 by kernel_rfl).symm.trans hf) |>.symm
   obtain rfl : fn = Tryz.f3 := (Option.some.inj (Tryz.func3.symm.trans hfn)).symm
   exact ⟨by kernel_rfl, fun j t ht => by
    have hm : t ∈ Tryz.f3.params.toList := by simpa using Array.mem_of_getElem? ht
    have hall : (Tryz.f3.params.toList.all fun u => !Tryz.prog.wantsStandIn u) = true := by kernel_rfl
    exact (show Tryz.prog.wantsStandIn t = false by simpa using List.all_eq_true.1 hall t hm)⟩)
  (by kernel_rfl)
#print axioms card3
end Go.Proofs.YtiipnbnkikmlgaaGreatDoor
