/- A log that was sealed, and whose entries are then changed, is not right, or has the same digest of its chain; with another key its seals are refused, unless both seals are the same (the statement LogSealsHold). Conditions: those of the given statement, none added. -/
import Derived.Test.YtopnlllipkockaaDoorM7
set_option linter.all false
set_option linter.unusedSimpArgs false
set_option maxRecDepth 100000
namespace Go.Proofs.YtopnlllipkockaaDoor
open Go Go.Cn Go.RowKit Go.ChangeShapes Go.WideShapes

theorem app7 {W : World} {args : Array Value} (hx : laidMetH Tryd.prog laidB W) (hs : args.size = Tryd.f7.params.size) (hd : ∀ (j : Nat) (t : TypeId) (v : Value), Tryd.f7.params[j]? = some t → args[j]? = some v → Dat Tryd.prog (abs W) t v) :
    App Tryd.prog (.func 7) #[] args (abs W) fun v σ' => Old (abs W) σ' ∧ v = .bool true := by
  have h3 : args.size = 5 := hs
  obtain ⟨a, b, c, d, e, rfl⟩ : ∃ a b c d e, args = #[a, b, c, d, e] := by
    match args, h3 with
    | ⟨[a, b, c, d, e]⟩, _ => exact ⟨a, b, c, d, e, rfl⟩
  obtain ⟨_, La, _, _, _, _, rfl, wa⟩ := dat_log (hd 0 27 a rfl rfl)
  obtain ⟨tb, rfl, pb⟩ := dat_str (hd 1 9 b rfl rfl)
  obtain ⟨tc, rfl, pc⟩ := dat_str (hd 2 9 c rfl rfl)
  obtain ⟨nd, rfl, pd, qd⟩ := dat_u8 (hd 3 5 d rfl rfl)
  obtain ⟨ee, rfl, ue⟩ := dat_ent (hd 4 29 e rfl rfl)
  exact law7 wa pb pc pd qd ue (met_B hx).1 (met_B hx).2

set_option maxRecDepth 100000 in
theorem lifted7 (os : Os) (started : os.Started) (H : Type) (enc : TypeId × Value → H) :
    ReturnsInHanded {} Tryd.checked os 7 .any (fun w args => (Rows.logSealsHoldSpec.pre enc Tryd.prog Tryd.f7 [] false w args ∧ laidMetH Tryd.prog laidB w) ∧ sizedMet enc Tryd.prog Tryd.f7 (OpenSpec.ofChange Rows.logSealsHoldSpec) false w args)
      (Rows.logSealsHoldSpec.post enc Tryd.prog Tryd.f7 false true false false) :=
  law_laid_shaped (C := Tryd.checked) (g := 20) (tb := 4) (X := fun w => laidMetH Tryd.prog laidB w) (fun _ _ hh h => h.of_heap hh) own started (by kernel_rfl) Tryd.func7 rfl (by kernel_rfl) laidOut (by kernel_rfl) (by kernel_rfl) rfl
    (fun ds hds => match ds, hds with | [_, _, _, _, _], _ => ⟨rfl, rfl, rfl⟩) rfl Tryd.underlying4
    (ChangeSpec.witness_shaped (enc := enc) (C := Tryd.checked) (os := os) (X := fun w _ => laidMetH Tryd.prog laidB w) false (World.doorLaid Tryd.prog 400 os) #[logZ, .string ⟨#[]⟩, .string ⟨#[]⟩, .int .u8 0, entZ] 20 rfl (World.shaped_of_RefB (by kernel_rfl) (by kernel_rfl)) (by kernel_rfl) (by kernel_rfl) (by kernel_rfl) (door_metB os _))
    globs (fun _ _ hx hs hd => app7 hx hs hd)

theorem said7 : Rows.LogSealsHoldSaid :=
  OpenClaim.holds_of_wide 7 Tryd.f7 rfl rfl rfl rfl rfl rfl rfl ⟨rfl, rfl, rfl, rfl, rfl⟩ rfl rfl rfl rfl rfl (by kernel_rfl) Tryd.func7 (by kernel_rfl)
    (of_decide_eq_true (by kernel_rfl)) (by unfold Func.isWrapper; first | (rw [if_pos (by decide +kernel)]; kernel_rfl) | (rw [if_neg (by decide +kernel)]; exact ⟨rfl, rfl⟩))
    (fun os started H enc _ => lifted7 os started H enc)

theorem card7 : Rows.LogSealsHoldCardSaid :=
  Claim7.holds_tied_plain_at .later [] [.data, .data] true (true, "f8b715c6edba154dcdbffd225845b718db2e98ca3359b4a06897702122d7ceb9") false
    said7 (fun _ h => by cases h) (by kernel_rfl) (fun _ h => by cases h) logSealsHold_row_tie rfl ⟨rfl, rfl⟩ (by kernel_rfl) rfl
    (fun f fn hf hfn => by
      obtain rfl : f = 7 := Option.some.inj ((show Tryd.prog.funcNamed "simulacrum/simulacrumlaw29.LogSealsHold" = some 7 by kernel_rfl).symm.trans hf) |>.symm
      obtain rfl : fn = Tryd.f7 := (Option.some.inj (Tryd.func7.symm.trans hfn)).symm
      exact ⟨by kernel_rfl, fun j t ht => by
        have hm : t ∈ Tryd.f7.params.toList := by simpa using Array.mem_of_getElem? ht
        have hall : (Tryd.f7.params.toList.all fun u => !Tryd.prog.wantsStandIn u) = true := by kernel_rfl
        exact (show Tryd.prog.wantsStandIn t = false by simpa using List.all_eq_true.1 hall t hm)⟩)
    (by kernel_rfl)
#print axioms card7
end Go.Proofs.YtopnlllipkockaaDoor
