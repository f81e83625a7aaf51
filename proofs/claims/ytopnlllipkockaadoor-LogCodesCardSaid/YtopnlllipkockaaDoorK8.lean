/- For every right, small log, and at most 3000 bytes: Encode and Decode return what the specification returns; what is written is read as the log, and what is read is written as the bytes (the statement LogCodes). Conditions: those of the given statement, none added. -/
import Derived.Test.YtopnlllipkockaaDoorM8
set_option linter.all false
set_option maxRecDepth 100000
namespace Go.Proofs.YtopnlllipkockaaDoor
open Go Go.Cn Go.RowKit Go.ChangeShapes Go.WideShapes
theorem app8 {W : World} {args : Array Value} (hx : laidMetH Tryd.prog laidB W) (hs : args.size = Tryd.f8.params.size) (hd : ∀ (j : Nat) (t : TypeId) (v : Value), Tryd.f8.params[j]? = some t → args[j]? = some v → Dat Tryd.prog (abs W) t v) :
  App Tryd.prog (.func 8) #[] args (abs W) fun v σ' => Old (abs W) σ' ∧ v = .bool true := by
 have h3 : args.size = 2 := hs
 obtain ⟨a, b, rfl⟩ : ∃ a b, args = #[a, b] := by
  match args, h3 with
  |⟨[a, b]⟩, _ => exact ⟨a, b, rfl⟩
 obtain ⟨_, La, _, _, _, _, rfl, wa⟩ := dat_log (hd 0 27 a rfl rfl)
 obtain ⟨lb, gb, wb⟩ := dat_bytes (hd 1 65 b rfl rfl)
 exact law8 wa gb wb (met_B hx).1 (met_B hx).2
set_option maxRecDepth 100000 in
theorem lifted8 (os : Os) (started : os.Started) (H : Type) (enc : TypeId × Value → H) :
  ReturnsInHanded {} Tryd.checked os 8 .any (fun w args => (Rows.logCodesSpec.pre enc Tryd.prog Tryd.f8 [] false w args ∧ laidMetH Tryd.prog laidB w) ∧ sizedMet enc Tryd.prog Tryd.f8 (OpenSpec.ofChange Rows.logCodesSpec) false w args)
   (Rows.logCodesSpec.post enc Tryd.prog Tryd.f8 false true false false) :=
 law_laid_shaped (C := Tryd.checked) (g := 20) (tb := 4) (X := fun w => laidMetH Tryd.prog laidB w) (fun _ _ hh h => h.of_heap hh) own started (by kernel_rfl) Tryd.func8 rfl (by kernel_rfl) laidOut (by kernel_rfl) (by kernel_rfl) rfl
  (fun ds hds => match ds, hds with | [_, _], _ => ⟨rfl, rfl, rfl⟩) rfl Tryd.underlying4
  (ChangeSpec.witness_shaped (enc := enc) (C := Tryd.checked) (os := os) (X := fun w _ => laidMetH Tryd.prog laidB w) false (World.doorLaid Tryd.prog 400 os) #[logZ, .slice none 0 0] 20 rfl (World.shaped_of_RefB (by kernel_rfl) (by kernel_rfl)) (by kernel_rfl) (by kernel_rfl) (by kernel_rfl) (door_metB os _))
  globs (fun _ _ hx hs hd => app8 hx hs hd)
theorem said8 : Rows.LogCodesSaid :=
 OpenClaim.holds_of_wide 8 Tryd.f8 rfl rfl rfl rfl rfl rfl rfl ⟨rfl, rfl, rfl, rfl, rfl⟩ rfl rfl rfl rfl rfl (by kernel_rfl) Tryd.func8 (by kernel_rfl)
  (of_decide_eq_true (by kernel_rfl)) (by unfold Func.isWrapper; first | (rw [if_pos (by decide +kernel)]; kernel_rfl) | (rw [if_neg (by decide +kernel)]; exact ⟨rfl, rfl⟩))
  (fun os started H enc _ => lifted8 os started H enc)
theorem card8 : Rows.LogCodesCardSaid :=
 Claim7.holds_tied_plain_at .later [] [.data, .data] true (true, "f8b715c6edba154dcdbffd225845b718db2e98ca3359b4a06897702122d7ceb9") false
  said8 (fun _ h => by cases h) (by kernel_rfl) (fun _ h => by cases h) logCodes_row_tie rfl ⟨rfl, rfl⟩ (by kernel_rfl) rfl
  (fun f fn hf hfn => by
   obtain rfl : f = 8 := Option.some.inj ((show Tryd.prog.funcNamed "simulacrum/simulacrumlaw29.LogCodes" = some 8 by kernel_rfl).symm.trans hf) |>.symm
   obtain rfl : fn = Tryd.f8 := (Option.some.inj (Tryd.func8.symm.trans hfn)).symm
   exact ⟨by kernel_rfl, fun j t ht => by
    have hm : t ∈ Tryd.f8.params.toList := by simpa using Array.mem_of_getElem? ht
    have hall : (Tryd.f8.params.toList.all fun u => !Tryd.prog.wantsStandIn u) = true := by kernel_rfl
    exact (show Tryd.prog.wantsStandIn t = false by simpa using List.all_eq_true.1 hall t hm)⟩)
  (by kernel_rfl)
#print axioms card8
end Go.Proofs.YtopnlllipkockaaDoor
