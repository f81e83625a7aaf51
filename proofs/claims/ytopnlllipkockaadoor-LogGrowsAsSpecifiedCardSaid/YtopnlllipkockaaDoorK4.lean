/- For every right, small log, an entry, a key and a number: Append, Digest, Seal, Sealed and Cut return what the specification returns (the statement LogGrowsAsSpecified). Conditions: those of the given statement, none added. -/
import Derived.Test.YtopnlllipkockaaDoorM4
set_option linter.all false
set_option linter.unusedSimpArgs false
set_option maxRecDepth 100000
namespace Go.Proofs.YtopnlllipkockaaDoor
open Go Go.Cn Go.RowKit Go.ChangeShapes Go.WideShapes

theorem app4 {W : World} {args : Array Value} (hx : laidMetH Tryd.prog laidB W) (hs : args.size = Tryd.f4.params.size) (hd : ∀ (j : Nat) (t : TypeId) (v : Value), Tryd.f4.params[j]? = some t → args[j]? = some v → Dat Tryd.prog (abs W) t v) :
    App Tryd.prog (.func 4) #[] args (abs W) fun v σ' => Old (abs W) σ' ∧ v = .bool true := by
  have h3 : args.size = 4 := hs
  obtain ⟨a, b, c, d, rfl⟩ : ∃ a b c d, args = #[a, b, c, d] := by
    match args, h3 with
    | ⟨[a, b, c, d]⟩, _ => exact ⟨a, b, c, d, rfl⟩
  obtain ⟨_, La, _, _, _, _, rfl, wa⟩ := dat_log (hd 0 27 a rfl rfl)
  obtain ⟨eb, rfl, ub⟩ := dat_ent (hd 1 29 b rfl rfl)
  obtain ⟨tc, rfl, pc⟩ := dat_str (hd 2 9 c rfl rfl)
  obtain ⟨nd, rfl, pd, qd⟩ := dat_int (hd 3 3 d rfl rfl)
  exact law4 wa ub pc ⟨pd, qd⟩ (met_B hx).1 (met_B hx).2

set_option maxRecDepth 100000 in
theorem lifted4 (os : Os) (started : os.Started) (H : Type) (enc : TypeId × Value → H) :
    ReturnsInHanded {} Tryd.checked os 4 .any (fun w args => (Rows.logGrowsAsSpecifiedSpec.pre enc Tryd.prog Tryd.f4 [] false w args ∧ laidMetH Tryd.prog laidB w) ∧ sizedMet enc Tryd.prog Tryd.f4 (OpenSpec.ofChange Rows.logGrowsAsSpecifiedSpec) false w args)
      (Rows.logGrowsAsSpecifiedSpec.post enc Tryd.prog Tryd.f4 false true false false) :=
  law_laid_shaped (C := Tryd.checked) (g := 20) (tb := 4) (X := fun w => laidMetH Tryd.prog laidB w) (fun _ _ hh h => h.of_heap hh) own started (by kernel_rfl) Tryd.func4 rfl (by kernel_rfl) laidOut (by kernel_rfl) (by kernel_rfl) rfl
    (fun ds hds => match ds, hds with | [_, _, _, _], _ => ⟨rfl, rfl, rfl⟩) rfl Tryd.underlying4
    (ChangeSpec.witness_shaped (enc := enc) (C := Tryd.checked) (os := os) (X := fun w _ => laidMetH Tryd.prog laidB w) false (World.doorLaid Tryd.prog 400 os) #[logZ, entZ, .string ⟨#[]⟩, .int .i64 0] 20 rfl (World.shaped_of_RefB (by kernel_rfl) (by kernel_rfl)) (by kernel_rfl) (by kernel_rfl) (by kernel_rfl) (door_metB os _))
    globs (fun _ _ hx hs hd => app4 hx hs hd)

theorem said4 : Rows.LogGrowsAsSpecifiedSaid :=
  OpenClaim.holds_of_wide 4 Tryd.f4 rfl rfl rfl rfl rfl rfl rfl ⟨rfl, rfl, rfl, rfl, rfl⟩ rfl rfl rfl rfl rfl (by kernel_rfl) Tryd.func4 (by kernel_rfl)
    (of_decide_eq_true (by kernel_rfl)) (by unfold Func.isWrapper; first | (rw [if_pos (by decide +kernel)]; kernel_rfl) | (rw [if_neg (by decide +kernel)]; exact ⟨rfl, rfl⟩))
    (fun os started H enc _ => lifted4 os started H enc)

theorem card4 : Rows.LogGrowsAsSpecifiedCardSaid :=
  Claim7.holds_tied_plain_at .later [] [.data, .data] true (true, "f8b715c6edba154dcdbffd225845b718db2e98ca3359b4a06897702122d7ceb9") false
    said4 (fun _ h => by cases h) (by kernel_rfl) (fun _ h => by cases h) logGrowsAsSpecified_row_tie rfl ⟨rfl, rfl⟩ (by kernel_rfl) rfl
    (fun f fn hf hfn => by
      obtain rfl : f = 4 := Option.some.inj ((show Tryd.prog.funcNamed "simulacrum/simulacrumlaw29.LogGrowsAsSpecified" = some 4 by kernel_rfl).symm.trans hf) |>.symm
      obtain rfl : fn = Tryd.f4 := (Option.some.inj (Tryd.func4.symm.trans hfn)).symm
      exact ⟨by kernel_rfl, fun j t ht => by
        have hm : t ∈ Tryd.f4.params.toList := by simpa using Array.mem_of_getElem? ht
        have hall : (Tryd.f4.params.toList.all fun u => !Tryd.prog.wantsStandIn u) = true := by kernel_rfl
        exact (show Tryd.prog.wantsStandIn t = false by simpa using List.all_eq_true.1 hall t hm)⟩)
    (by kernel_rfl)
#print axioms card4
end Go.Proofs.YtopnlllipkockaaDoor
