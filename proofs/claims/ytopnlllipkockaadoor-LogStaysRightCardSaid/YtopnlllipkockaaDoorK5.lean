/- For at most 40 steps, in which entries are appended, or refused, segments sealed, and the log cut: it stays right, all seals are those of the key, each log that goes on follows the one before, and what was cut is followed by it (the statement LogStaysRight). Conditions: those of the given statement, none added. -/
import Derived.Test.YtopnlllipkockaaDoorM5
set_option linter.all false
set_option linter.unusedSimpArgs false
set_option maxRecDepth 100000
namespace Go.Proofs.YtopnlllipkockaaDoor
open Go Go.Cn Go.RowKit Go.ChangeShapes Go.WideShapes

theorem app5 {W : World} {args : Array Value} (hx : laidMetH Tryd.prog laidA W) (hs : args.size = Tryd.f5.params.size) (hd : ∀ (j : Nat) (t : TypeId) (v : Value), Tryd.f5.params[j]? = some t → args[j]? = some v → Dat Tryd.prog (abs W) t v) :
    App Tryd.prog (.func 5) #[] args (abs W) fun v σ' => Old (abs W) σ' ∧ v = .bool true := by
  have h3 : args.size = 4 := hs
  obtain ⟨a, b, c, d, rfl⟩ : ∃ a b c d, args = #[a, b, c, d] := by
    match args, h3 with
    | ⟨[a, b, c, d]⟩, _ => exact ⟨a, b, c, d, rfl⟩
  obtain ⟨da, rfl, la⟩ := dat_dig (hd 0 23 a rfl rfl)
  obtain ⟨nb, rfl, pb, qb⟩ := dat_u8 (hd 1 5 b rfl rfl)
  obtain ⟨lc, gc, wc⟩ := dat_steps (hd 2 55 c rfl rfl)
  obtain ⟨td, rfl, pd⟩ := dat_str (hd 3 9 d rfl rfl)
  exact law5 la pb qb wc gc pd (met_A hx)

set_option maxRecDepth 100000 in
theorem lifted5 (os : Os) (started : os.Started) (H : Type) (enc : TypeId × Value → H) :
    ReturnsInHanded {} Tryd.checked os 5 .any (fun w args => (Rows.logStaysRightSpec.pre enc Tryd.prog Tryd.f5 [] false w args ∧ laidMetH Tryd.prog laidA w) ∧ sizedMet enc Tryd.prog Tryd.f5 (OpenSpec.ofChange Rows.logStaysRightSpec) false w args)
      (Rows.logStaysRightSpec.post enc Tryd.prog Tryd.f5 false true false false) :=
  law_laid_shaped (C := Tryd.checked) (g := 20) (tb := 4) (X := fun w => laidMetH Tryd.prog laidA w) (fun _ _ hh h => h.of_heap hh) own started (by kernel_rfl) Tryd.func5 rfl (by kernel_rfl) laidOut (by kernel_rfl) (by kernel_rfl) rfl
    (fun ds hds => match ds, hds with | [_, _, _, _], _ => ⟨rfl, rfl, rfl⟩) rfl Tryd.underlying4
    (ChangeSpec.witness_shaped (enc := enc) (C := Tryd.checked) (os := os) (X := fun w _ => laidMetH Tryd.prog laidA w) false (World.doorLaid Tryd.prog 400 os) #[digZ, .int .u8 0, .slice none 0 0, .string ⟨#[]⟩] 20 rfl (World.shaped_of_RefB (by kernel_rfl) (by kernel_rfl)) (by kernel_rfl) (by kernel_rfl) (by kernel_rfl) (door_metA os _))
    globs (fun _ _ hx hs hd => app5 hx hs hd)

theorem said5 : Rows.LogStaysRightSaid :=
  OpenClaim.holds_of_wide 5 Tryd.f5 rfl rfl rfl rfl rfl rfl rfl ⟨rfl, rfl, rfl, rfl, rfl⟩ rfl rfl rfl rfl rfl (by kernel_rfl) Tryd.func5 (by kernel_rfl)
    (of_decide_eq_true (by kernel_rfl)) (by unfold Func.isWrapper; first | (rw [if_pos (by decide +kernel)]; kernel_rfl) | (rw [if_neg (by decide +kernel)]; exact ⟨rfl, rfl⟩))
    (fun os started H enc _ => lifted5 os started H enc)

theorem card5 : Rows.LogStaysRightCardSaid :=
  Claim7.holds_tied_plain_at .later [] [.data] true (true, "f8b715c6edba154dcdbffd225845b718db2e98ca3359b4a06897702122d7ceb9") false
    said5 (fun _ h => by cases h) (by kernel_rfl) (fun _ h => by cases h) logStaysRight_row_tie rfl ⟨rfl, rfl⟩ (by kernel_rfl) rfl
    (fun f fn hf hfn => by
      obtain rfl : f = 5 := Option.some.inj ((show Tryd.prog.funcNamed "simulacrum/simulacrumlaw29.LogStaysRight" = some 5 by kernel_rfl).symm.trans hf) |>.symm
      obtain rfl : fn = Tryd.f5 := (Option.some.inj (Tryd.func5.symm.trans hfn)).symm
      exact ⟨by kernel_rfl, fun j t ht => by
        have hm : t ∈ Tryd.f5.params.toList := by simpa using Array.mem_of_getElem? ht
        have hall : (Tryd.f5.params.toList.all fun u => !Tryd.prog.wantsStandIn u) = true := by kernel_rfl
        exact (show Tryd.prog.wantsStandIn t = false by simpa using List.all_eq_true.1 hall t hm)⟩)
    (by kernel_rfl)
#print axioms card5
end Go.Proofs.YtopnlllipkockaaDoor
