/- For all pieces: the stream to which they are added one by one has the hash of their concatenation, and a stream from which another one is continued is not changed (the statement HashStreamsAgree). Conditions: those of the given statement, none added. -/
import Derived.Test.YtoegoigfbldkoaaDoorHj
set_option linter.all false
set_option linter.unusedSimpArgs false
namespace Go.Proofs.YtoegoigfbldkoaaDoor
open Go Go.Cn Go.RowKit Go.ChangeShapes Go.WideShapes

theorem app12 {W : World} {args : Array Value} (hx : laidMetH Tryd.prog laidA W) (hs : args.size = Tryd.f12.params.size) (hd : ∀ (j : Nat) (t : TypeId) (v : Value), Tryd.f12.params[j]? = some t → args[j]? = some v → Dat Tryd.prog (abs W) t v) :
    App Tryd.prog (.func 12) #[] args (abs W) fun v σ' => Old (abs W) σ' ∧ v = .bool true := by
  have h3 : args.size = 3 := hs
  obtain ⟨a, b, c, rfl⟩ : ∃ a b c, args = #[a, b, c] := by
    match args, h3 with
    | ⟨[a, b, c]⟩, _ => exact ⟨a, b, c, rfl⟩
  obtain ⟨la, ga, wa⟩ := dat_strs (hd 0 26 a rfl rfl)
  obtain ⟨tb, rfl, pb⟩ := dat_str (hd 1 9 b rfl rfl)
  obtain ⟨nc, rfl, pc, qc⟩ := dat_u8 (hd 2 5 c rfl rfl)
  exact law12 wa pc qc (met_A hx).2.1 (met_A hx).2.2

set_option maxRecDepth 100000 in
theorem lifted12 (os : Os) (started : os.Started) (H : Type) (enc : TypeId × Value → H) :
    ReturnsInHanded {} Tryd.checked os 12 .any (fun w args => (Rows.hashStreamsAgreeSpec.pre enc Tryd.prog Tryd.f12 [] false w args ∧ laidMetH Tryd.prog laidA w) ∧ sizedMet enc Tryd.prog Tryd.f12 (OpenSpec.ofChange Rows.hashStreamsAgreeSpec) false w args)
      (Rows.hashStreamsAgreeSpec.post enc Tryd.prog Tryd.f12 false true false false) :=
  law_laid (C := Tryd.checked) (g := 20) (tb := 4) (X := fun w => laidMetH Tryd.prog laidA w) (fun _ _ hh h => h.of_heap hh) own started (by kernel_rfl) Tryd.func12 rfl (by kernel_rfl) laidOut (by kernel_rfl) (by kernel_rfl) rfl
    (fun ds hds => match ds, hds with | [_, _, _], _ => ⟨rfl, rfl, rfl⟩) rfl Tryd.underlying4
    (ChangeSpec.witness_shaped (enc := enc) (C := Tryd.checked) (os := os) (X := fun w _ => laidMetH Tryd.prog laidA w) false (World.doorLaid Tryd.prog 400 os) #[.slice none 0 0, .string ⟨#[]⟩, .int .u8 0] 20 rfl (World.shaped_of_RefB (by kernel_rfl) (by kernel_rfl)) (by kernel_rfl) (by kernel_rfl) (by kernel_rfl) (door_metA os _))
    (fun _ h => (met_A h).1) (fun _ _ hx hs hd => app12 hx hs hd)

theorem said12 : Rows.HashStreamsAgreeSaid :=
  OpenClaim.holds_of_wide 12 Tryd.f12 rfl rfl rfl rfl rfl rfl rfl ⟨rfl, rfl, rfl, rfl, rfl⟩ rfl rfl rfl rfl rfl (by kernel_rfl) Tryd.func12 (by kernel_rfl)
    (of_decide_eq_true (by kernel_rfl)) (by unfold Func.isWrapper; first | (rw [if_pos (by decide +kernel)]; kernel_rfl) | (rw [if_neg (by decide +kernel)]; exact ⟨rfl, rfl⟩))
    (fun os started H enc _ => lifted12 os started H enc)

theorem card12 : Rows.HashStreamsAgreeCardSaid :=
  Claim7.holds_tied_plain_at .later [] [.data, .data] true (true, "42e9cf196ed31d7a2aabbd92432a97f4e9544799b0a4ad1b4255031840fde5eb") false
    said12 (fun _ h => by cases h) (by kernel_rfl) (fun _ h => by cases h) hashStreamsAgree_row_tie rfl ⟨rfl, rfl⟩ (by kernel_rfl) rfl
    (fun f fn hf hfn => by
      obtain rfl : f = 12 := Option.some.inj ((show Tryd.prog.funcNamed "simulacrum/simulacrumlaw02.HashStreamsAgree" = some 12 by kernel_rfl).symm.trans hf) |>.symm
      obtain rfl : fn = Tryd.f12 := (Option.some.inj (Tryd.func12.symm.trans hfn)).symm
      exact ⟨by kernel_rfl, fun j t ht => by
        have hm : t ∈ Tryd.f12.params.toList := by simpa using Array.mem_of_getElem? ht
        have hall : (Tryd.f12.params.toList.all fun u => !Tryd.prog.wantsStandIn u) = true := by kernel_rfl
        exact (show Tryd.prog.wantsStandIn t = false by simpa using List.all_eq_true.1 hall t hm)⟩)
    (by kernel_rfl)
#print axioms card12
end Go.Proofs.YtoegoigfbldkoaaDoor
