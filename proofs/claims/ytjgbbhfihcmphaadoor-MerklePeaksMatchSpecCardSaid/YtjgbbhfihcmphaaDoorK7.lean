/- For all peaks with at most 50 tops, well-formed or not, and a digest: Append and Top return what the specification returns (the statement MerklePeaksMatchSpec). Conditions: those of the given statement, none added. -/
import Derived.Test.YtjgbbhfihcmphaaDoorM7
set_option linter.all false
set_option maxRecDepth 100000
namespace Go.Proofs.YtjgbbhfihcmphaaDoor
open Go Go.Cn Go.RowKit Go.ChangeShapes Go.WideShapes
theorem app7 {W : World} {args : Array Value} (hx : laidMetH Tryd.prog laidA W) (hs : args.size = Tryd.f7.params.size) (hd : ∀ (j : Nat) (t : TypeId) (v : Value), Tryd.f7.params[j]? = some t → args[j]? = some v → DatS Tryd.prog (abs W) t v) :
  App Tryd.prog (.func 7) #[] args (abs W) fun v σ' => Old (abs W) σ' ∧ v = .bool true := by
 have h3 : args.size = 2 := hs
 obtain ⟨a, b, rfl⟩ : ∃ a b, args = #[a, b] := by
  match args, h3 with
  |⟨[a, b]⟩, _ => exact ⟨a, b, rfl⟩
 obtain ⟨na, ua, Ta, rfl, wa, ia⟩ := dat_peaks (hd 0 51 a rfl rfl)
 obtain ⟨db, rfl, lb⟩ := dat_dig (hd 1 31 b rfl rfl)
 exact law7 wa ia lb (met_A hx).1 (met_A hx).2.1 (met_A hx).2.2
set_option maxRecDepth 100000 in
theorem lifted7 (os : Os) (started : os.Started) (H : Type) (enc : TypeId × Value → H) :
  ReturnsInHanded {} Tryd.checked os 7 .any (fun w args => (Rows.merklePeaksMatchSpecSpec.pre enc Tryd.prog Tryd.f7 [] false w args ∧ laidMetH Tryd.prog laidA w) ∧ sizedMet enc Tryd.prog Tryd.f7 (OpenSpec.ofChange Rows.merklePeaksMatchSpecSpec) false w args)
   (Rows.merklePeaksMatchSpecSpec.post enc Tryd.prog Tryd.f7 false true false false) :=
 law_laid_sized (C := Tryd.checked) (g := 20) (tb := 4) (X := fun w => laidMetH Tryd.prog laidA w) (fun _ _ hh h => h.of_heap hh) own started (by kernel_rfl) Tryd.func7 rfl (by kernel_rfl) laidOut (by kernel_rfl) (by kernel_rfl) rfl
  (fun ds hds => match ds, hds with | [_, _], _ => ⟨rfl, rfl, rfl⟩) rfl Tryd.underlying4
  (ChangeSpec.witness_shaped (enc := enc) (C := Tryd.checked) (os := os) (X := fun w _ => laidMetH Tryd.prog laidA w) false (World.laidAll Tryd.prog os laidA) #[pkZ, digZ] 20 (World.laidAll_os _ _ _) (World.shaped_of_ZipB (by kernel_rfl) (by kernel_rfl)) (by kernel_rfl) (by kernel_rfl) (by kernel_rfl) (door_metA os _))
  globs (fun _ _ hx hs hd => app7 hx hs hd)
theorem said7 : Rows.MerklePeaksMatchSpecSaid :=
 OpenClaim.holds_of_wide 7 Tryd.f7 rfl rfl rfl rfl rfl rfl rfl ⟨rfl, rfl, rfl, rfl, rfl⟩ rfl rfl rfl rfl rfl (by kernel_rfl) Tryd.func7 (by kernel_rfl)
  (of_decide_eq_true (by kernel_rfl)) (by unfold Func.isWrapper; first | (rw [if_pos (by decide +kernel)]; kernel_rfl) | (rw [if_neg (by decide +kernel)]; exact ⟨rfl, rfl⟩))
  (fun os started H enc _ => lifted7 os started H enc)
theorem card7 : Rows.MerklePeaksMatchSpecCardSaid :=
 Claim7.holds_tied_plain_at .later [] [.data, .data, .data, .data] true (true, "aa056ab1adb3d494725e22a9638ad7c2f051c002b66b5426cb43de62773e3146") false
  said7 (fun _ h => by cases h) (by kernel_rfl) (fun _ h => by cases h) merklePeaksMatchSpec_row_tie rfl ⟨rfl, rfl⟩ (by kernel_rfl) rfl
  (fun f fn hf hfn => by
   obtain rfl : f = 7 := Option.some.inj ((show Tryd.prog.funcNamed "simulacrum/simulacrumlaw03.MerklePeaksMatchSpec" = some 7 by kernel_rfl).symm.trans hf) |>.symm
   obtain rfl : fn = Tryd.f7 := (Option.some.inj (Tryd.func7.symm.trans hfn)).symm
   exact ⟨by kernel_rfl, fun j t ht => by
    have hm : t ∈ Tryd.f7.params.toList := by simpa using Array.mem_of_getElem? ht
    have hall : (Tryd.f7.params.toList.all fun u => !Tryd.prog.wantsStandIn u) = true := by kernel_rfl
    exact (show Tryd.prog.wantsStandIn t = false by simpa using List.all_eq_true.1 hall t hm)⟩)
  (by kernel_rfl)
#print axioms card7
end Go.Proofs.YtjgbbhfihcmphaaDoor
