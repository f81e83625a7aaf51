/- For every image with at most 80 segments of at most 12000 bytes together, and 80 sectors, right or not, and a number: Check, Load, CPUs, Encode and Digest return what the specification returns (the statement ImageLoadsAsSpecified). Conditions: those of the given statement, none added. -/
import Derived.Test.YtajchhghjjlahaaDoorM3
set_option linter.all false
set_option maxRecDepth 100000
namespace Go.Proofs.YtajchhghjjlahaaDoor
open Go Go.Cn Go.RowKit Go.ChangeShapes Go.WideShapes
theorem app3 {W : World} {args : Array Value} (hx : laidMetH Tryd.prog laidB W) (hs : args.size = Tryd.f3.params.size) (hd : ∀ (j : Nat) (t : TypeId) (v : Value), Tryd.f3.params[j]? = some t → args[j]? = some v → DatS Tryd.prog (abs W) t v) :
  App Tryd.prog (.func 3) #[] args (abs W) fun v σ' => Old (abs W) σ' ∧ v = .bool true := by
 have h3 : args.size = 2 := hs
 obtain ⟨a, b, rfl⟩ : ∃ a b, args = #[a, b] := by
  match args, h3 with
  |⟨[a, b]⟩, _ => exact ⟨a, b, rfl⟩
 obtain ⟨_, Ia, _, _, _, _, rfl, wa⟩ := dat_image (hd 0 25 a rfl rfl)
 obtain ⟨nb, rfl, pb, qb⟩ := dat_int (dats_dat (hd 1 3 b rfl rfl))
 exact law3 wa ⟨pb, qb⟩ (met_B hx).1 (met_B hx).2
set_option maxRecDepth 100000 in
theorem lifted3 (os : Os) (started : os.Started) (H : Type) (enc : TypeId × Value → H) :
  ReturnsInHanded {} Tryd.checked os 3 .any (fun w args => (Rows.imageLoadsAsSpecifiedSpec.pre enc Tryd.prog Tryd.f3 [] false w args ∧ laidMetH Tryd.prog laidB w) ∧ sizedMet enc Tryd.prog Tryd.f3 (OpenSpec.ofChange Rows.imageLoadsAsSpecifiedSpec) false w args)
   (Rows.imageLoadsAsSpecifiedSpec.post enc Tryd.prog Tryd.f3 false true false false) :=
 law_laid_sized (C := Tryd.checked) (g := 20) (tb := 4) (X := fun w => laidMetH Tryd.prog laidB w) (fun _ _ hh h => h.of_heap hh) own started (by kernel_rfl) Tryd.func3 rfl (by kernel_rfl) laidOut (by kernel_rfl) (by kernel_rfl) rfl
  (fun ds hds => match ds, hds with | [_, _], _ => ⟨rfl, rfl, rfl⟩) rfl Tryd.underlying4
  (ChangeSpec.witness_shaped (enc := enc) (C := Tryd.checked) (os := os) (X := fun w _ => laidMetH Tryd.prog laidB w) false (World.laidAll Tryd.prog os laidB) #[imgZ, .int .i64 0] 20 (World.laidAll_os _ _ _) (World.shaped_of_ZipB (by kernel_rfl) (by kernel_rfl)) (by kernel_rfl) (by kernel_rfl) (by kernel_rfl) (door_metB os _))
  globs (fun _ _ hx hs hd => app3 hx hs hd)
theorem said3 : Rows.ImageLoadsAsSpecifiedSaid :=
 OpenClaim.holds_of_wide 3 Tryd.f3 rfl rfl rfl rfl rfl rfl rfl ⟨rfl, rfl, rfl, rfl, rfl⟩ rfl rfl rfl rfl rfl (by kernel_rfl) Tryd.func3 (by kernel_rfl)
  (of_decide_eq_true (by kernel_rfl)) (by unfold Func.isWrapper; first | (rw [if_pos (by decide +kernel)]; kernel_rfl) | (rw [if_neg (by decide +kernel)]; exact ⟨rfl, rfl⟩))
  (fun os started H enc _ => lifted3 os started H enc)
theorem card3 : Rows.ImageLoadsAsSpecifiedCardSaid :=
 Claim7.holds_tied_plain_at .later [] [.data, .data, .data, .pinned] true (true, "df4de7e760a39aded678bdcf274863eb37b560410a29a29bb8e2199c2a01bf6d") false
  said3 (fun _ h => by cases h) (by kernel_rfl) (fun _ h => by cases h) imageLoadsAsSpecified_row_tie rfl ⟨rfl, rfl⟩ (by kernel_rfl) rfl
  (fun f fn hf hfn => by
   obtain rfl : f = 3 := Option.some.inj ((show Tryd.prog.funcNamed "simulacrum/simulacrumlaw09.ImageLoadsAsSpecified" = some 3 by kernel_rfl).symm.trans hf) |>.symm
   obtain rfl : fn = Tryd.f3 := (Option.some.inj (Tryd.func3.symm.trans hfn)).symm
   exact ⟨by kernel_rfl, fun j t ht => by
    have hm : t ∈ Tryd.f3.params.toList := by simpa using Array.mem_of_getElem? ht
    have hall : (Tryd.f3.params.toList.all fun u => !Tryd.prog.wantsStandIn u) = true := by kernel_rfl
    exact (show Tryd.prog.wantsStandIn t = false by simpa using List.all_eq_true.1 hall t hm)⟩)
  (by kernel_rfl)
#print axioms card3
end Go.Proofs.YtajchhghjjlahaaDoor
