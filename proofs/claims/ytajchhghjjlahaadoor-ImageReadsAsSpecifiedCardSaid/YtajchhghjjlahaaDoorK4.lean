/- For every memory of at most 80 pages, an entry, at most 80 sectors, and at most 20000 bytes: Of and Decode return what the specification returns (the statement ImageReadsAsSpecified). Conditions: those of the given statement, none added. -/
import Derived.Test.YtajchhghjjlahaaDoorM4
set_option linter.all false
set_option maxRecDepth 100000
namespace Go.Proofs.YtajchhghjjlahaaDoor
open Go Go.Cn Go.RowKit Go.ChangeShapes Go.WideShapes
theorem app4 {W : World} {args : Array Value} (hx : laidMetH Tryd.prog laidA W) (hs : args.size = Tryd.f4.params.size) (hd : ∀ (j : Nat) (t : TypeId) (v : Value), Tryd.f4.params[j]? = some t → args[j]? = some v → DatS Tryd.prog (abs W) t v) :
  App Tryd.prog (.func 4) #[] args (abs W) fun v σ' => Old (abs W) σ' ∧ v = .bool true := by
 have h3 : args.size = 4 := hs
 obtain ⟨a, b, c, d, rfl⟩ : ∃ a b c d, args = #[a, b, c, d] := by
  match args, h3 with
  |⟨[a, b, c, d]⟩, _ => exact ⟨a, b, c, d, rfl⟩
 obtain ⟨_, _, _, rfl, wa, na⟩ := dat_mem (hd 0 29 a rfl rfl)
 obtain ⟨nb, rfl, pb, qb⟩ := dat_int (dats_dat (hd 1 3 b rfl rfl))
 obtain ⟨_, wc, nc⟩ := dat_pages (hd 2 23 c rfl rfl)
 obtain ⟨ld, gd, wd⟩ := dat_bytes (dats_dat (hd 3 45 d rfl rfl))
 exact law4 wa na ⟨pb, qb⟩ wc nc gd wd (met_A hx)
set_option maxRecDepth 100000 in
theorem lifted4 (os : Os) (started : os.Started) (H : Type) (enc : TypeId × Value → H) :
  ReturnsInHanded {} Tryd.checked os 4 .any (fun w args => (Rows.imageReadsAsSpecifiedSpec.pre enc Tryd.prog Tryd.f4 [] false w args ∧ laidMetH Tryd.prog laidA w) ∧ sizedMet enc Tryd.prog Tryd.f4 (OpenSpec.ofChange Rows.imageReadsAsSpecifiedSpec) false w args)
   (Rows.imageReadsAsSpecifiedSpec.post enc Tryd.prog Tryd.f4 false true false false) :=
 law_laid_sized (C := Tryd.checked) (g := 20) (tb := 4) (X := fun w => laidMetH Tryd.prog laidA w) (fun _ _ hh h => h.of_heap hh) own started (by kernel_rfl) Tryd.func4 rfl (by kernel_rfl) laidOut (by kernel_rfl) (by kernel_rfl) rfl
  (fun ds hds => match ds, hds with | [_, _, _, _], _ => ⟨rfl, rfl, rfl⟩) rfl Tryd.underlying4
  (ChangeSpec.witness_shaped (enc := enc) (C := Tryd.checked) (os := os) (X := fun w _ => laidMetH Tryd.prog laidA w) false (World.laidAll Tryd.prog os laidA) #[memZ, .int .i64 0, .slice none 0 0, .slice none 0 0] 20 (World.laidAll_os _ _ _) (World.shaped_of_ZipB (by kernel_rfl) (by kernel_rfl)) (by kernel_rfl) (by kernel_rfl) (by kernel_rfl) (door_metA os _))
  globs (fun _ _ hx hs hd => app4 hx hs hd)
theorem said4 : Rows.ImageReadsAsSpecifiedSaid :=
 OpenClaim.holds_of_wide 4 Tryd.f4 rfl rfl rfl rfl rfl rfl rfl ⟨rfl, rfl, rfl, rfl, rfl⟩ rfl rfl rfl rfl rfl (by kernel_rfl) Tryd.func4 (by kernel_rfl)
  (of_decide_eq_true (by kernel_rfl)) (by unfold Func.isWrapper; first | (rw [if_pos (by decide +kernel)]; kernel_rfl) | (rw [if_neg (by decide +kernel)]; exact ⟨rfl, rfl⟩))
  (fun os started H enc _ => lifted4 os started H enc)
theorem card4 : Rows.ImageReadsAsSpecifiedCardSaid :=
 Claim7.holds_tied_plain_at .later [] [.data, .data, .pinned] true (true, "df4de7e760a39aded678bdcf274863eb37b560410a29a29bb8e2199c2a01bf6d") false
  said4 (fun _ h => by cases h) (by kernel_rfl) (fun _ h => by cases h) imageReadsAsSpecified_row_tie rfl ⟨rfl, rfl⟩ (by kernel_rfl) rfl
  (fun f fn hf hfn => by
   obtain rfl : f = 4 := Option.some.inj ((show Tryd.prog.funcNamed "simulacrum/simulacrumlaw09.ImageReadsAsSpecified" = some 4 by kernel_rfl).symm.trans hf) |>.symm
   obtain rfl : fn = Tryd.f4 := (Option.some.inj (Tryd.func4.symm.trans hfn)).symm
   exact ⟨by kernel_rfl, fun j t ht => by
    have hm : t ∈ Tryd.f4.params.toList := by simpa using Array.mem_of_getElem? ht
    have hall : (Tryd.f4.params.toList.all fun u => !Tryd.prog.wantsStandIn u) = true := by kernel_rfl
    exact (show Tryd.prog.wantsStandIn t = false by simpa using List.all_eq_true.1 hall t hm)⟩)
  (by kernel_rfl)
#print axioms card4
end Go.Proofs.YtajchhghjjlahaaDoor
