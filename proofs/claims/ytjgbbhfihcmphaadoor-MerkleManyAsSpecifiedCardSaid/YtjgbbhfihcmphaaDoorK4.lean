/- For every list of at most 40 digests, at most 12 places, whatever they are, and any number, digests and path of at most 60 digests: Many and CheckMany return what the specification returns (the statement MerkleManyAsSpecified). Conditions: those of the given statement, none added. -/
import Derived.Test.YtjgbbhfihcmphaaDoorM4
set_option linter.all false
set_option maxRecDepth 100000
namespace Go.Proofs.YtjgbbhfihcmphaaDoor
open Go Go.Cn Go.RowKit Go.ChangeShapes Go.WideShapes
theorem app4 {W : World} {args : Array Value} (hx : laidMetH Tryd.prog laidA W) (hs : args.size = Tryd.f4.params.size) (hd : ∀ (j : Nat) (t : TypeId) (v : Value), Tryd.f4.params[j]? = some t → args[j]? = some v → DatS Tryd.prog (abs W) t v) :
  App Tryd.prog (.func 4) #[] args (abs W) fun v σ' => Old (abs W) σ' ∧ v = .bool true := by
 have h3 : args.size = 6 := hs
 obtain ⟨a, b, c, d, e, f, rfl⟩ : ∃ a b c d e f, args = #[a, b, c, d, e, f] := by
  match args, h3 with
  |⟨[a, b, c, d, e, f]⟩, _ => exact ⟨a, b, c, d, e, f, rfl⟩
 obtain ⟨La, wa, na⟩ := dat_digs (hd 0 22 a rfl rfl)
 obtain ⟨Qb, wb, nb, rb⟩ := dat_places (hd 1 37 b rfl rfl)
 obtain ⟨nc, rfl, pc, qc⟩ := dat_int (dats_dat (hd 2 3 c rfl rfl))
 obtain ⟨Ld, wd, nd⟩ := dat_digs (hd 3 22 d rfl rfl)
 obtain ⟨Le, we, ne⟩ := dat_digs (hd 4 22 e rfl rfl)
 obtain ⟨df, rfl, lf⟩ := dat_dig (hd 5 31 f rfl rfl)
 exact law4 wa wb wd we lf (met_A hx).1 (met_A hx).2.1 (met_A hx).2.2
set_option maxRecDepth 100000 in
theorem lifted4 (os : Os) (started : os.Started) (H : Type) (enc : TypeId × Value → H) :
  ReturnsInHanded {} Tryd.checked os 4 .any (fun w args => (Rows.merkleManyAsSpecifiedSpec.pre enc Tryd.prog Tryd.f4 [] false w args ∧ laidMetH Tryd.prog laidA w) ∧ sizedMet enc Tryd.prog Tryd.f4 (OpenSpec.ofChange Rows.merkleManyAsSpecifiedSpec) false w args)
   (Rows.merkleManyAsSpecifiedSpec.post enc Tryd.prog Tryd.f4 false true false false) :=
 law_laid_sized (C := Tryd.checked) (g := 20) (tb := 4) (X := fun w => laidMetH Tryd.prog laidA w) (fun _ _ hh h => h.of_heap hh) own started (by kernel_rfl) Tryd.func4 rfl (by kernel_rfl) laidOut (by kernel_rfl) (by kernel_rfl) rfl
  (fun ds hds => match ds, hds with | [_, _, _, _, _, _], _ => ⟨rfl, rfl, rfl⟩) rfl Tryd.underlying4
  (ChangeSpec.witness_shaped (enc := enc) (C := Tryd.checked) (os := os) (X := fun w _ => laidMetH Tryd.prog laidA w) false (World.laidAll Tryd.prog os laidA) #[.slice none 0 0, .slice none 0 0, .int .i64 0, .slice none 0 0, .slice none 0 0, digZ] 20 (World.laidAll_os _ _ _) (World.shaped_of_ZipB (by kernel_rfl) (by kernel_rfl)) (by kernel_rfl) (by kernel_rfl) (by kernel_rfl) (door_metA os _))
  globs (fun _ _ hx hs hd => app4 hx hs hd)
theorem said4 : Rows.MerkleManyAsSpecifiedSaid :=
 OpenClaim.holds_of_wide 4 Tryd.f4 rfl rfl rfl rfl rfl rfl rfl ⟨rfl, rfl, rfl, rfl, rfl⟩ rfl rfl rfl rfl rfl (by kernel_rfl) Tryd.func4 (by kernel_rfl)
  (of_decide_eq_true (by kernel_rfl)) (by unfold Func.isWrapper; first | (rw [if_pos (by decide +kernel)]; kernel_rfl) | (rw [if_neg (by decide +kernel)]; exact ⟨rfl, rfl⟩))
  (fun os started H enc _ => lifted4 os started H enc)
theorem card4 : Rows.MerkleManyAsSpecifiedCardSaid :=
 Claim7.holds_tied_plain_at .later [] [.data, .data, .data, .data] true (true, "aa056ab1adb3d494725e22a9638ad7c2f051c002b66b5426cb43de62773e3146") false
  said4 (fun _ h => by cases h) (by kernel_rfl) (fun _ h => by cases h) merkleManyAsSpecified_row_tie rfl ⟨rfl, rfl⟩ (by kernel_rfl) rfl
  (fun f fn hf hfn => by
   obtain rfl : f = 4 := Option.some.inj ((show Tryd.prog.funcNamed "simulacrum/simulacrumlaw03.MerkleManyAsSpecified" = some 4 by kernel_rfl).symm.trans hf) |>.symm
   obtain rfl : fn = Tryd.f4 := (Option.some.inj (Tryd.func4.symm.trans hfn)).symm
   exact ⟨by kernel_rfl, fun j t ht => by
    have hm : t ∈ Tryd.f4.params.toList := by simpa using Array.mem_of_getElem? ht
    have hall : (Tryd.f4.params.toList.all fun u => !Tryd.prog.wantsStandIn u) = true := by kernel_rfl
    exact (show Tryd.prog.wantsStandIn t = false by simpa using List.all_eq_true.1 hall t hm)⟩)
  (by kernel_rfl)
#print axioms card4
end Go.Proofs.YtjgbbhfihcmphaaDoor
