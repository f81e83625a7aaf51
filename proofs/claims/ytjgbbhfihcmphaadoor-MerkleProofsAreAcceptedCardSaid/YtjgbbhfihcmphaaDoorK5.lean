/- For every list of 1 to 40 digests, a position of it, an m, and a choice of positions: the checks accept the proofs; CheckConsistency refuses another root of all, if m is not 0, and another root of the first m elements, if m is not a power of 2 that is less than the number of elements (the statement MerkleProofsAreAccepted). Conditions: those of the given statement, none added. -/
import Derived.Test.YtjgbbhfihcmphaaDoorM5
set_option linter.all false
set_option maxRecDepth 100000
namespace Go.Proofs.YtjgbbhfihcmphaaDoor
open Go Go.Cn Go.RowKit Go.ChangeShapes Go.WideShapes
theorem app5 {W : World} {args : Array Value} (hx : laidMetH Tryd.prog laidA W) (hs : args.size = Tryd.f5.params.size) (hd : ∀ (j : Nat) (t : TypeId) (v : Value), Tryd.f5.params[j]? = some t → args[j]? = some v → DatS Tryd.prog (abs W) t v) :
  App Tryd.prog (.func 5) #[] args (abs W) fun v σ' => Old (abs W) σ' ∧ v = .bool true := by
 have h3 : args.size = 5 := hs
 obtain ⟨a, b, c, d, e, rfl⟩ : ∃ a b c d e, args = #[a, b, c, d, e] := by
  match args, h3 with
  |⟨[a, b, c, d, e]⟩, _ => exact ⟨a, b, c, d, e, rfl⟩
 obtain ⟨La, wa, na⟩ := dat_digs (hd 0 22 a rfl rfl)
 obtain ⟨nb, rfl, pb, qb⟩ := dat_u8 (dats_dat (hd 1 5 b rfl rfl))
 obtain ⟨nc, rfl, pc, qc⟩ := dat_u8 (dats_dat (hd 2 5 c rfl rfl))
 obtain ⟨nd, rfl, pd, qd⟩ := dat_u64 (dats_dat (hd 3 42 d rfl rfl))
 obtain ⟨de, rfl, le⟩ := dat_dig (hd 4 31 e rfl rfl)
 exact law5 wa ⟨pb, qb⟩ ⟨pc, qc⟩ ⟨pd, qd⟩ le (met_A hx).1 (met_A hx).2.1 (met_A hx).2.2
set_option maxRecDepth 100000 in
theorem lifted5 (os : Os) (started : os.Started) (H : Type) (enc : TypeId × Value → H) :
  ReturnsInHanded {} Tryd.checked os 5 .any (fun w args => (Rows.merkleProofsAreAcceptedSpec.pre enc Tryd.prog Tryd.f5 [] false w args ∧ laidMetH Tryd.prog laidA w) ∧ sizedMet enc Tryd.prog Tryd.f5 (OpenSpec.ofChange Rows.merkleProofsAreAcceptedSpec) false w args)
   (Rows.merkleProofsAreAcceptedSpec.post enc Tryd.prog Tryd.f5 false true false false) :=
 law_laid_sized (C := Tryd.checked) (g := 20) (tb := 4) (X := fun w => laidMetH Tryd.prog laidA w) (fun _ _ hh h => h.of_heap hh) own started (by kernel_rfl) Tryd.func5 rfl (by kernel_rfl) laidOut (by kernel_rfl) (by kernel_rfl) rfl
  (fun ds hds => match ds, hds with | [_, _, _, _, _], _ => ⟨rfl, rfl, rfl⟩) rfl Tryd.underlying4
  (ChangeSpec.witness_shaped (enc := enc) (C := Tryd.checked) (os := os) (X := fun w _ => laidMetH Tryd.prog laidA w) false (World.laidAll Tryd.prog os laidA) #[.slice none 0 0, .int .u8 0, .int .u8 0, .int .u64 0, digZ] 20 (World.laidAll_os _ _ _) (World.shaped_of_ZipB (by kernel_rfl) (by kernel_rfl)) (by kernel_rfl) (by kernel_rfl) (by kernel_rfl) (door_metA os _))
  globs (fun _ _ hx hs hd => app5 hx hs hd)
theorem said5 : Rows.MerkleProofsAreAcceptedSaid :=
 OpenClaim.holds_of_wide 5 Tryd.f5 rfl rfl rfl rfl rfl rfl rfl ⟨rfl, rfl, rfl, rfl, rfl⟩ rfl rfl rfl rfl rfl (by kernel_rfl) Tryd.func5 (by kernel_rfl)
  (of_decide_eq_true (by kernel_rfl)) (by unfold Func.isWrapper; first | (rw [if_pos (by decide +kernel)]; kernel_rfl) | (rw [if_neg (by decide +kernel)]; exact ⟨rfl, rfl⟩))
  (fun os started H enc _ => lifted5 os started H enc)
theorem card5 : Rows.MerkleProofsAreAcceptedCardSaid :=
 Claim7.holds_tied_plain_at .later [] [.data, .data, .data, .data] true (true, "aa056ab1adb3d494725e22a9638ad7c2f051c002b66b5426cb43de62773e3146") false
  said5 (fun _ h => by cases h) (by kernel_rfl) (fun _ h => by cases h) merkleProofsAreAccepted_row_tie rfl ⟨rfl, rfl⟩ (by kernel_rfl) rfl
  (fun f fn hf hfn => by
   obtain rfl : f = 5 := Option.some.inj ((show Tryd.prog.funcNamed "simulacrum/simulacrumlaw03.MerkleProofsAreAccepted" = some 5 by kernel_rfl).symm.trans hf) |>.symm
   obtain rfl : fn = Tryd.f5 := (Option.some.inj (Tryd.func5.symm.trans hfn)).symm
   exact ⟨by kernel_rfl, fun j t ht => by
    have hm : t ∈ Tryd.f5.params.toList := by simpa using Array.mem_of_getElem? ht
    have hall : (Tryd.f5.params.toList.all fun u => !Tryd.prog.wantsStandIn u) = true := by kernel_rfl
    exact (show Tryd.prog.wantsStandIn t = false by simpa using List.all_eq_true.1 hall t hm)⟩)
  (by kernel_rfl)
#print axioms card5
end Go.Proofs.YtjgbbhfihcmphaaDoor
