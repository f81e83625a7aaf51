/- For every list of at most 40 digests, every position and every m: Root, Inclusion, Consistency, and Leaf and Node of strings and digests, return what the specification returns (the statement MerkleProofsMatchSpec). Conditions: those of the given statement, none added. -/
import Derived.Test.YtjgbbhfihcmphaaDoorM3
set_option linter.all false
set_option maxRecDepth 100000
namespace Go.Proofs.YtjgbbhfihcmphaaDoor
open Go Go.Cn Go.RowKit Go.ChangeShapes Go.WideShapes
theorem app3 {W : World} {args : Array Value} (hx : laidMetH Tryd.prog laidA W) (hs : args.size = Tryd.f3.params.size) (hd : ∀ (j : Nat) (t : TypeId) (v : Value), Tryd.f3.params[j]? = some t → args[j]? = some v → DatS Tryd.prog (abs W) t v) :
  App Tryd.prog (.func 3) #[] args (abs W) fun v σ' => Old (abs W) σ' ∧ v = .bool true := by
 have h3 : args.size = 4 := hs
 obtain ⟨a, b, c, d, rfl⟩ : ∃ a b c d, args = #[a, b, c, d] := by
  match args, h3 with
  |⟨[a, b, c, d]⟩, _ => exact ⟨a, b, c, d, rfl⟩
 obtain ⟨La, wa, na⟩ := dat_digs (hd 0 22 a rfl rfl)
 obtain ⟨nb, rfl, pb, qb⟩ := dat_int (dats_dat (hd 1 3 b rfl rfl))
 obtain ⟨nc, rfl, pc, qc⟩ := dat_int (dats_dat (hd 2 3 c rfl rfl))
 obtain ⟨td, rfl, pd⟩ := dat_str (dats_dat (hd 3 9 d rfl rfl))
 exact law3 wa (met_A hx).1 (met_A hx).2.1 (met_A hx).2.2
set_option maxRecDepth 100000 in
theorem lifted3 (os : Os) (started : os.Started) (H : Type) (enc : TypeId × Value → H) :
  ReturnsInHanded {} Tryd.checked os 3 .any (fun w args => (Rows.merkleProofsMatchSpecSpec.pre enc Tryd.prog Tryd.f3 [] false w args ∧ laidMetH Tryd.prog laidA w) ∧ sizedMet enc Tryd.prog Tryd.f3 (OpenSpec.ofChange Rows.merkleProofsMatchSpecSpec) false w args)
   (Rows.merkleProofsMatchSpecSpec.post enc Tryd.prog Tryd.f3 false true false false) :=
 law_laid_sized (C := Tryd.checked) (g := 20) (tb := 4) (X := fun w => laidMetH Tryd.prog laidA w) (fun _ _ hh h => h.of_heap hh) own started (by kernel_rfl) Tryd.func3 rfl (by kernel_rfl) laidOut (by kernel_rfl) (by kernel_rfl) rfl
  (fun ds hds => match ds, hds with | [_, _, _, _], _ => ⟨rfl, rfl, rfl⟩) rfl Tryd.underlying4
  (ChangeSpec.witness_shaped (enc := enc) (C := Tryd.checked) (os := os) (X := fun w _ => laidMetH Tryd.prog laidA w) false (World.laidAll Tryd.prog os laidA) #[.slice none 0 0, .int .i64 0, .int .i64 0, .string ⟨#[]⟩] 20 (World.laidAll_os _ _ _) (World.shaped_of_ZipB (by kernel_rfl) (by kernel_rfl)) (by kernel_rfl) (by kernel_rfl) (by kernel_rfl) (door_metA os _))
  globs (fun _ _ hx hs hd => app3 hx hs hd)
theorem said3 : Rows.MerkleProofsMatchSpecSaid :=
 OpenClaim.holds_of_wide 3 Tryd.f3 rfl rfl rfl rfl rfl rfl rfl ⟨rfl, rfl, rfl, rfl, rfl⟩ rfl rfl rfl rfl rfl (by kernel_rfl) Tryd.func3 (by kernel_rfl)
  (of_decide_eq_true (by kernel_rfl)) (by unfold Func.isWrapper; first | (rw [if_pos (by decide +kernel)]; kernel_rfl) | (rw [if_neg (by decide +kernel)]; exact ⟨rfl, rfl⟩))
  (fun os started H enc _ => lifted3 os started H enc)
theorem card3 : Rows.MerkleProofsMatchSpecCardSaid :=
 Claim7.holds_tied_plain_at .later [] [.data, .data, .data, .data] true (true, "aa056ab1adb3d494725e22a9638ad7c2f051c002b66b5426cb43de62773e3146") false
  said3 (fun _ h => by cases h) (by kernel_rfl) (fun _ h => by cases h) merkleProofsMatchSpec_row_tie rfl ⟨rfl, rfl⟩ (by kernel_rfl) rfl
  (fun f fn hf hfn => by
   obtain rfl : f = 3 := Option.some.inj ((show Tryd.prog.funcNamed "simulacrum/simulacrumlaw03.MerkleProofsMatchSpec" = some 3 by kernel_rfl).symm.trans hf) |>.symm
   obtain rfl : fn = Tryd.f3 := (Option.some.inj (Tryd.func3.symm.trans hfn)).symm
   exact ⟨by kernel_rfl, fun j t ht => by
    have hm : t ∈ Tryd.f3.params.toList := by simpa using Array.mem_of_getElem? ht
    have hall : (Tryd.f3.params.toList.all fun u => !Tryd.prog.wantsStandIn u) = true := by kernel_rfl
    exact (show Tryd.prog.wantsStandIn t = false by simpa using List.all_eq_true.1 hall t hm)⟩)
  (by kernel_rfl)
#print axioms card3
end Go.Proofs.YtjgbbhfihcmphaaDoor
