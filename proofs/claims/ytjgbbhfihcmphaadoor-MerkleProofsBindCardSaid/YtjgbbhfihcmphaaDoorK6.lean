/- If CheckInclusion accepts two different leaves for the same position, number and root (with paths of at most 60 digests), two of the pairs that are hashed are different, and have the same Node (the statement MerkleProofsBind). Conditions: those of the given statement, none added. -/
import Derived.Test.YtjgbbhfihcmphaaDoorM6
set_option linter.all false
set_option maxRecDepth 100000
namespace Go.Proofs.YtjgbbhfihcmphaaDoor
open Go Go.Cn Go.RowKit Go.ChangeShapes Go.WideShapes
theorem app6 {W : World} {args : Array Value} (hx : laidMetH Tryd.prog laidA W) (hs : args.size = Tryd.f6.params.size) (hd : ∀ (j : Nat) (t : TypeId) (v : Value), Tryd.f6.params[j]? = some t → args[j]? = some v → DatS Tryd.prog (abs W) t v) :
  App Tryd.prog (.func 6) #[] args (abs W) fun v σ' => Old (abs W) σ' ∧ v = .bool true := by
 have h3 : args.size = 7 := hs
 obtain ⟨a, b, c, d, e, f, g, rfl⟩ : ∃ a b c d e f g, args = #[a, b, c, d, e, f, g] := by
  match args, h3 with
  |⟨[a, b, c, d, e, f, g]⟩, _ => exact ⟨a, b, c, d, e, f, g, rfl⟩
 obtain ⟨da, rfl, la⟩ := dat_dig (hd 0 31 a rfl rfl)
 obtain ⟨db, rfl, lb⟩ := dat_dig (hd 1 31 b rfl rfl)
 obtain ⟨nc, rfl, pc, qc⟩ := dat_int (dats_dat (hd 2 3 c rfl rfl))
 obtain ⟨nd, rfl, pd, qd⟩ := dat_int (dats_dat (hd 3 3 d rfl rfl))
 obtain ⟨Le, we, ne⟩ := dat_digs (hd 4 22 e rfl rfl)
 obtain ⟨Lf, wf, nf⟩ := dat_digs (hd 5 22 f rfl rfl)
 obtain ⟨dg, rfl, lg⟩ := dat_dig (hd 6 31 g rfl rfl)
 exact law6 la lb we wf lg (met_A hx).1 (met_A hx).2.1 (met_A hx).2.2
set_option maxRecDepth 100000 in
theorem lifted6 (os : Os) (started : os.Started) (H : Type) (enc : TypeId × Value → H) :
  ReturnsInHanded {} Tryd.checked os 6 .any (fun w args => (Rows.merkleProofsBindSpec.pre enc Tryd.prog Tryd.f6 [] false w args ∧ laidMetH Tryd.prog laidA w) ∧ sizedMet enc Tryd.prog Tryd.f6 (OpenSpec.ofChange Rows.merkleProofsBindSpec) false w args)
   (Rows.merkleProofsBindSpec.post enc Tryd.prog Tryd.f6 false true false false) :=
 law_laid_sized (C := Tryd.checked) (g := 20) (tb := 4) (X := fun w => laidMetH Tryd.prog laidA w) (fun _ _ hh h => h.of_heap hh) own started (by kernel_rfl) Tryd.func6 rfl (by kernel_rfl) laidOut (by kernel_rfl) (by kernel_rfl) rfl
  (fun ds hds => match ds, hds with | [_, _, _, _, _, _, _], _ => ⟨rfl, rfl, rfl⟩) rfl Tryd.underlying4
  (ChangeSpec.witness_shaped (enc := enc) (C := Tryd.checked) (os := os) (X := fun w _ => laidMetH Tryd.prog laidA w) false (World.laidAll Tryd.prog os laidA) #[digZ, digZ, .int .i64 0, .int .i64 0, .slice none 0 0, .slice none 0 0, digZ] 20 (World.laidAll_os _ _ _) (World.shaped_of_ZipB (by kernel_rfl) (by kernel_rfl)) (by kernel_rfl) (by kernel_rfl) (by kernel_rfl) (door_metA os _))
  globs (fun _ _ hx hs hd => app6 hx hs hd)
theorem said6 : Rows.MerkleProofsBindSaid :=
 OpenClaim.holds_of_wide 6 Tryd.f6 rfl rfl rfl rfl rfl rfl rfl ⟨rfl, rfl, rfl, rfl, rfl⟩ rfl rfl rfl rfl rfl (by kernel_rfl) Tryd.func6 (by kernel_rfl)
  (of_decide_eq_true (by kernel_rfl)) (by unfold Func.isWrapper; first | (rw [if_pos (by decide +kernel)]; kernel_rfl) | (rw [if_neg (by decide +kernel)]; exact ⟨rfl, rfl⟩))
  (fun os started H enc _ => lifted6 os started H enc)
theorem card6 : Rows.MerkleProofsBindCardSaid :=
 Claim7.holds_tied_plain_at .later [] [.data, .data, .data, .data] true (true, "aa056ab1adb3d494725e22a9638ad7c2f051c002b66b5426cb43de62773e3146") false
  said6 (fun _ h => by cases h) (by kernel_rfl) (fun _ h => by cases h) merkleProofsBind_row_tie rfl ⟨rfl, rfl⟩ (by kernel_rfl) rfl
  (fun f fn hf hfn => by
   obtain rfl : f = 6 := Option.some.inj ((show Tryd.prog.funcNamed "simulacrum/simulacrumlaw03.MerkleProofsBind" = some 6 by kernel_rfl).symm.trans hf) |>.symm
   obtain rfl : fn = Tryd.f6 := (Option.some.inj (Tryd.func6.symm.trans hfn)).symm
   exact ⟨by kernel_rfl, fun j t ht => by
    have hm : t ∈ Tryd.f6.params.toList := by simpa using Array.mem_of_getElem? ht
    have hall : (Tryd.f6.params.toList.all fun u => !Tryd.prog.wantsStandIn u) = true := by kernel_rfl
    exact (show Tryd.prog.wantsStandIn t = false by simpa using List.all_eq_true.1 hall t hm)⟩)
  (by kernel_rfl)
#print axioms card6
end Go.Proofs.YtjgbbhfihcmphaaDoor
