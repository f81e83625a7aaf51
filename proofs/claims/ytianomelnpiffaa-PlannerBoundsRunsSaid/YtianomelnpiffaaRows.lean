/-
  No cell of these rows narrows 'for every input' (looked for: loops, veiled, ifaces, maps, wideKeys, modest, calm, conditions, laid).
  DERIVED. THE GIVEN ROWS OF THIS SEAT. 6 by the template 'for every input the law returns true; each argument reads behind the call as it read before'; 0 by the template 'total and deterministic' (their statements: YtianomelnpiffaaTotals.lean).
  GIVEN WITH THE SEED: the statements are not yours to turn. If you find one false, say at which input.
  Laid BY PROGRAM, IN A SANDBOX (cutbox-rows.mjs): the forced cells as the released guide's own fill.sh prints them over the translation dd487fefe52db650… (all of the seat's roots in one cut). By AI agents, Wed Nov 11 2026. No macro, syntax, notation, axiom, sorry.
-/
import Derived.Test.YtianomelnpiffaaChecked
import GoSem.Claim
import GoSem.ClaimJoined
import GoSem.ClaimMapViews
import Derived.JoinedTies
import Derived.KernelRfl
namespace Go.Proofs.Ytianomelnpiffaa
/- THE CELL 'sum', in the pinned program and in every row, IS THE sha256 OF THE DUMP (.gsa) THAT YtianomelnpiffaaProg.lean LOADS. Nothing in Lean hashes anything: it is a label: what it is worth is what the hold of that sum in a sandbox is worth. -/
noncomputable def Try.pinned : Pinned := { name := "ytianomelnpiffaa", sum := "dd487fefe52db650718842259ffaa2fffbda864b5127d400aa0ee6f9c9d853ef", checked := Try.checked }
namespace Rows
def none {H : Type} : Left H := { results := [], args := [] }

/-- 'simulacrumlaw36.PlannerEstimatesAsSpecified': WHATEVER THE INPUT: true; the input reads as it did. -/
def plannerEstimatesAsSpecifiedSpec : ChangeSpec := { name := "plannerEstimatesAsSpecified", fn := fun _ => fun
  | [d1, d2, d3, d4, d5, d6] => { results := [.lit (.bool true)], args := [d1, d2, d3, d4, d5, d6] }
  | _ => none }
def plannerEstimatesAsSpecifiedRow : OpenClaim := { program := "ytianomelnpiffaa", sum := "dd487fefe52db650718842259ffaa2fffbda864b5127d400aa0ee6f9c9d853ef", func := "simulacrum/simulacrumlaw36.PlannerEstimatesAsSpecified", spec := "plannerEstimatesAsSpecified", unfollowed := true, recurses := true, apart := false }
def PlannerEstimatesAsSpecifiedSaid : Prop := plannerEstimatesAsSpecifiedRow.holds Try.pinned (OpenSpec.ofChange plannerEstimatesAsSpecifiedSpec)

/-- ITS FALSE NEIGHBOUR: 'it returns false'. Refute it at one input. -/
def plannerEstimatesAsSpecifiedWrong : ChangeSpec := { name := "plannerEstimatesAsSpecified", fn := fun _ => fun
  | [d1, d2, d3, d4, d5, d6] => { results := [.lit (.bool false)], args := [d1, d2, d3, d4, d5, d6] }
  | _ => none }
def PlannerEstimatesAsSpecifiedWrongFalsely : Prop := plannerEstimatesAsSpecifiedRow.holds Try.pinned (OpenSpec.ofChange plannerEstimatesAsSpecifiedWrong)

/-- 'simulacrumlaw36.PlannerChoosesAsSpecified': WHATEVER THE INPUT: true; the input reads as it did. -/
def plannerChoosesAsSpecifiedSpec : ChangeSpec := { name := "plannerChoosesAsSpecified", fn := fun _ => fun
  | [d1, d2, d3] => { results := [.lit (.bool true)], args := [d1, d2, d3] }
  | _ => none }
def plannerChoosesAsSpecifiedRow : OpenClaim := { program := "ytianomelnpiffaa", sum := "dd487fefe52db650718842259ffaa2fffbda864b5127d400aa0ee6f9c9d853ef", func := "simulacrum/simulacrumlaw36.PlannerChoosesAsSpecified", spec := "plannerChoosesAsSpecified", unfollowed := true, recurses := true, apart := false }
def PlannerChoosesAsSpecifiedSaid : Prop := plannerChoosesAsSpecifiedRow.holds Try.pinned (OpenSpec.ofChange plannerChoosesAsSpecifiedSpec)

/-- ITS FALSE NEIGHBOUR: 'it returns false'. Refute it at one input. -/
def plannerChoosesAsSpecifiedWrong : ChangeSpec := { name := "plannerChoosesAsSpecified", fn := fun _ => fun
  | [d1, d2, d3] => { results := [.lit (.bool false)], args := [d1, d2, d3] }
  | _ => none }
def PlannerChoosesAsSpecifiedWrongFalsely : Prop := plannerChoosesAsSpecifiedRow.holds Try.pinned (OpenSpec.ofChange plannerChoosesAsSpecifiedWrong)

/-- 'simulacrumlaw36.PlannerChoosesTheLeast': WHATEVER THE INPUT: true; the input reads as it did. -/
def plannerChoosesTheLeastSpec : ChangeSpec := { name := "plannerChoosesTheLeast", fn := fun _ => fun
  | [d1, d2, d3, d4, d5] => { results := [.lit (.bool true)], args := [d1, d2, d3, d4, d5] }
  | _ => none }
def plannerChoosesTheLeastRow : OpenClaim := { program := "ytianomelnpiffaa", sum := "dd487fefe52db650718842259ffaa2fffbda864b5127d400aa0ee6f9c9d853ef", func := "simulacrum/simulacrumlaw36.PlannerChoosesTheLeast", spec := "plannerChoosesTheLeast", unfollowed := true, recurses := true, apart := false }
def PlannerChoosesTheLeastSaid : Prop := plannerChoosesTheLeastRow.holds Try.pinned (OpenSpec.ofChange plannerChoosesTheLeastSpec)

/-- ITS FALSE NEIGHBOUR: 'it returns false'. Refute it at one input. -/
def plannerChoosesTheLeastWrong : ChangeSpec := { name := "plannerChoosesTheLeast", fn := fun _ => fun
  | [d1, d2, d3, d4, d5] => { results := [.lit (.bool false)], args := [d1, d2, d3, d4, d5] }
  | _ => none }
def PlannerChoosesTheLeastWrongFalsely : Prop := plannerChoosesTheLeastRow.holds Try.pinned (OpenSpec.ofChange plannerChoosesTheLeastWrong)

/-- 'simulacrumlaw36.PlannerRoundsShrink': WHATEVER THE INPUT: true; the input reads as it did. -/
def plannerRoundsShrinkSpec : ChangeSpec := { name := "plannerRoundsShrink", fn := fun _ => fun
  | [d1, d2, d3] => { results := [.lit (.bool true)], args := [d1, d2, d3] }
  | _ => none }
def plannerRoundsShrinkRow : OpenClaim := { program := "ytianomelnpiffaa", sum := "dd487fefe52db650718842259ffaa2fffbda864b5127d400aa0ee6f9c9d853ef", func := "simulacrum/simulacrumlaw36.PlannerRoundsShrink", spec := "plannerRoundsShrink", unfollowed := true, recurses := true, apart := false }
def PlannerRoundsShrinkSaid : Prop := plannerRoundsShrinkRow.holds Try.pinned (OpenSpec.ofChange plannerRoundsShrinkSpec)

/-- ITS FALSE NEIGHBOUR: 'it returns false'. Refute it at one input. -/
def plannerRoundsShrinkWrong : ChangeSpec := { name := "plannerRoundsShrink", fn := fun _ => fun
  | [d1, d2, d3] => { results := [.lit (.bool false)], args := [d1, d2, d3] }
  | _ => none }
def PlannerRoundsShrinkWrongFalsely : Prop := plannerRoundsShrinkRow.holds Try.pinned (OpenSpec.ofChange plannerRoundsShrinkWrong)

/-- 'simulacrumlaw36.PlannerBoundsRuns': WHATEVER THE INPUT: true; the input reads as it did. -/
def plannerBoundsRunsSpec : ChangeSpec := { name := "plannerBoundsRuns", fn := fun _ => fun
  | [d1, d2, d3, d4] => { results := [.lit (.bool true)], args := [d1, d2, d3, d4] }
  | _ => none }
def plannerBoundsRunsRow : OpenClaim := { program := "ytianomelnpiffaa", sum := "dd487fefe52db650718842259ffaa2fffbda864b5127d400aa0ee6f9c9d853ef", func := "simulacrum/simulacrumlaw36.PlannerBoundsRuns", spec := "plannerBoundsRuns", unfollowed := true, recurses := true, apart := false }
def PlannerBoundsRunsSaid : Prop := plannerBoundsRunsRow.holds Try.pinned (OpenSpec.ofChange plannerBoundsRunsSpec)

/-- ITS FALSE NEIGHBOUR: 'it returns false'. Refute it at one input. -/
def plannerBoundsRunsWrong : ChangeSpec := { name := "plannerBoundsRuns", fn := fun _ => fun
  | [d1, d2, d3, d4] => { results := [.lit (.bool false)], args := [d1, d2, d3, d4] }
  | _ => none }
def PlannerBoundsRunsWrongFalsely : Prop := plannerBoundsRunsRow.holds Try.pinned (OpenSpec.ofChange plannerBoundsRunsWrong)

/-- 'simulacrumlaw36.PlannerIsMonotone': WHATEVER THE INPUT: true; the input reads as it did. -/
def plannerIsMonotoneSpec : ChangeSpec := { name := "plannerIsMonotone", fn := fun _ => fun
  | [d1, d2, d3, d4, d5] => { results := [.lit (.bool true)], args := [d1, d2, d3, d4, d5] }
  | _ => none }
def plannerIsMonotoneRow : OpenClaim := { program := "ytianomelnpiffaa", sum := "dd487fefe52db650718842259ffaa2fffbda864b5127d400aa0ee6f9c9d853ef", func := "simulacrum/simulacrumlaw36.PlannerIsMonotone", spec := "plannerIsMonotone", unfollowed := true, recurses := true, apart := false }
def PlannerIsMonotoneSaid : Prop := plannerIsMonotoneRow.holds Try.pinned (OpenSpec.ofChange plannerIsMonotoneSpec)

/-- ITS FALSE NEIGHBOUR: 'it returns false'. Refute it at one input. -/
def plannerIsMonotoneWrong : ChangeSpec := { name := "plannerIsMonotone", fn := fun _ => fun
  | [d1, d2, d3, d4, d5] => { results := [.lit (.bool false)], args := [d1, d2, d3, d4, d5] }
  | _ => none }
def PlannerIsMonotoneWrongFalsely : Prop := plannerIsMonotoneRow.holds Try.pinned (OpenSpec.ofChange plannerIsMonotoneWrong)

/- THE SECOND FORM. 'bulk': how many values and letters a reading holds, each counted each time it is reached (what is shared counts as often as it is met; a slice's spare places count too). A statement '..UptoSaid' is the law's where the arguments, and the package variables that the reading takes, are together of bulk at most 1048576: NARROWER than '..Said'. Prove '..Said' where nothing that the law and all that it calls make is longer than what came in: it says more and counts as full. Else prove '..UptoSaid'. A law counts once. -/
mutual
def uptoBulk {H : Type} : DataW H → Nat
  | .lit (.string bytes) => bytes.length + 1
  | .lit _ => 1
  | .nil => 1
  | .ptr d => uptoBulk d + 1
  | .slice elems spare => uptoBulkAll elems + uptoBulkAll spare + 1
  | .agg parts => uptoBulkAll parts + 1
  | .iface _ d => uptoBulk d + 1
  | .map entries => uptoBulkEntries entries + 1
  | .held _ => 1
def uptoBulkAll {H : Type} : List (DataW H) → Nat
  | [] => 0
  | d :: r => uptoBulk d + uptoBulkAll r
def uptoBulkEntries {H : Type} : List (Lit × DataW H) → Nat
  | [] => 0
  | x :: r => uptoBulkEntry x + uptoBulkEntries r
def uptoBulkEntry {H : Type} : Lit × DataW H → Nat
  | (.string bytes, d) => bytes.length + uptoBulk d + 1
  | (_, d) => uptoBulk d + 1
 end
def uptoSmall : (H : Type) → List (DataW H) → Bool := fun _ ds => decide (uptoBulkAll ds ≤ 1048576)
def OpenSpec.upto (s : _root_.Go.ChangeSpec) : _root_.Go.OpenSpec := { _root_.Go.OpenSpec.ofChange s with cond := some uptoSmall }

/-- 'simulacrumlaw36.PlannerEstimatesAsSpecified', WHERE WHAT IT READS IS OF BULK AT MOST 1048576: true; the input reads as it did. -/
def plannerEstimatesAsSpecifiedUptoRow : OpenClaim := { program := "ytianomelnpiffaa", sum := "dd487fefe52db650718842259ffaa2fffbda864b5127d400aa0ee6f9c9d853ef", func := "simulacrum/simulacrumlaw36.PlannerEstimatesAsSpecified", spec := "plannerEstimatesAsSpecified", unfollowed := true, recurses := true, apart := false, narrowed := true }
def PlannerEstimatesAsSpecifiedUptoSaid : Prop := plannerEstimatesAsSpecifiedUptoRow.holds Try.pinned (OpenSpec.upto plannerEstimatesAsSpecifiedSpec)

/-- 'simulacrumlaw36.PlannerChoosesAsSpecified', WHERE WHAT IT READS IS OF BULK AT MOST 1048576: true; the input reads as it did. -/
def plannerChoosesAsSpecifiedUptoRow : OpenClaim := { program := "ytianomelnpiffaa", sum := "dd487fefe52db650718842259ffaa2fffbda864b5127d400aa0ee6f9c9d853ef", func := "simulacrum/simulacrumlaw36.PlannerChoosesAsSpecified", spec := "plannerChoosesAsSpecified", unfollowed := true, recurses := true, apart := false, narrowed := true }
def PlannerChoosesAsSpecifiedUptoSaid : Prop := plannerChoosesAsSpecifiedUptoRow.holds Try.pinned (OpenSpec.upto plannerChoosesAsSpecifiedSpec)

/-- 'simulacrumlaw36.PlannerChoosesTheLeast', WHERE WHAT IT READS IS OF BULK AT MOST 1048576: true; the input reads as it did. -/
def plannerChoosesTheLeastUptoRow : OpenClaim := { program := "ytianomelnpiffaa", sum := "dd487fefe52db650718842259ffaa2fffbda864b5127d400aa0ee6f9c9d853ef", func := "simulacrum/simulacrumlaw36.PlannerChoosesTheLeast", spec := "plannerChoosesTheLeast", unfollowed := true, recurses := true, apart := false, narrowed := true }
def PlannerChoosesTheLeastUptoSaid : Prop := plannerChoosesTheLeastUptoRow.holds Try.pinned (OpenSpec.upto plannerChoosesTheLeastSpec)

/-- 'simulacrumlaw36.PlannerRoundsShrink', WHERE WHAT IT READS IS OF BULK AT MOST 1048576: true; the input reads as it did. -/
def plannerRoundsShrinkUptoRow : OpenClaim := { program := "ytianomelnpiffaa", sum := "dd487fefe52db650718842259ffaa2fffbda864b5127d400aa0ee6f9c9d853ef", func := "simulacrum/simulacrumlaw36.PlannerRoundsShrink", spec := "plannerRoundsShrink", unfollowed := true, recurses := true, apart := false, narrowed := true }
def PlannerRoundsShrinkUptoSaid : Prop := plannerRoundsShrinkUptoRow.holds Try.pinned (OpenSpec.upto plannerRoundsShrinkSpec)

/-- 'simulacrumlaw36.PlannerBoundsRuns', WHERE WHAT IT READS IS OF BULK AT MOST 1048576: true; the input reads as it did. -/
def plannerBoundsRunsUptoRow : OpenClaim := { program := "ytianomelnpiffaa", sum := "dd487fefe52db650718842259ffaa2fffbda864b5127d400aa0ee6f9c9d853ef", func := "simulacrum/simulacrumlaw36.PlannerBoundsRuns", spec := "plannerBoundsRuns", unfollowed := true, recurses := true, apart := false, narrowed := true }
def PlannerBoundsRunsUptoSaid : Prop := plannerBoundsRunsUptoRow.holds Try.pinned (OpenSpec.upto plannerBoundsRunsSpec)

/-- 'simulacrumlaw36.PlannerIsMonotone', WHERE WHAT IT READS IS OF BULK AT MOST 1048576: true; the input reads as it did. -/
def plannerIsMonotoneUptoRow : OpenClaim := { program := "ytianomelnpiffaa", sum := "dd487fefe52db650718842259ffaa2fffbda864b5127d400aa0ee6f9c9d853ef", func := "simulacrum/simulacrumlaw36.PlannerIsMonotone", spec := "plannerIsMonotone", unfollowed := true, recurses := true, apart := false, narrowed := true }
def PlannerIsMonotoneUptoSaid : Prop := plannerIsMonotoneUptoRow.holds Try.pinned (OpenSpec.upto plannerIsMonotoneSpec)

end Rows
end Go.Proofs.Ytianomelnpiffaa
