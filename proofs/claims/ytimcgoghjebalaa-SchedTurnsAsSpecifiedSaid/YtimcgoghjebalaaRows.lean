/-
  No cell of these rows narrows 'for every input' (looked for: loops, veiled, ifaces, maps, wideKeys, modest, calm, conditions, laid).
  DERIVED. THE GIVEN ROWS OF THIS SEAT. 7 by the template 'for every input the law returns true; each argument reads behind the call as it read before'; 0 by the template 'total and deterministic' (their statements: YtimcgoghjebalaaTotals.lean).
  GIVEN WITH THE SEED: the statements are not yours to turn. If you find one false, say at which input.
  Laid BY PROGRAM, IN A SANDBOX (cutbox-rows.mjs): the forced cells as the released guide's own fill.sh prints them over the translation dd994881a970f9f2… (all of the seat's roots in one cut). By AI agents, Wed Nov 11 2026. No macro, syntax, notation, axiom, sorry.
-/
import Derived.Test.YtimcgoghjebalaaChecked
import GoSem.Claim
import GoSem.ClaimJoined
import GoSem.ClaimMapViews
import Derived.JoinedTies
import Derived.KernelRfl
namespace Go.Proofs.Ytimcgoghjebalaa
/- THE CELL 'sum', in the pinned program and in every row, IS THE sha256 OF THE DUMP (.gsa) THAT YtimcgoghjebalaaProg.lean LOADS. Nothing in Lean hashes anything: it is a label: what it is worth is what the hold of that sum in a sandbox is worth. -/
noncomputable def Try.pinned : Pinned := { name := "ytimcgoghjebalaa", sum := "dd994881a970f9f25fd4e3b049a0ca25b2ea399e79924261cdce12fed4b52b2c", checked := Try.checked }
namespace Rows
def none {H : Type} : Left H := { results := [], args := [] }

/-- 'simulacrumlaw43.SchedTurnsAsSpecified': WHATEVER THE INPUT: true; the input reads as it did. -/
def schedTurnsAsSpecifiedSpec : ChangeSpec := { name := "schedTurnsAsSpecified", fn := fun _ => fun
  | [d1, d2] => { results := [.lit (.bool true)], args := [d1, d2] }
  | _ => none }
def schedTurnsAsSpecifiedRow : OpenClaim := { program := "ytimcgoghjebalaa", sum := "dd994881a970f9f25fd4e3b049a0ca25b2ea399e79924261cdce12fed4b52b2c", func := "simulacrum/simulacrumlaw43.SchedTurnsAsSpecified", spec := "schedTurnsAsSpecified", unfollowed := true, recurses := true, apart := false }
def SchedTurnsAsSpecifiedSaid : Prop := schedTurnsAsSpecifiedRow.holds Try.pinned (OpenSpec.ofChange schedTurnsAsSpecifiedSpec)

/-- ITS FALSE NEIGHBOUR: 'it returns false'. Refute it at one input. -/
def schedTurnsAsSpecifiedWrong : ChangeSpec := { name := "schedTurnsAsSpecified", fn := fun _ => fun
  | [d1, d2] => { results := [.lit (.bool false)], args := [d1, d2] }
  | _ => none }
def SchedTurnsAsSpecifiedWrongFalsely : Prop := schedTurnsAsSpecifiedRow.holds Try.pinned (OpenSpec.ofChange schedTurnsAsSpecifiedWrong)

/-- 'simulacrumlaw43.SchedKeepsContracts': WHATEVER THE INPUT: true; the input reads as it did. -/
def schedKeepsContractsSpec : ChangeSpec := { name := "schedKeepsContracts", fn := fun _ => fun
  | [d1, d2, d3] => { results := [.lit (.bool true)], args := [d1, d2, d3] }
  | _ => none }
def schedKeepsContractsRow : OpenClaim := { program := "ytimcgoghjebalaa", sum := "dd994881a970f9f25fd4e3b049a0ca25b2ea399e79924261cdce12fed4b52b2c", func := "simulacrum/simulacrumlaw43.SchedKeepsContracts", spec := "schedKeepsContracts", unfollowed := true, recurses := true, apart := false }
def SchedKeepsContractsSaid : Prop := schedKeepsContractsRow.holds Try.pinned (OpenSpec.ofChange schedKeepsContractsSpec)

/-- ITS FALSE NEIGHBOUR: 'it returns false'. Refute it at one input. -/
def schedKeepsContractsWrong : ChangeSpec := { name := "schedKeepsContracts", fn := fun _ => fun
  | [d1, d2, d3] => { results := [.lit (.bool false)], args := [d1, d2, d3] }
  | _ => none }
def SchedKeepsContractsWrongFalsely : Prop := schedKeepsContractsRow.holds Try.pinned (OpenSpec.ofChange schedKeepsContractsWrong)

/-- 'simulacrumlaw43.SchedIsFair': WHATEVER THE INPUT: true; the input reads as it did. -/
def schedIsFairSpec : ChangeSpec := { name := "schedIsFair", fn := fun _ => fun
  | [d1, d2, d3] => { results := [.lit (.bool true)], args := [d1, d2, d3] }
  | _ => none }
def schedIsFairRow : OpenClaim := { program := "ytimcgoghjebalaa", sum := "dd994881a970f9f25fd4e3b049a0ca25b2ea399e79924261cdce12fed4b52b2c", func := "simulacrum/simulacrumlaw43.SchedIsFair", spec := "schedIsFair", unfollowed := true, recurses := true, apart := false }
def SchedIsFairSaid : Prop := schedIsFairRow.holds Try.pinned (OpenSpec.ofChange schedIsFairSpec)

/-- ITS FALSE NEIGHBOUR: 'it returns false'. Refute it at one input. -/
def schedIsFairWrong : ChangeSpec := { name := "schedIsFair", fn := fun _ => fun
  | [d1, d2, d3] => { results := [.lit (.bool false)], args := [d1, d2, d3] }
  | _ => none }
def SchedIsFairWrongFalsely : Prop := schedIsFairRow.holds Try.pinned (OpenSpec.ofChange schedIsFairWrong)

/-- 'simulacrumlaw43.SchedGrowsWithCapacity': WHATEVER THE INPUT: true; the input reads as it did. -/
def schedGrowsWithCapacitySpec : ChangeSpec := { name := "schedGrowsWithCapacity", fn := fun _ => fun
  | [d1, d2, d3, d4] => { results := [.lit (.bool true)], args := [d1, d2, d3, d4] }
  | _ => none }
def schedGrowsWithCapacityRow : OpenClaim := { program := "ytimcgoghjebalaa", sum := "dd994881a970f9f25fd4e3b049a0ca25b2ea399e79924261cdce12fed4b52b2c", func := "simulacrum/simulacrumlaw43.SchedGrowsWithCapacity", spec := "schedGrowsWithCapacity", unfollowed := true, recurses := true, apart := false }
def SchedGrowsWithCapacitySaid : Prop := schedGrowsWithCapacityRow.holds Try.pinned (OpenSpec.ofChange schedGrowsWithCapacitySpec)

/-- ITS FALSE NEIGHBOUR: 'it returns false'. Refute it at one input. -/
def schedGrowsWithCapacityWrong : ChangeSpec := { name := "schedGrowsWithCapacity", fn := fun _ => fun
  | [d1, d2, d3, d4] => { results := [.lit (.bool false)], args := [d1, d2, d3, d4] }
  | _ => none }
def SchedGrowsWithCapacityWrongFalsely : Prop := schedGrowsWithCapacityRow.holds Try.pinned (OpenSpec.ofChange schedGrowsWithCapacityWrong)

/-- 'simulacrumlaw43.SchedAdmitsAsSpecified': WHATEVER THE INPUT: true; the input reads as it did. -/
def schedAdmitsAsSpecifiedSpec : ChangeSpec := { name := "schedAdmitsAsSpecified", fn := fun _ => fun
  | [d1, d2, d3] => { results := [.lit (.bool true)], args := [d1, d2, d3] }
  | _ => none }
def schedAdmitsAsSpecifiedRow : OpenClaim := { program := "ytimcgoghjebalaa", sum := "dd994881a970f9f25fd4e3b049a0ca25b2ea399e79924261cdce12fed4b52b2c", func := "simulacrum/simulacrumlaw43.SchedAdmitsAsSpecified", spec := "schedAdmitsAsSpecified", unfollowed := true, recurses := true, apart := false }
def SchedAdmitsAsSpecifiedSaid : Prop := schedAdmitsAsSpecifiedRow.holds Try.pinned (OpenSpec.ofChange schedAdmitsAsSpecifiedSpec)

/-- ITS FALSE NEIGHBOUR: 'it returns false'. Refute it at one input. -/
def schedAdmitsAsSpecifiedWrong : ChangeSpec := { name := "schedAdmitsAsSpecified", fn := fun _ => fun
  | [d1, d2, d3] => { results := [.lit (.bool false)], args := [d1, d2, d3] }
  | _ => none }
def SchedAdmitsAsSpecifiedWrongFalsely : Prop := schedAdmitsAsSpecifiedRow.holds Try.pinned (OpenSpec.ofChange schedAdmitsAsSpecifiedWrong)

/-- 'simulacrumlaw43.SchedFillsAsSpecified': WHATEVER THE INPUT: true; the input reads as it did. -/
def schedFillsAsSpecifiedSpec : ChangeSpec := { name := "schedFillsAsSpecified", fn := fun _ => fun
  | [d1, d2, d3, d4, d5] => { results := [.lit (.bool true)], args := [d1, d2, d3, d4, d5] }
  | _ => none }
def schedFillsAsSpecifiedRow : OpenClaim := { program := "ytimcgoghjebalaa", sum := "dd994881a970f9f25fd4e3b049a0ca25b2ea399e79924261cdce12fed4b52b2c", func := "simulacrum/simulacrumlaw43.SchedFillsAsSpecified", spec := "schedFillsAsSpecified", unfollowed := true, recurses := true, apart := false }
def SchedFillsAsSpecifiedSaid : Prop := schedFillsAsSpecifiedRow.holds Try.pinned (OpenSpec.ofChange schedFillsAsSpecifiedSpec)

/-- ITS FALSE NEIGHBOUR: 'it returns false'. Refute it at one input. -/
def schedFillsAsSpecifiedWrong : ChangeSpec := { name := "schedFillsAsSpecified", fn := fun _ => fun
  | [d1, d2, d3, d4, d5] => { results := [.lit (.bool false)], args := [d1, d2, d3, d4, d5] }
  | _ => none }
def SchedFillsAsSpecifiedWrongFalsely : Prop := schedFillsAsSpecifiedRow.holds Try.pinned (OpenSpec.ofChange schedFillsAsSpecifiedWrong)

/-- 'simulacrumlaw43.SchedStaysAdmitted': WHATEVER THE INPUT: true; the input reads as it did. -/
def schedStaysAdmittedSpec : ChangeSpec := { name := "schedStaysAdmitted", fn := fun _ => fun
  | [d1, d2, d3] => { results := [.lit (.bool true)], args := [d1, d2, d3] }
  | _ => none }
def schedStaysAdmittedRow : OpenClaim := { program := "ytimcgoghjebalaa", sum := "dd994881a970f9f25fd4e3b049a0ca25b2ea399e79924261cdce12fed4b52b2c", func := "simulacrum/simulacrumlaw43.SchedStaysAdmitted", spec := "schedStaysAdmitted", unfollowed := true, recurses := true, apart := false }
def SchedStaysAdmittedSaid : Prop := schedStaysAdmittedRow.holds Try.pinned (OpenSpec.ofChange schedStaysAdmittedSpec)

/-- ITS FALSE NEIGHBOUR: 'it returns false'. Refute it at one input. -/
def schedStaysAdmittedWrong : ChangeSpec := { name := "schedStaysAdmitted", fn := fun _ => fun
  | [d1, d2, d3] => { results := [.lit (.bool false)], args := [d1, d2, d3] }
  | _ => none }
def SchedStaysAdmittedWrongFalsely : Prop := schedStaysAdmittedRow.holds Try.pinned (OpenSpec.ofChange schedStaysAdmittedWrong)

/- THE SECOND FORM. 'bulk': how many values and letters a reading holds, each counted each time it is reached (what is shared counts as often as it is met; a slice's spare places count too). A statement '..UptoSaid' is the law's where the arguments, and the package variables that the reading takes, are together of bulk at most 1048576: NARROWER than '..Said'. Prove '..Said' where nothing that the law and all that it calls make is longer than what came in: it says more and counts as full. Else prove '..UptoSaid'. A law counts once. -/
mutual
def uptoBulk {H : Type} : DataW H → Nat
  | .lit (.string bytes) => bytes.length + 1
  | .lit _ => 1
  | .nil => 1
  | .ptr d => uptoBulk d + 1
  | .slice elems spare => uptoBulkAll elems + uptoBulkAll spare + 1
  | .agg parts => uptoBulkAll parts + 1
  | .iface _ d => uptoBulk d + 1
  | .map entries => uptoBulkEntries entries + 1
  | .held _ => 1
def uptoBulkAll {H : Type} : List (DataW H) → Nat
  | [] => 0
  | d :: r => uptoBulk d + uptoBulkAll r
def uptoBulkEntries {H : Type} : List (Lit × DataW H) → Nat
  | [] => 0
  | x :: r => uptoBulkEntry x + uptoBulkEntries r
def uptoBulkEntry {H : Type} : Lit × DataW H → Nat
  | (.string bytes, d) => bytes.length + uptoBulk d + 1
  | (_, d) => uptoBulk d + 1
 end
def uptoSmall : (H : Type) → List (DataW H) → Bool := fun _ ds => decide (uptoBulkAll ds ≤ 1048576)
def OpenSpec.upto (s : _root_.Go.ChangeSpec) : _root_.Go.OpenSpec := { _root_.Go.OpenSpec.ofChange s with cond := some uptoSmall }

/-- 'simulacrumlaw43.SchedTurnsAsSpecified', WHERE WHAT IT READS IS OF BULK AT MOST 1048576: true; the input reads as it did. -/
def schedTurnsAsSpecifiedUptoRow : OpenClaim := { program := "ytimcgoghjebalaa", sum := "dd994881a970f9f25fd4e3b049a0ca25b2ea399e79924261cdce12fed4b52b2c", func := "simulacrum/simulacrumlaw43.SchedTurnsAsSpecified", spec := "schedTurnsAsSpecified", unfollowed := true, recurses := true, apart := false, narrowed := true }
def SchedTurnsAsSpecifiedUptoSaid : Prop := schedTurnsAsSpecifiedUptoRow.holds Try.pinned (OpenSpec.upto schedTurnsAsSpecifiedSpec)

/-- 'simulacrumlaw43.SchedKeepsContracts', WHERE WHAT IT READS IS OF BULK AT MOST 1048576: true; the input reads as it did. -/
def schedKeepsContractsUptoRow : OpenClaim := { program := "ytimcgoghjebalaa", sum := "dd994881a970f9f25fd4e3b049a0ca25b2ea399e79924261cdce12fed4b52b2c", func := "simulacrum/simulacrumlaw43.SchedKeepsContracts", spec := "schedKeepsContracts", unfollowed := true, recurses := true, apart := false, narrowed := true }
def SchedKeepsContractsUptoSaid : Prop := schedKeepsContractsUptoRow.holds Try.pinned (OpenSpec.upto schedKeepsContractsSpec)

/-- 'simulacrumlaw43.SchedIsFair', WHERE WHAT IT READS IS OF BULK AT MOST 1048576: true; the input reads as it did. -/
def schedIsFairUptoRow : OpenClaim := { program := "ytimcgoghjebalaa", sum := "dd994881a970f9f25fd4e3b049a0ca25b2ea399e79924261cdce12fed4b52b2c", func := "simulacrum/simulacrumlaw43.SchedIsFair", spec := "schedIsFair", unfollowed := true, recurses := true, apart := false, narrowed := true }
def SchedIsFairUptoSaid : Prop := schedIsFairUptoRow.holds Try.pinned (OpenSpec.upto schedIsFairSpec)

/-- 'simulacrumlaw43.SchedGrowsWithCapacity', WHERE WHAT IT READS IS OF BULK AT MOST 1048576: true; the input reads as it did. -/
def schedGrowsWithCapacityUptoRow : OpenClaim := { program := "ytimcgoghjebalaa", sum := "dd994881a970f9f25fd4e3b049a0ca25b2ea399e79924261cdce12fed4b52b2c", func := "simulacrum/simulacrumlaw43.SchedGrowsWithCapacity", spec := "schedGrowsWithCapacity", unfollowed := true, recurses := true, apart := false, narrowed := true }
def SchedGrowsWithCapacityUptoSaid : Prop := schedGrowsWithCapacityUptoRow.holds Try.pinned (OpenSpec.upto schedGrowsWithCapacitySpec)

/-- 'simulacrumlaw43.SchedAdmitsAsSpecified', WHERE WHAT IT READS IS OF BULK AT MOST 1048576: true; the input reads as it did. -/
def schedAdmitsAsSpecifiedUptoRow : OpenClaim := { program := "ytimcgoghjebalaa", sum := "dd994881a970f9f25fd4e3b049a0ca25b2ea399e79924261cdce12fed4b52b2c", func := "simulacrum/simulacrumlaw43.SchedAdmitsAsSpecified", spec := "schedAdmitsAsSpecified", unfollowed := true, recurses := true, apart := false, narrowed := true }
def SchedAdmitsAsSpecifiedUptoSaid : Prop := schedAdmitsAsSpecifiedUptoRow.holds Try.pinned (OpenSpec.upto schedAdmitsAsSpecifiedSpec)

/-- 'simulacrumlaw43.SchedFillsAsSpecified', WHERE WHAT IT READS IS OF BULK AT MOST 1048576: true; the input reads as it did. -/
def schedFillsAsSpecifiedUptoRow : OpenClaim := { program := "ytimcgoghjebalaa", sum := "dd994881a970f9f25fd4e3b049a0ca25b2ea399e79924261cdce12fed4b52b2c", func := "simulacrum/simulacrumlaw43.SchedFillsAsSpecified", spec := "schedFillsAsSpecified", unfollowed := true, recurses := true, apart := false, narrowed := true }
def SchedFillsAsSpecifiedUptoSaid : Prop := schedFillsAsSpecifiedUptoRow.holds Try.pinned (OpenSpec.upto schedFillsAsSpecifiedSpec)

/-- 'simulacrumlaw43.SchedStaysAdmitted', WHERE WHAT IT READS IS OF BULK AT MOST 1048576: true; the input reads as it did. -/
def schedStaysAdmittedUptoRow : OpenClaim := { program := "ytimcgoghjebalaa", sum := "dd994881a970f9f25fd4e3b049a0ca25b2ea399e79924261cdce12fed4b52b2c", func := "simulacrum/simulacrumlaw43.SchedStaysAdmitted", spec := "schedStaysAdmitted", unfollowed := true, recurses := true, apart := false, narrowed := true }
def SchedStaysAdmittedUptoSaid : Prop := schedStaysAdmittedUptoRow.holds Try.pinned (OpenSpec.upto schedStaysAdmittedSpec)

end Rows
end Go.Proofs.Ytimcgoghjebalaa
