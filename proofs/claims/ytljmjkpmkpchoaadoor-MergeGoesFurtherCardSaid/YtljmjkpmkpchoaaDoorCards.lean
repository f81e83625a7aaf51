/-
  DERIVED. GIVEN WITH THE SEED: THE CARDS: each row of YtljmjkpmkpchoaaDoorRows.lean that lists a variable, with what it lists TIED to the program's text (the seventh form; the later family's looks); each row that meets fmt, with fmt's text TOLD by the authors' own Lean function (tested against real Go, not proved from fmt's source: count such statements apart). THE CARD IS WHAT COUNTS. Prove the row's statement (the work); the ties are given (YtljmjkpmkpchoaaDoorTie.lean); close each card by the builder's one call (the guide's Derived/Test/ToyasCard.lean, 'card_holds'). Laid BY PROGRAM, IN A SANDBOX (cutbox-door.mjs). By AI agents, Wed Nov 11 2026. No macro, syntax, notation, axiom, sorry.
-/
import Derived.Test.YtljmjkpmkpchoaaDoorRows
import GoSem.ClaimSeven
namespace Go.Proofs.YtljmjkpmkpchoaaDoor
namespace Rows

/-- THE TIED CARD OF 'simulacrumlaw42.MergeComparesAsSpecified'. -/
def mergeComparesAsSpecifiedCard : Claim7 := { stood := { row := mergeComparesAsSpecifiedRow, standIns := [], harness := (true, "6a152c3ed4e46f3a01a279c48d06b84aecc433f5ceed276dc42a3b60f305510b"), looks := false }, kinds := [], alts := [], laidByText := true, laidKinds := [.data], laidTests := true, laidLooks := .later }
def MergeComparesAsSpecifiedCardSaid : Prop := Claim7.holds Tryd.pinned (.plain (OpenSpec.ofChange mergeComparesAsSpecifiedSpec)) mergeComparesAsSpecifiedCard

/-- THE TIED CARD OF 'simulacrumlaw42.MergeIsAnOrder'. -/
def mergeIsAnOrderCard : Claim7 := { stood := { row := mergeIsAnOrderRow, standIns := [], harness := (true, "6a152c3ed4e46f3a01a279c48d06b84aecc433f5ceed276dc42a3b60f305510b"), looks := false }, kinds := [], alts := [], laidByText := true, laidKinds := [.data], laidTests := true, laidLooks := .later }
def MergeIsAnOrderCardSaid : Prop := Claim7.holds Tryd.pinned (.plain (OpenSpec.ofChange mergeIsAnOrderSpec)) mergeIsAnOrderCard

/-- THE TIED CARD OF 'simulacrumlaw42.MergeIgnoresSlicing'. -/
def mergeIgnoresSlicingCard : Claim7 := { stood := { row := mergeIgnoresSlicingRow, standIns := [], harness := (true, "6a152c3ed4e46f3a01a279c48d06b84aecc433f5ceed276dc42a3b60f305510b"), looks := false }, kinds := [], alts := [], laidByText := true, laidKinds := [.data], laidTests := true, laidLooks := .later }
def MergeIgnoresSlicingCardSaid : Prop := Claim7.holds Tryd.pinned (.plain (OpenSpec.ofChange mergeIgnoresSlicingSpec)) mergeIgnoresSlicingCard

/-- THE TIED CARD OF 'simulacrumlaw42.MergeNamesTheFirst'. -/
def mergeNamesTheFirstCard : Claim7 := { stood := { row := mergeNamesTheFirstRow, standIns := [], harness := (true, "6a152c3ed4e46f3a01a279c48d06b84aecc433f5ceed276dc42a3b60f305510b"), looks := false }, kinds := [], alts := [], laidByText := true, laidKinds := [.data], laidTests := true, laidLooks := .later }
def MergeNamesTheFirstCardSaid : Prop := Claim7.holds Tryd.pinned (.plain (OpenSpec.ofChange mergeNamesTheFirstSpec)) mergeNamesTheFirstCard

/-- THE TIED CARD OF 'simulacrumlaw42.MergeGoesFurther'. -/
def mergeGoesFurtherCard : Claim7 := { stood := { row := mergeGoesFurtherRow, standIns := [], harness := (true, "6a152c3ed4e46f3a01a279c48d06b84aecc433f5ceed276dc42a3b60f305510b"), looks := false }, kinds := [], alts := [], laidByText := true, laidKinds := [.data], laidTests := true, laidLooks := .later }
def MergeGoesFurtherCardSaid : Prop := Claim7.holds Tryd.pinned (.plain (OpenSpec.ofChange mergeGoesFurtherSpec)) mergeGoesFurtherCard

/-- THE SECOND FORM's CARD OF 'simulacrumlaw42.MergeComparesAsSpecified'. -/
def mergeComparesAsSpecifiedUptoCard : Claim7 := { stood := { row := mergeComparesAsSpecifiedUptoRow, standIns := [], harness := (true, "6a152c3ed4e46f3a01a279c48d06b84aecc433f5ceed276dc42a3b60f305510b"), looks := false }, kinds := [], alts := [], laidByText := true, laidKinds := [.data], laidTests := true, laidLooks := .later }
def MergeComparesAsSpecifiedUptoCardSaid : Prop := Claim7.holds Tryd.pinned (.plain (OpenSpec.upto mergeComparesAsSpecifiedSpec)) mergeComparesAsSpecifiedUptoCard

/-- THE SECOND FORM's CARD OF 'simulacrumlaw42.MergeIsAnOrder'. -/
def mergeIsAnOrderUptoCard : Claim7 := { stood := { row := mergeIsAnOrderUptoRow, standIns := [], harness := (true, "6a152c3ed4e46f3a01a279c48d06b84aecc433f5ceed276dc42a3b60f305510b"), looks := false }, kinds := [], alts := [], laidByText := true, laidKinds := [.data], laidTests := true, laidLooks := .later }
def MergeIsAnOrderUptoCardSaid : Prop := Claim7.holds Tryd.pinned (.plain (OpenSpec.upto mergeIsAnOrderSpec)) mergeIsAnOrderUptoCard

/-- THE SECOND FORM's CARD OF 'simulacrumlaw42.MergeIgnoresSlicing'. -/
def mergeIgnoresSlicingUptoCard : Claim7 := { stood := { row := mergeIgnoresSlicingUptoRow, standIns := [], harness := (true, "6a152c3ed4e46f3a01a279c48d06b84aecc433f5ceed276dc42a3b60f305510b"), looks := false }, kinds := [], alts := [], laidByText := true, laidKinds := [.data], laidTests := true, laidLooks := .later }
def MergeIgnoresSlicingUptoCardSaid : Prop := Claim7.holds Tryd.pinned (.plain (OpenSpec.upto mergeIgnoresSlicingSpec)) mergeIgnoresSlicingUptoCard

/-- THE SECOND FORM's CARD OF 'simulacrumlaw42.MergeNamesTheFirst'. -/
def mergeNamesTheFirstUptoCard : Claim7 := { stood := { row := mergeNamesTheFirstUptoRow, standIns := [], harness := (true, "6a152c3ed4e46f3a01a279c48d06b84aecc433f5ceed276dc42a3b60f305510b"), looks := false }, kinds := [], alts := [], laidByText := true, laidKinds := [.data], laidTests := true, laidLooks := .later }
def MergeNamesTheFirstUptoCardSaid : Prop := Claim7.holds Tryd.pinned (.plain (OpenSpec.upto mergeNamesTheFirstSpec)) mergeNamesTheFirstUptoCard

/-- THE SECOND FORM's CARD OF 'simulacrumlaw42.MergeGoesFurther'. -/
def mergeGoesFurtherUptoCard : Claim7 := { stood := { row := mergeGoesFurtherUptoRow, standIns := [], harness := (true, "6a152c3ed4e46f3a01a279c48d06b84aecc433f5ceed276dc42a3b60f305510b"), looks := false }, kinds := [], alts := [], laidByText := true, laidKinds := [.data], laidTests := true, laidLooks := .later }
def MergeGoesFurtherUptoCardSaid : Prop := Claim7.holds Tryd.pinned (.plain (OpenSpec.upto mergeGoesFurtherSpec)) mergeGoesFurtherUptoCard
end Rows
end Go.Proofs.YtljmjkpmkpchoaaDoor
