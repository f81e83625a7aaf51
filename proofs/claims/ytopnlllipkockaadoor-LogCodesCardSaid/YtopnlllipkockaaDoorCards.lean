/-
  DERIVED. GIVEN WITH THE SEED: THE CARDS: each row of YtopnlllipkockaaDoorRows.lean that lists a variable, with what it lists TIED to the program's text (the seventh form; the later family's looks); each row that meets fmt, with fmt's text TOLD by the authors' own Lean function (tested against real Go, not proved from fmt's source: count such statements apart). THE CARD IS WHAT COUNTS. Prove the row's statement (the work); the ties are given (YtopnlllipkockaaDoorTie.lean); close each card by the builder's one call (the guide's Derived/Test/ToyasCard.lean, 'card_holds'). Laid BY PROGRAM, IN A SANDBOX (cutbox-door.mjs). By AI agents, Wed Nov 11 2026. No macro, syntax, notation, axiom, sorry.
-/
import Derived.Test.YtopnlllipkockaaDoorRows
import GoSem.ClaimSeven
namespace Go.Proofs.YtopnlllipkockaaDoor
namespace Rows

/-- THE TIED CARD OF 'simulacrumlaw29.LogChecksAsSpecified'. -/
def logChecksAsSpecifiedCard : Claim7 := { stood := { row := logChecksAsSpecifiedRow, standIns := [], harness := (true, "f8b715c6edba154dcdbffd225845b718db2e98ca3359b4a06897702122d7ceb9"), looks := false }, kinds := [], alts := [], laidByText := true, laidKinds := [.data, .data], laidTests := true, laidLooks := .later }
def LogChecksAsSpecifiedCardSaid : Prop := Claim7.holds Tryd.pinned (.plain (OpenSpec.ofChange logChecksAsSpecifiedSpec)) logChecksAsSpecifiedCard

/-- THE TIED CARD OF 'simulacrumlaw29.LogGrowsAsSpecified'. -/
def logGrowsAsSpecifiedCard : Claim7 := { stood := { row := logGrowsAsSpecifiedRow, standIns := [], harness := (true, "f8b715c6edba154dcdbffd225845b718db2e98ca3359b4a06897702122d7ceb9"), looks := false }, kinds := [], alts := [], laidByText := true, laidKinds := [.data, .data], laidTests := true, laidLooks := .later }
def LogGrowsAsSpecifiedCardSaid : Prop := Claim7.holds Tryd.pinned (.plain (OpenSpec.ofChange logGrowsAsSpecifiedSpec)) logGrowsAsSpecifiedCard

/-- THE TIED CARD OF 'simulacrumlaw29.LogStaysRight'. -/
def logStaysRightCard : Claim7 := { stood := { row := logStaysRightRow, standIns := [], harness := (true, "f8b715c6edba154dcdbffd225845b718db2e98ca3359b4a06897702122d7ceb9"), looks := false }, kinds := [], alts := [], laidByText := true, laidKinds := [.data], laidTests := true, laidLooks := .later }
def LogStaysRightCardSaid : Prop := Claim7.holds Tryd.pinned (.plain (OpenSpec.ofChange logStaysRightSpec)) logStaysRightCard

/-- THE TIED CARD OF 'simulacrumlaw29.LogChainBinds'. -/
def logChainBindsCard : Claim7 := { stood := { row := logChainBindsRow, standIns := [], harness := (true, "f8b715c6edba154dcdbffd225845b718db2e98ca3359b4a06897702122d7ceb9"), looks := false }, kinds := [], alts := [], laidByText := true, laidKinds := [.data, .data], laidTests := true, laidLooks := .later }
def LogChainBindsCardSaid : Prop := Claim7.holds Tryd.pinned (.plain (OpenSpec.ofChange logChainBindsSpec)) logChainBindsCard

/-- THE TIED CARD OF 'simulacrumlaw29.LogSealsHold'. -/
def logSealsHoldCard : Claim7 := { stood := { row := logSealsHoldRow, standIns := [], harness := (true, "f8b715c6edba154dcdbffd225845b718db2e98ca3359b4a06897702122d7ceb9"), looks := false }, kinds := [], alts := [], laidByText := true, laidKinds := [.data, .data], laidTests := true, laidLooks := .later }
def LogSealsHoldCardSaid : Prop := Claim7.holds Tryd.pinned (.plain (OpenSpec.ofChange logSealsHoldSpec)) logSealsHoldCard

/-- THE TIED CARD OF 'simulacrumlaw29.LogCodes'. -/
def logCodesCard : Claim7 := { stood := { row := logCodesRow, standIns := [], harness := (true, "f8b715c6edba154dcdbffd225845b718db2e98ca3359b4a06897702122d7ceb9"), looks := false }, kinds := [], alts := [], laidByText := true, laidKinds := [.data, .data], laidTests := true, laidLooks := .later }
def LogCodesCardSaid : Prop := Claim7.holds Tryd.pinned (.plain (OpenSpec.ofChange logCodesSpec)) logCodesCard

/-- THE SECOND FORM's CARD OF 'simulacrumlaw29.LogChecksAsSpecified'. -/
def logChecksAsSpecifiedUptoCard : Claim7 := { stood := { row := logChecksAsSpecifiedUptoRow, standIns := [], harness := (true, "f8b715c6edba154dcdbffd225845b718db2e98ca3359b4a06897702122d7ceb9"), looks := false }, kinds := [], alts := [], laidByText := true, laidKinds := [.data, .data], laidTests := true, laidLooks := .later }
def LogChecksAsSpecifiedUptoCardSaid : Prop := Claim7.holds Tryd.pinned (.plain (OpenSpec.upto logChecksAsSpecifiedSpec)) logChecksAsSpecifiedUptoCard

/-- THE SECOND FORM's CARD OF 'simulacrumlaw29.LogGrowsAsSpecified'. -/
def logGrowsAsSpecifiedUptoCard : Claim7 := { stood := { row := logGrowsAsSpecifiedUptoRow, standIns := [], harness := (true, "f8b715c6edba154dcdbffd225845b718db2e98ca3359b4a06897702122d7ceb9"), looks := false }, kinds := [], alts := [], laidByText := true, laidKinds := [.data, .data], laidTests := true, laidLooks := .later }
def LogGrowsAsSpecifiedUptoCardSaid : Prop := Claim7.holds Tryd.pinned (.plain (OpenSpec.upto logGrowsAsSpecifiedSpec)) logGrowsAsSpecifiedUptoCard

/-- THE SECOND FORM's CARD OF 'simulacrumlaw29.LogStaysRight'. -/
def logStaysRightUptoCard : Claim7 := { stood := { row := logStaysRightUptoRow, standIns := [], harness := (true, "f8b715c6edba154dcdbffd225845b718db2e98ca3359b4a06897702122d7ceb9"), looks := false }, kinds := [], alts := [], laidByText := true, laidKinds := [.data], laidTests := true, laidLooks := .later }
def LogStaysRightUptoCardSaid : Prop := Claim7.holds Tryd.pinned (.plain (OpenSpec.upto logStaysRightSpec)) logStaysRightUptoCard

/-- THE SECOND FORM's CARD OF 'simulacrumlaw29.LogChainBinds'. -/
def logChainBindsUptoCard : Claim7 := { stood := { row := logChainBindsUptoRow, standIns := [], harness := (true, "f8b715c6edba154dcdbffd225845b718db2e98ca3359b4a06897702122d7ceb9"), looks := false }, kinds := [], alts := [], laidByText := true, laidKinds := [.data, .data], laidTests := true, laidLooks := .later }
def LogChainBindsUptoCardSaid : Prop := Claim7.holds Tryd.pinned (.plain (OpenSpec.upto logChainBindsSpec)) logChainBindsUptoCard

/-- THE SECOND FORM's CARD OF 'simulacrumlaw29.LogSealsHold'. -/
def logSealsHoldUptoCard : Claim7 := { stood := { row := logSealsHoldUptoRow, standIns := [], harness := (true, "f8b715c6edba154dcdbffd225845b718db2e98ca3359b4a06897702122d7ceb9"), looks := false }, kinds := [], alts := [], laidByText := true, laidKinds := [.data, .data], laidTests := true, laidLooks := .later }
def LogSealsHoldUptoCardSaid : Prop := Claim7.holds Tryd.pinned (.plain (OpenSpec.upto logSealsHoldSpec)) logSealsHoldUptoCard

/-- THE SECOND FORM's CARD OF 'simulacrumlaw29.LogCodes'. -/
def logCodesUptoCard : Claim7 := { stood := { row := logCodesUptoRow, standIns := [], harness := (true, "f8b715c6edba154dcdbffd225845b718db2e98ca3359b4a06897702122d7ceb9"), looks := false }, kinds := [], alts := [], laidByText := true, laidKinds := [.data, .data], laidTests := true, laidLooks := .later }
def LogCodesUptoCardSaid : Prop := Claim7.holds Tryd.pinned (.plain (OpenSpec.upto logCodesSpec)) logCodesUptoCard
end Rows
end Go.Proofs.YtopnlllipkockaaDoor
