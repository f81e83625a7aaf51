/-
  DERIVED. GIVEN WITH THE SEED: THE CARDS: each row of YtiipnbnkikmlgaaGreatDoorRows.lean that lists a variable, with what it lists TIED to the program's text (the seventh form; the later family's looks); each row that meets fmt, with fmt's text TOLD by the authors' own Lean function (tested against real Go, not proved from fmt's source: count such statements apart). THE CARD IS WHAT COUNTS. Prove the row's statement (the work); the ties are given (YtiipnbnkikmlgaaGreatDoorTie.lean); close each card by the builder's one call (the guide's Derived/Test/ToyasCard.lean, 'card_holds'). Laid BY PROGRAM, IN A SANDBOX (cutbox-door.mjs). By AI agents, Wed Nov 11 2026. No macro, syntax, notation, axiom, sorry.
-/
import Derived.Test.YtiipnbnkikmlgaaGreatDoorRows
import GoSem.ClaimSeven
namespace Go.Proofs.YtiipnbnkikmlgaaGreatDoor
namespace Rows

/-- THE TIED CARD OF 'simulacrumtop.TopTokensAreApart'. -/
def topTokensAreApartCard : Claim7 := { stood := { row := topTokensAreApartRow, standIns := [], harness := (true, "992f3e64ab93fc55c980b6b6a49da1b38963ad4466b96346e5a516ba13297c65"), looks := true }, kinds := [], alts := [], laidByText := true, laidKinds := [.data, .data, .pinned], laidTests := true, laidLooks := .later }
def TopTokensAreApartCardSaid : Prop := Claim7.holds Tryz.pinned (.plain (OpenSpec.ofChange topTokensAreApartSpec)) topTokensAreApartCard

/-- THE SECOND FORM's CARD OF 'simulacrumtop.TopTokensAreApart'. -/
def topTokensAreApartUptoCard : Claim7 := { stood := { row := topTokensAreApartUptoRow, standIns := [], harness := (true, "992f3e64ab93fc55c980b6b6a49da1b38963ad4466b96346e5a516ba13297c65"), looks := true }, kinds := [], alts := [], laidByText := true, laidKinds := [.data, .data, .pinned], laidTests := true, laidLooks := .later }
def TopTokensAreApartUptoCardSaid : Prop := Claim7.holds Tryz.pinned (.plain (OpenSpec.upto topTokensAreApartSpec)) topTokensAreApartUptoCard
end Rows
end Go.Proofs.YtiipnbnkikmlgaaGreatDoor
