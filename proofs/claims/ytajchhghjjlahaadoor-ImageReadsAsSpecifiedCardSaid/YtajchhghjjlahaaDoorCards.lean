/-
  DERIVED. GIVEN WITH THE SEED: THE CARDS: each row of YtajchhghjjlahaaDoorRows.lean that lists a variable, with what it lists TIED to the program's text (the seventh form; the later family's looks); each row that meets fmt, with fmt's text TOLD by the authors' own Lean function (tested against real Go, not proved from fmt's source: count such statements apart). THE CARD IS WHAT COUNTS. Prove the row's statement (the work); the ties are given (YtajchhghjjlahaaDoorTie.lean); close each card by the builder's one call (the guide's Derived/Test/ToyasCard.lean, 'card_holds'). Laid BY PROGRAM, IN A SANDBOX (cutbox-door.mjs). By AI agents, Wed Nov 11 2026. No macro, syntax, notation, axiom, sorry.
-/
import Derived.Test.YtajchhghjjlahaaDoorRows
import GoSem.ClaimSeven
namespace Go.Proofs.YtajchhghjjlahaaDoor
namespace Rows

/-- THE TIED CARD OF 'simulacrumlaw09.ImageLoadsAsSpecified'. -/
def imageLoadsAsSpecifiedCard : Claim7 := { stood := { row := imageLoadsAsSpecifiedRow, standIns := [], harness := (true, "df4de7e760a39aded678bdcf274863eb37b560410a29a29bb8e2199c2a01bf6d"), looks := false }, kinds := [], alts := [], laidByText := true, laidKinds := [.data, .data, .data, .pinned], laidTests := true, laidLooks := .later }
def ImageLoadsAsSpecifiedCardSaid : Prop := Claim7.holds Tryd.pinned (.plain (OpenSpec.ofChange imageLoadsAsSpecifiedSpec)) imageLoadsAsSpecifiedCard

/-- THE TIED CARD OF 'simulacrumlaw09.ImageReadsAsSpecified'. -/
def imageReadsAsSpecifiedCard : Claim7 := { stood := { row := imageReadsAsSpecifiedRow, standIns := [], harness := (true, "df4de7e760a39aded678bdcf274863eb37b560410a29a29bb8e2199c2a01bf6d"), looks := false }, kinds := [], alts := [], laidByText := true, laidKinds := [.data, .data, .pinned], laidTests := true, laidLooks := .later }
def ImageReadsAsSpecifiedCardSaid : Prop := Claim7.holds Tryd.pinned (.plain (OpenSpec.ofChange imageReadsAsSpecifiedSpec)) imageReadsAsSpecifiedCard

/-- THE TIED CARD OF 'simulacrumlaw09.ImageHasItsBytes'. -/
def imageHasItsBytesCard : Claim7 := { stood := { row := imageHasItsBytesRow, standIns := [], harness := (true, "df4de7e760a39aded678bdcf274863eb37b560410a29a29bb8e2199c2a01bf6d"), looks := false }, kinds := [], alts := [], laidByText := true, laidKinds := [.data, .data, .pinned], laidTests := true, laidLooks := .later }
def ImageHasItsBytesCardSaid : Prop := Claim7.holds Tryd.pinned (.plain (OpenSpec.ofChange imageHasItsBytesSpec)) imageHasItsBytesCard

/-- THE TIED CARD OF 'simulacrumlaw09.ImageReadsBack'. -/
def imageReadsBackCard : Claim7 := { stood := { row := imageReadsBackRow, standIns := [], harness := (true, "df4de7e760a39aded678bdcf274863eb37b560410a29a29bb8e2199c2a01bf6d"), looks := false }, kinds := [], alts := [], laidByText := true, laidKinds := [.data, .data, .pinned], laidTests := true, laidLooks := .later }
def ImageReadsBackCardSaid : Prop := Claim7.holds Tryd.pinned (.plain (OpenSpec.ofChange imageReadsBackSpec)) imageReadsBackCard

/-- THE TIED CARD OF 'simulacrumlaw09.ImageBeginsCalm'. -/
def imageBeginsCalmCard : Claim7 := { stood := { row := imageBeginsCalmRow, standIns := [], harness := (true, "df4de7e760a39aded678bdcf274863eb37b560410a29a29bb8e2199c2a01bf6d"), looks := false }, kinds := [], alts := [], laidByText := true, laidKinds := [.data, .data, .pinned], laidTests := true, laidLooks := .later }
def ImageBeginsCalmCardSaid : Prop := Claim7.holds Tryd.pinned (.plain (OpenSpec.ofChange imageBeginsCalmSpec)) imageBeginsCalmCard

/-- THE TIED CARD OF 'simulacrumlaw09.ImageOfLoads'. -/
def imageOfLoadsCard : Claim7 := { stood := { row := imageOfLoadsRow, standIns := [], harness := (true, "df4de7e760a39aded678bdcf274863eb37b560410a29a29bb8e2199c2a01bf6d"), looks := false }, kinds := [], alts := [], laidByText := true, laidKinds := [.data, .data, .pinned], laidTests := true, laidLooks := .later }
def ImageOfLoadsCardSaid : Prop := Claim7.holds Tryd.pinned (.plain (OpenSpec.ofChange imageOfLoadsSpec)) imageOfLoadsCard

/-- THE SECOND FORM's CARD OF 'simulacrumlaw09.ImageLoadsAsSpecified'. -/
def imageLoadsAsSpecifiedUptoCard : Claim7 := { stood := { row := imageLoadsAsSpecifiedUptoRow, standIns := [], harness := (true, "df4de7e760a39aded678bdcf274863eb37b560410a29a29bb8e2199c2a01bf6d"), looks := false }, kinds := [], alts := [], laidByText := true, laidKinds := [.data, .data, .data, .pinned], laidTests := true, laidLooks := .later }
def ImageLoadsAsSpecifiedUptoCardSaid : Prop := Claim7.holds Tryd.pinned (.plain (OpenSpec.upto imageLoadsAsSpecifiedSpec)) imageLoadsAsSpecifiedUptoCard

/-- THE SECOND FORM's CARD OF 'simulacrumlaw09.ImageReadsAsSpecified'. -/
def imageReadsAsSpecifiedUptoCard : Claim7 := { stood := { row := imageReadsAsSpecifiedUptoRow, standIns := [], harness := (true, "df4de7e760a39aded678bdcf274863eb37b560410a29a29bb8e2199c2a01bf6d"), looks := false }, kinds := [], alts := [], laidByText := true, laidKinds := [.data, .data, .pinned], laidTests := true, laidLooks := .later }
def ImageReadsAsSpecifiedUptoCardSaid : Prop := Claim7.holds Tryd.pinned (.plain (OpenSpec.upto imageReadsAsSpecifiedSpec)) imageReadsAsSpecifiedUptoCard

/-- THE SECOND FORM's CARD OF 'simulacrumlaw09.ImageHasItsBytes'. -/
def imageHasItsBytesUptoCard : Claim7 := { stood := { row := imageHasItsBytesUptoRow, standIns := [], harness := (true, "df4de7e760a39aded678bdcf274863eb37b560410a29a29bb8e2199c2a01bf6d"), looks := false }, kinds := [], alts := [], laidByText := true, laidKinds := [.data, .data, .pinned], laidTests := true, laidLooks := .later }
def ImageHasItsBytesUptoCardSaid : Prop := Claim7.holds Tryd.pinned (.plain (OpenSpec.upto imageHasItsBytesSpec)) imageHasItsBytesUptoCard

/-- THE SECOND FORM's CARD OF 'simulacrumlaw09.ImageReadsBack'. -/
def imageReadsBackUptoCard : Claim7 := { stood := { row := imageReadsBackUptoRow, standIns := [], harness := (true, "df4de7e760a39aded678bdcf274863eb37b560410a29a29bb8e2199c2a01bf6d"), looks := false }, kinds := [], alts := [], laidByText := true, laidKinds := [.data, .data, .pinned], laidTests := true, laidLooks := .later }
def ImageReadsBackUptoCardSaid : Prop := Claim7.holds Tryd.pinned (.plain (OpenSpec.upto imageReadsBackSpec)) imageReadsBackUptoCard

/-- THE SECOND FORM's CARD OF 'simulacrumlaw09.ImageBeginsCalm'. -/
def imageBeginsCalmUptoCard : Claim7 := { stood := { row := imageBeginsCalmUptoRow, standIns := [], harness := (true, "df4de7e760a39aded678bdcf274863eb37b560410a29a29bb8e2199c2a01bf6d"), looks := false }, kinds := [], alts := [], laidByText := true, laidKinds := [.data, .data, .pinned], laidTests := true, laidLooks := .later }
def ImageBeginsCalmUptoCardSaid : Prop := Claim7.holds Tryd.pinned (.plain (OpenSpec.upto imageBeginsCalmSpec)) imageBeginsCalmUptoCard

/-- THE SECOND FORM's CARD OF 'simulacrumlaw09.ImageOfLoads'. -/
def imageOfLoadsUptoCard : Claim7 := { stood := { row := imageOfLoadsUptoRow, standIns := [], harness := (true, "df4de7e760a39aded678bdcf274863eb37b560410a29a29bb8e2199c2a01bf6d"), looks := false }, kinds := [], alts := [], laidByText := true, laidKinds := [.data, .data, .pinned], laidTests := true, laidLooks := .later }
def ImageOfLoadsUptoCardSaid : Prop := Claim7.holds Tryd.pinned (.plain (OpenSpec.upto imageOfLoadsSpec)) imageOfLoadsUptoCard
end Rows
end Go.Proofs.YtajchhghjjlahaaDoor
