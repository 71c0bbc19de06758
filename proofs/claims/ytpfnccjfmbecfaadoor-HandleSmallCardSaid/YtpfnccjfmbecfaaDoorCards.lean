/-
  DERIVED. GIVEN WITH THE SEED: THE CARDS: each row of YtpfnccjfmbecfaaDoorRows.lean that lists a variable, with what it lists TIED to the program's text (the seventh form; the later family's looks); each row that meets fmt, with fmt's text TOLD by the authors' own Lean function (tested against real Go, not proved from fmt's source: count such statements apart). THE CARD IS WHAT COUNTS. Prove the row's statement (the work); the ties are given (YtpfnccjfmbecfaaDoorTie.lean); close each card by the builder's one call (the guide's Derived/Test/ToyasCard.lean, 'card_holds'). Laid BY PROGRAM, IN A SANDBOX (cutbox-door.mjs). By AI agents, Wed Nov 11 2026. No macro, syntax, notation, axiom, sorry.
-/
import Derived.Test.YtpfnccjfmbecfaaDoorRows
import GoSem.ClaimSeven
namespace Go.Proofs.YtpfnccjfmbecfaaDoor
namespace Rows

/-- THE TIED CARD OF 'burgagelaw16.HandleReads'. -/
def handleReadsCard : Claim7 := { stood := { row := handleReadsRow, standIns := [], harness := (true, "508868fc4ada9e67d05d87b81bfb4461786256198486ad2d64120f48ea6e599a"), looks := true }, kinds := [], alts := [], laidByText := true, laidKinds := [.data, .data, .data, .data, .sentinel, .sentinel, .pinned], laidTests := true, laidLooks := .later }
def HandleReadsCardSaid : Prop := Claim7.holds Tryd.pinned (.plain (OpenSpec.ofChange handleReadsSpec)) handleReadsCard

/-- THE TIED CARD OF 'burgagelaw16.HandleBack'. -/
def handleBackCard : Claim7 := { stood := { row := handleBackRow, standIns := [], harness := (true, "508868fc4ada9e67d05d87b81bfb4461786256198486ad2d64120f48ea6e599a"), looks := true }, kinds := [], alts := [], laidByText := true, laidKinds := [.data, .data, .data, .data, .sentinel, .sentinel, .pinned], laidTests := true, laidLooks := .later }
def HandleBackCardSaid : Prop := Claim7.holds Tryd.pinned (.plain (OpenSpec.ofChange handleBackSpec)) handleBackCard

/-- THE TIED CARD OF 'burgagelaw16.HandleTells'. -/
def handleTellsCard : Claim7 := { stood := { row := handleTellsRow, standIns := [], harness := (true, "508868fc4ada9e67d05d87b81bfb4461786256198486ad2d64120f48ea6e599a"), looks := true }, kinds := [], alts := [], laidByText := true, laidKinds := [.data, .data, .data, .data, .sentinel, .sentinel, .pinned], laidTests := true, laidLooks := .later }
def HandleTellsCardSaid : Prop := Claim7.holds Tryd.pinned (.plain (OpenSpec.ofChange handleTellsSpec)) handleTellsCard

/-- THE TIED CARD OF 'burgagelaw16.HandleSmall'. -/
def handleSmallCard : Claim7 := { stood := { row := handleSmallRow, standIns := [], harness := (true, "508868fc4ada9e67d05d87b81bfb4461786256198486ad2d64120f48ea6e599a"), looks := true }, kinds := [], alts := [], laidByText := true, laidKinds := [.data, .data, .data, .data, .sentinel, .sentinel, .pinned], laidTests := true, laidLooks := .later }
def HandleSmallCardSaid : Prop := Claim7.holds Tryd.pinned (.plain (OpenSpec.ofChange handleSmallSpec)) handleSmallCard

/-- THE TIED CARD OF 'burgagelaw16.HandleGrants'. -/
def handleGrantsCard : Claim7 := { stood := { row := handleGrantsRow, standIns := [], harness := (true, "508868fc4ada9e67d05d87b81bfb4461786256198486ad2d64120f48ea6e599a"), looks := true }, kinds := [], alts := [], laidByText := true, laidKinds := [.data, .data, .data, .data, .sentinel, .sentinel, .pinned], laidTests := true, laidLooks := .later }
def HandleGrantsCardSaid : Prop := Claim7.holds Tryd.pinned (.plain (OpenSpec.ofChange handleGrantsSpec)) handleGrantsCard

/-- THE TIED CARD OF 'burgagelaw16.HandleApart'. -/
def handleApartCard : Claim7 := { stood := { row := handleApartRow, standIns := [], harness := (true, "508868fc4ada9e67d05d87b81bfb4461786256198486ad2d64120f48ea6e599a"), looks := true }, kinds := [], alts := [], laidByText := true, laidKinds := [.data, .data, .data, .data, .sentinel, .sentinel, .pinned], laidTests := true, laidLooks := .later }
def HandleApartCardSaid : Prop := Claim7.holds Tryd.pinned (.plain (OpenSpec.ofChange handleApartSpec)) handleApartCard

/-- THE SECOND FORM's CARD OF 'burgagelaw16.HandleReads'. -/
def handleReadsUptoCard : Claim7 := { stood := { row := handleReadsUptoRow, standIns := [], harness := (true, "508868fc4ada9e67d05d87b81bfb4461786256198486ad2d64120f48ea6e599a"), looks := true }, kinds := [], alts := [], laidByText := true, laidKinds := [.data, .data, .data, .data, .sentinel, .sentinel, .pinned], laidTests := true, laidLooks := .later }
def HandleReadsUptoCardSaid : Prop := Claim7.holds Tryd.pinned (.plain (OpenSpec.upto handleReadsSpec)) handleReadsUptoCard

/-- THE SECOND FORM's CARD OF 'burgagelaw16.HandleBack'. -/
def handleBackUptoCard : Claim7 := { stood := { row := handleBackUptoRow, standIns := [], harness := (true, "508868fc4ada9e67d05d87b81bfb4461786256198486ad2d64120f48ea6e599a"), looks := true }, kinds := [], alts := [], laidByText := true, laidKinds := [.data, .data, .data, .data, .sentinel, .sentinel, .pinned], laidTests := true, laidLooks := .later }
def HandleBackUptoCardSaid : Prop := Claim7.holds Tryd.pinned (.plain (OpenSpec.upto handleBackSpec)) handleBackUptoCard

/-- THE SECOND FORM's CARD OF 'burgagelaw16.HandleTells'. -/
def handleTellsUptoCard : Claim7 := { stood := { row := handleTellsUptoRow, standIns := [], harness := (true, "508868fc4ada9e67d05d87b81bfb4461786256198486ad2d64120f48ea6e599a"), looks := true }, kinds := [], alts := [], laidByText := true, laidKinds := [.data, .data, .data, .data, .sentinel, .sentinel, .pinned], laidTests := true, laidLooks := .later }
def HandleTellsUptoCardSaid : Prop := Claim7.holds Tryd.pinned (.plain (OpenSpec.upto handleTellsSpec)) handleTellsUptoCard

/-- THE SECOND FORM's CARD OF 'burgagelaw16.HandleSmall'. -/
def handleSmallUptoCard : Claim7 := { stood := { row := handleSmallUptoRow, standIns := [], harness := (true, "508868fc4ada9e67d05d87b81bfb4461786256198486ad2d64120f48ea6e599a"), looks := true }, kinds := [], alts := [], laidByText := true, laidKinds := [.data, .data, .data, .data, .sentinel, .sentinel, .pinned], laidTests := true, laidLooks := .later }
def HandleSmallUptoCardSaid : Prop := Claim7.holds Tryd.pinned (.plain (OpenSpec.upto handleSmallSpec)) handleSmallUptoCard

/-- THE SECOND FORM's CARD OF 'burgagelaw16.HandleGrants'. -/
def handleGrantsUptoCard : Claim7 := { stood := { row := handleGrantsUptoRow, standIns := [], harness := (true, "508868fc4ada9e67d05d87b81bfb4461786256198486ad2d64120f48ea6e599a"), looks := true }, kinds := [], alts := [], laidByText := true, laidKinds := [.data, .data, .data, .data, .sentinel, .sentinel, .pinned], laidTests := true, laidLooks := .later }
def HandleGrantsUptoCardSaid : Prop := Claim7.holds Tryd.pinned (.plain (OpenSpec.upto handleGrantsSpec)) handleGrantsUptoCard

/-- THE SECOND FORM's CARD OF 'burgagelaw16.HandleApart'. -/
def handleApartUptoCard : Claim7 := { stood := { row := handleApartUptoRow, standIns := [], harness := (true, "508868fc4ada9e67d05d87b81bfb4461786256198486ad2d64120f48ea6e599a"), looks := true }, kinds := [], alts := [], laidByText := true, laidKinds := [.data, .data, .data, .data, .sentinel, .sentinel, .pinned], laidTests := true, laidLooks := .later }
def HandleApartUptoCardSaid : Prop := Claim7.holds Tryd.pinned (.plain (OpenSpec.upto handleApartSpec)) handleApartUptoCard
end Rows
end Go.Proofs.YtpfnccjfmbecfaaDoor
