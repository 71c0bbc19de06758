/-
  DERIVED. GIVEN WITH THE SEED: THE CARDS: each row of YtllcppdgamagoaaDoorRows.lean that lists a variable, with what it lists TIED to the program's text (the seventh form; the later family's looks); each row that meets fmt, with fmt's text TOLD by the authors' own Lean function (tested against real Go, not proved from fmt's source: count such statements apart). THE CARD IS WHAT COUNTS. Prove the row's statement (the work); the ties are given (YtllcppdgamagoaaDoorTie.lean); close each card by the builder's one call (the guide's Derived/Test/ToyasCard.lean, 'card_holds'). Laid BY PROGRAM, IN A SANDBOX (cutbox-door.mjs). By AI agents, Wed Nov 11 2026. No macro, syntax, notation, axiom, sorry.
-/
import Derived.Test.YtllcppdgamagoaaDoorRows
import GoSem.ClaimSeven
namespace Go.Proofs.YtllcppdgamagoaaDoor
namespace Rows

/-- THE TIED CARD OF 'burgagelaw01.VwordOnce'. -/
def vwordOnceCard : Claim7 := { stood := { row := vwordOnceRow, standIns := [], harness := (true, "90c8df5829344921b9a4a92807ad23e83c76b9b54d6d9bdcb0bf2c6c5800deb4"), looks := true }, kinds := [], alts := [], laidByText := true, laidKinds := [.data, .data, .data], laidTests := true, laidLooks := .later }
def VwordOnceCardSaid : Prop := Claim7.holds Tryd.pinned (.plain (OpenSpec.ofChange vwordOnceSpec)) vwordOnceCard

/-- THE TIED CARD OF 'burgagelaw01.VwordTells'. -/
def vwordTellsCard : Claim7 := { stood := { row := vwordTellsRow, standIns := [], harness := (true, "90c8df5829344921b9a4a92807ad23e83c76b9b54d6d9bdcb0bf2c6c5800deb4"), looks := true }, kinds := [], alts := [], laidByText := true, laidKinds := [.data, .data, .data], laidTests := true, laidLooks := .later }
def VwordTellsCardSaid : Prop := Claim7.holds Tryd.pinned (.plain (OpenSpec.ofChange vwordTellsSpec)) vwordTellsCard

/-- THE TIED CARD OF 'burgagelaw01.VwordReads'. -/
def vwordReadsCard : Claim7 := { stood := { row := vwordReadsRow, standIns := [], harness := (true, "90c8df5829344921b9a4a92807ad23e83c76b9b54d6d9bdcb0bf2c6c5800deb4"), looks := true }, kinds := [], alts := [], laidByText := true, laidKinds := [.data, .data, .data, .sentinel, .sentinel], laidTests := true, laidLooks := .later }
def VwordReadsCardSaid : Prop := Claim7.holds Tryd.pinned (.plain (OpenSpec.ofChange vwordReadsSpec)) vwordReadsCard

/-- THE TIED CARD OF 'burgagelaw01.VwordEnds'. -/
def vwordEndsCard : Claim7 := { stood := { row := vwordEndsRow, standIns := [], harness := (true, "90c8df5829344921b9a4a92807ad23e83c76b9b54d6d9bdcb0bf2c6c5800deb4"), looks := true }, kinds := [], alts := [], laidByText := true, laidKinds := [.data, .data, .data, .sentinel, .sentinel], laidTests := true, laidLooks := .later }
def VwordEndsCardSaid : Prop := Claim7.holds Tryd.pinned (.plain (OpenSpec.ofChange vwordEndsSpec)) vwordEndsCard

/-- THE TIED CARD OF 'burgagelaw01.VwordParts'. -/
def vwordPartsCard : Claim7 := { stood := { row := vwordPartsRow, standIns := [], harness := (true, "90c8df5829344921b9a4a92807ad23e83c76b9b54d6d9bdcb0bf2c6c5800deb4"), looks := true }, kinds := [], alts := [], laidByText := true, laidKinds := [.data, .data, .data, .sentinel, .sentinel], laidTests := true, laidLooks := .later }
def VwordPartsCardSaid : Prop := Claim7.holds Tryd.pinned (.plain (OpenSpec.ofChange vwordPartsSpec)) vwordPartsCard

/-- THE SECOND FORM's CARD OF 'burgagelaw01.VwordOnce'. -/
def vwordOnceUptoCard : Claim7 := { stood := { row := vwordOnceUptoRow, standIns := [], harness := (true, "90c8df5829344921b9a4a92807ad23e83c76b9b54d6d9bdcb0bf2c6c5800deb4"), looks := true }, kinds := [], alts := [], laidByText := true, laidKinds := [.data, .data, .data], laidTests := true, laidLooks := .later }
def VwordOnceUptoCardSaid : Prop := Claim7.holds Tryd.pinned (.plain (OpenSpec.upto vwordOnceSpec)) vwordOnceUptoCard

/-- THE SECOND FORM's CARD OF 'burgagelaw01.VwordTells'. -/
def vwordTellsUptoCard : Claim7 := { stood := { row := vwordTellsUptoRow, standIns := [], harness := (true, "90c8df5829344921b9a4a92807ad23e83c76b9b54d6d9bdcb0bf2c6c5800deb4"), looks := true }, kinds := [], alts := [], laidByText := true, laidKinds := [.data, .data, .data], laidTests := true, laidLooks := .later }
def VwordTellsUptoCardSaid : Prop := Claim7.holds Tryd.pinned (.plain (OpenSpec.upto vwordTellsSpec)) vwordTellsUptoCard

/-- THE SECOND FORM's CARD OF 'burgagelaw01.VwordReads'. -/
def vwordReadsUptoCard : Claim7 := { stood := { row := vwordReadsUptoRow, standIns := [], harness := (true, "90c8df5829344921b9a4a92807ad23e83c76b9b54d6d9bdcb0bf2c6c5800deb4"), looks := true }, kinds := [], alts := [], laidByText := true, laidKinds := [.data, .data, .data, .sentinel, .sentinel], laidTests := true, laidLooks := .later }
def VwordReadsUptoCardSaid : Prop := Claim7.holds Tryd.pinned (.plain (OpenSpec.upto vwordReadsSpec)) vwordReadsUptoCard

/-- THE SECOND FORM's CARD OF 'burgagelaw01.VwordEnds'. -/
def vwordEndsUptoCard : Claim7 := { stood := { row := vwordEndsUptoRow, standIns := [], harness := (true, "90c8df5829344921b9a4a92807ad23e83c76b9b54d6d9bdcb0bf2c6c5800deb4"), looks := true }, kinds := [], alts := [], laidByText := true, laidKinds := [.data, .data, .data, .sentinel, .sentinel], laidTests := true, laidLooks := .later }
def VwordEndsUptoCardSaid : Prop := Claim7.holds Tryd.pinned (.plain (OpenSpec.upto vwordEndsSpec)) vwordEndsUptoCard

/-- THE SECOND FORM's CARD OF 'burgagelaw01.VwordParts'. -/
def vwordPartsUptoCard : Claim7 := { stood := { row := vwordPartsUptoRow, standIns := [], harness := (true, "90c8df5829344921b9a4a92807ad23e83c76b9b54d6d9bdcb0bf2c6c5800deb4"), looks := true }, kinds := [], alts := [], laidByText := true, laidKinds := [.data, .data, .data, .sentinel, .sentinel], laidTests := true, laidLooks := .later }
def VwordPartsUptoCardSaid : Prop := Claim7.holds Tryd.pinned (.plain (OpenSpec.upto vwordPartsSpec)) vwordPartsUptoCard
end Rows
end Go.Proofs.YtllcppdgamagoaaDoor
