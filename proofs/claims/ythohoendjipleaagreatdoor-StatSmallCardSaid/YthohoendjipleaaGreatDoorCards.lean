/-
  DERIVED. GIVEN WITH THE SEED: THE CARDS: each row of YthohoendjipleaaGreatDoorRows.lean that lists a variable, with what it lists TIED to the program's text (the seventh form; the later family's looks); each row that meets fmt, with fmt's text TOLD by the authors' own Lean function (tested against real Go, not proved from fmt's source: count such statements apart). THE CARD IS WHAT COUNTS. Prove the row's statement (the work); the ties are given (YthohoendjipleaaGreatDoorTie.lean); close each card by the builder's one call (the guide's Derived/Test/ToyasCard.lean, 'card_holds'). Laid BY PROGRAM, IN A SANDBOX (cutbox-door.mjs). By AI agents, Wed Nov 11 2026. No macro, syntax, notation, axiom, sorry.
-/
import Derived.Test.YthohoendjipleaaGreatDoorRows
import GoSem.ClaimSeven
namespace Go.Proofs.YthohoendjipleaaGreatDoor
namespace Rows

/-- THE TIED CARD OF 'burgagelaw25.StatParses'. -/
def statParsesCard : Claim7 := { stood := { row := statParsesRow, standIns := [], harness := (true, "c3714bee49a19f8ffff548a9bac6256b90f112c132e5180bc9e1bec46db52bd1"), looks := true }, kinds := [], alts := [], laidByText := true, laidKinds := [.data, .data, .data, .data, .sentinel, .sentinel, .pinned, .pinned], laidTests := true, laidLooks := .later }
def StatParsesCardSaid : Prop := Claim7.holds Tryz.pinned (.plain (OpenSpec.ofChange statParsesSpec)) statParsesCard

/-- THE TIED CARD OF 'burgagelaw25.StatSmall'. -/
def statSmallCard : Claim7 := { stood := { row := statSmallRow, standIns := [], harness := (true, "c3714bee49a19f8ffff548a9bac6256b90f112c132e5180bc9e1bec46db52bd1"), looks := true }, kinds := [], alts := [], laidByText := true, laidKinds := [.data, .data, .data, .data, .sentinel, .sentinel, .pinned, .pinned], laidTests := true, laidLooks := .later }
def StatSmallCardSaid : Prop := Claim7.holds Tryz.pinned (.plain (OpenSpec.ofChange statSmallSpec)) statSmallCard

/-- THE TIED CARD OF 'burgagelaw25.StatRound'. -/
def statRoundCard : Claim7 := { stood := { row := statRoundRow, standIns := [], harness := (true, "c3714bee49a19f8ffff548a9bac6256b90f112c132e5180bc9e1bec46db52bd1"), looks := true }, kinds := [], alts := [], laidByText := true, laidKinds := [.data, .data, .data, .data, .sentinel, .sentinel, .pinned, .pinned], laidTests := true, laidLooks := .later }
def StatRoundCardSaid : Prop := Claim7.holds Tryz.pinned (.plain (OpenSpec.ofChange statRoundSpec)) statRoundCard

/-- THE SECOND FORM's CARD OF 'burgagelaw25.StatParses'. -/
def statParsesUptoCard : Claim7 := { stood := { row := statParsesUptoRow, standIns := [], harness := (true, "c3714bee49a19f8ffff548a9bac6256b90f112c132e5180bc9e1bec46db52bd1"), looks := true }, kinds := [], alts := [], laidByText := true, laidKinds := [.data, .data, .data, .data, .sentinel, .sentinel, .pinned, .pinned], laidTests := true, laidLooks := .later }
def StatParsesUptoCardSaid : Prop := Claim7.holds Tryz.pinned (.plain (OpenSpec.upto statParsesSpec)) statParsesUptoCard

/-- THE SECOND FORM's CARD OF 'burgagelaw25.StatSmall'. -/
def statSmallUptoCard : Claim7 := { stood := { row := statSmallUptoRow, standIns := [], harness := (true, "c3714bee49a19f8ffff548a9bac6256b90f112c132e5180bc9e1bec46db52bd1"), looks := true }, kinds := [], alts := [], laidByText := true, laidKinds := [.data, .data, .data, .data, .sentinel, .sentinel, .pinned, .pinned], laidTests := true, laidLooks := .later }
def StatSmallUptoCardSaid : Prop := Claim7.holds Tryz.pinned (.plain (OpenSpec.upto statSmallSpec)) statSmallUptoCard

/-- THE SECOND FORM's CARD OF 'burgagelaw25.StatRound'. -/
def statRoundUptoCard : Claim7 := { stood := { row := statRoundUptoRow, standIns := [], harness := (true, "c3714bee49a19f8ffff548a9bac6256b90f112c132e5180bc9e1bec46db52bd1"), looks := true }, kinds := [], alts := [], laidByText := true, laidKinds := [.data, .data, .data, .data, .sentinel, .sentinel, .pinned, .pinned], laidTests := true, laidLooks := .later }
def StatRoundUptoCardSaid : Prop := Claim7.holds Tryz.pinned (.plain (OpenSpec.upto statRoundSpec)) statRoundUptoCard
end Rows
end Go.Proofs.YthohoendjipleaaGreatDoor
