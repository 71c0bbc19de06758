/-
  DERIVED. GIVEN WITH THE SEED: THE CARDS: each row of YthohoendjipleaaDoorRows.lean that lists a variable, with what it lists TIED to the program's text (the seventh form; the later family's looks); each row that meets fmt, with fmt's text TOLD by the authors' own Lean function (tested against real Go, not proved from fmt's source: count such statements apart). THE CARD IS WHAT COUNTS. Prove the row's statement (the work); the ties are given (YthohoendjipleaaDoorTie.lean); close each card by the builder's one call (the guide's Derived/Test/ToyasCard.lean, 'card_holds'). Laid BY PROGRAM, IN A SANDBOX (cutbox-door.mjs). By AI agents, Wed Nov 11 2026. No macro, syntax, notation, axiom, sorry.
-/
import Derived.Test.YthohoendjipleaaDoorRows
import GoSem.ClaimSeven
namespace Go.Proofs.YthohoendjipleaaDoor
namespace Rows

/-- THE TIED CARD OF 'burgagelaw25.StatCounts'. -/
def statCountsCard : Claim7 := { stood := { row := statCountsRow, standIns := [], harness := (true, "e31cb1bfd9055e60099cf3ad77ba5df10fb85fae2c97d9d76038be1b68dfc4a3"), looks := false }, kinds := [], alts := [], laidByText := true, laidKinds := [.data, .data, .data], laidTests := true, laidLooks := .later }
def StatCountsCardSaid : Prop := Claim7.holds Tryd.pinned (.plain (OpenSpec.ofChange statCountsSpec)) statCountsCard

/-- THE TIED CARD OF 'burgagelaw25.StatRate'. -/
def statRateCard : Claim7 := { stood := { row := statRateRow, standIns := [], harness := (true, "e31cb1bfd9055e60099cf3ad77ba5df10fb85fae2c97d9d76038be1b68dfc4a3"), looks := false }, kinds := [], alts := [], laidByText := true, laidKinds := [.data, .data, .data], laidTests := true, laidLooks := .later }
def StatRateCardSaid : Prop := Claim7.holds Tryd.pinned (.plain (OpenSpec.ofChange statRateSpec)) statRateCard

/-- THE TIED CARD OF 'burgagelaw25.StatSum'. -/
def statSumCard : Claim7 := { stood := { row := statSumRow, standIns := [], harness := (true, "e31cb1bfd9055e60099cf3ad77ba5df10fb85fae2c97d9d76038be1b68dfc4a3"), looks := false }, kinds := [], alts := [], laidByText := true, laidKinds := [.data, .data, .data], laidTests := true, laidLooks := .later }
def StatSumCardSaid : Prop := Claim7.holds Tryd.pinned (.plain (OpenSpec.ofChange statSumSpec)) statSumCard

/-- THE TIED CARD OF 'burgagelaw25.StatBack'. -/
def statBackCard : Claim7 := { stood := { row := statBackRow, standIns := [], harness := (true, "e31cb1bfd9055e60099cf3ad77ba5df10fb85fae2c97d9d76038be1b68dfc4a3"), looks := false }, kinds := [], alts := [], laidByText := true, laidKinds := [.data, .data, .data], laidTests := true, laidLooks := .later }
def StatBackCardSaid : Prop := Claim7.holds Tryd.pinned (.plain (OpenSpec.ofChange statBackSpec)) statBackCard

/-- THE TIED CARD OF 'burgagelaw25.StatOrder'. -/
def statOrderCard : Claim7 := { stood := { row := statOrderRow, standIns := [], harness := (true, "e31cb1bfd9055e60099cf3ad77ba5df10fb85fae2c97d9d76038be1b68dfc4a3"), looks := false }, kinds := [], alts := [], laidByText := true, laidKinds := [.data, .data, .data], laidTests := true, laidLooks := .later }
def StatOrderCardSaid : Prop := Claim7.holds Tryd.pinned (.plain (OpenSpec.ofChange statOrderSpec)) statOrderCard

/-- THE SECOND FORM's CARD OF 'burgagelaw25.StatCounts'. -/
def statCountsUptoCard : Claim7 := { stood := { row := statCountsUptoRow, standIns := [], harness := (true, "e31cb1bfd9055e60099cf3ad77ba5df10fb85fae2c97d9d76038be1b68dfc4a3"), looks := false }, kinds := [], alts := [], laidByText := true, laidKinds := [.data, .data, .data], laidTests := true, laidLooks := .later }
def StatCountsUptoCardSaid : Prop := Claim7.holds Tryd.pinned (.plain (OpenSpec.upto statCountsSpec)) statCountsUptoCard

/-- THE SECOND FORM's CARD OF 'burgagelaw25.StatRate'. -/
def statRateUptoCard : Claim7 := { stood := { row := statRateUptoRow, standIns := [], harness := (true, "e31cb1bfd9055e60099cf3ad77ba5df10fb85fae2c97d9d76038be1b68dfc4a3"), looks := false }, kinds := [], alts := [], laidByText := true, laidKinds := [.data, .data, .data], laidTests := true, laidLooks := .later }
def StatRateUptoCardSaid : Prop := Claim7.holds Tryd.pinned (.plain (OpenSpec.upto statRateSpec)) statRateUptoCard

/-- THE SECOND FORM's CARD OF 'burgagelaw25.StatSum'. -/
def statSumUptoCard : Claim7 := { stood := { row := statSumUptoRow, standIns := [], harness := (true, "e31cb1bfd9055e60099cf3ad77ba5df10fb85fae2c97d9d76038be1b68dfc4a3"), looks := false }, kinds := [], alts := [], laidByText := true, laidKinds := [.data, .data, .data], laidTests := true, laidLooks := .later }
def StatSumUptoCardSaid : Prop := Claim7.holds Tryd.pinned (.plain (OpenSpec.upto statSumSpec)) statSumUptoCard

/-- THE SECOND FORM's CARD OF 'burgagelaw25.StatBack'. -/
def statBackUptoCard : Claim7 := { stood := { row := statBackUptoRow, standIns := [], harness := (true, "e31cb1bfd9055e60099cf3ad77ba5df10fb85fae2c97d9d76038be1b68dfc4a3"), looks := false }, kinds := [], alts := [], laidByText := true, laidKinds := [.data, .data, .data], laidTests := true, laidLooks := .later }
def StatBackUptoCardSaid : Prop := Claim7.holds Tryd.pinned (.plain (OpenSpec.upto statBackSpec)) statBackUptoCard

/-- THE SECOND FORM's CARD OF 'burgagelaw25.StatOrder'. -/
def statOrderUptoCard : Claim7 := { stood := { row := statOrderUptoRow, standIns := [], harness := (true, "e31cb1bfd9055e60099cf3ad77ba5df10fb85fae2c97d9d76038be1b68dfc4a3"), looks := false }, kinds := [], alts := [], laidByText := true, laidKinds := [.data, .data, .data], laidTests := true, laidLooks := .later }
def StatOrderUptoCardSaid : Prop := Claim7.holds Tryd.pinned (.plain (OpenSpec.upto statOrderSpec)) statOrderUptoCard
end Rows
end Go.Proofs.YthohoendjipleaaDoor
