/-
  DERIVED. GIVEN WITH THE SEED: THE CARDS: each row of YtfhmokjjjnjhjaaGreatDoorRows.lean that lists a variable, with what it lists TIED to the program's text (the seventh form; the later family's looks); each row that meets fmt, with fmt's text TOLD by the authors' own Lean function (tested against real Go, not proved from fmt's source: count such statements apart). THE CARD IS WHAT COUNTS. Prove the row's statement (the work); the ties are given (YtfhmokjjjnjhjaaGreatDoorTie.lean); close each card by the builder's one call (the guide's Derived/Test/ToyasCard.lean, 'card_holds'). Laid BY PROGRAM, IN A SANDBOX (cutbox-door.mjs). By AI agents, Wed Nov 11 2026. No macro, syntax, notation, axiom, sorry.
-/
import Derived.Test.YtfhmokjjjnjhjaaGreatDoorRows
import GoSem.ClaimSeven
namespace Go.Proofs.YtfhmokjjjnjhjaaGreatDoor
namespace Rows

/-- THE TIED CARD OF 'ordeallaw10.ReadGood'. -/
def readGoodCard : Claim7 := { stood := { row := readGoodRow, standIns := [], harness := (true, "56133ea5f313b2ba71f62bf2e5d5f0a7a3f731958aa3b260e85a3ae0ec41e294"), looks := false }, kinds := [], alts := [], laidByText := true, laidKinds := [.data, .widerDeep, .pinned], laidTests := true, laidLooks := .later }
def ReadGoodCardSaid : Prop := Claim7.holds Tryz.pinned (.plain (OpenSpec.ofChange readGoodSpec)) readGoodCard

/-- THE TIED CARD OF 'ordeallaw10.ReadNotes'. -/
def readNotesCard : Claim7 := { stood := { row := readNotesRow, standIns := [], harness := (true, "56133ea5f313b2ba71f62bf2e5d5f0a7a3f731958aa3b260e85a3ae0ec41e294"), looks := false }, kinds := [], alts := [], laidByText := true, laidKinds := [.data, .widerDeep, .pinned], laidTests := true, laidLooks := .later }
def ReadNotesCardSaid : Prop := Claim7.holds Tryz.pinned (.plain (OpenSpec.ofChange readNotesSpec)) readNotesCard

/-- THE TIED CARD OF 'ordeallaw10.ReadNamed'. -/
def readNamedCard : Claim7 := { stood := { row := readNamedRow, standIns := [], harness := (true, "56133ea5f313b2ba71f62bf2e5d5f0a7a3f731958aa3b260e85a3ae0ec41e294"), looks := false }, kinds := [], alts := [], laidByText := true, laidKinds := [.data, .widerDeep, .pinned], laidTests := true, laidLooks := .later }
def ReadNamedCardSaid : Prop := Claim7.holds Tryz.pinned (.plain (OpenSpec.ofChange readNamedSpec)) readNamedCard

/-- THE TIED CARD OF 'ordeallaw11.CanonPrints'. -/
def canonPrintsCard : Claim7 := { stood := { row := canonPrintsRow, standIns := [], harness := (true, "56133ea5f313b2ba71f62bf2e5d5f0a7a3f731958aa3b260e85a3ae0ec41e294"), looks := false }, kinds := [], alts := [], laidByText := true, laidKinds := [.data, .data, .data, .data, .widerDeep, .data, .data, .data, .data, .pinned], laidTests := true, laidLooks := .later }
def CanonPrintsCardSaid : Prop := Claim7.holds Tryz.pinned (.plain (OpenSpec.ofChange canonPrintsSpec)) canonPrintsCard

/-- THE TIED CARD OF 'ordeallaw11.CanonBack'. -/
def canonBackCard : Claim7 := { stood := { row := canonBackRow, standIns := [], harness := (true, "56133ea5f313b2ba71f62bf2e5d5f0a7a3f731958aa3b260e85a3ae0ec41e294"), looks := false }, kinds := [], alts := [], laidByText := true, laidKinds := [.data, .data, .data, .data, .widerDeep, .data, .data, .data, .data, .pinned], laidTests := true, laidLooks := .later }
def CanonBackCardSaid : Prop := Claim7.holds Tryz.pinned (.plain (OpenSpec.ofChange canonBackSpec)) canonBackCard

/-- THE TIED CARD OF 'ordeallaw11.CanonOnce'. -/
def canonOnceCard : Claim7 := { stood := { row := canonOnceRow, standIns := [], harness := (true, "56133ea5f313b2ba71f62bf2e5d5f0a7a3f731958aa3b260e85a3ae0ec41e294"), looks := false }, kinds := [], alts := [], laidByText := true, laidKinds := [.data, .data, .data, .data, .widerDeep, .data, .data, .data, .data, .pinned], laidTests := true, laidLooks := .later }
def CanonOnceCardSaid : Prop := Claim7.holds Tryz.pinned (.plain (OpenSpec.ofChange canonOnceSpec)) canonOnceCard

/-- THE TIED CARD OF 'ordeallaw11.CanonApart'. -/
def canonApartCard : Claim7 := { stood := { row := canonApartRow, standIns := [], harness := (true, "56133ea5f313b2ba71f62bf2e5d5f0a7a3f731958aa3b260e85a3ae0ec41e294"), looks := false }, kinds := [], alts := [], laidByText := true, laidKinds := [.data, .data, .data, .data, .widerDeep, .data, .data, .data, .data, .pinned], laidTests := true, laidLooks := .later }
def CanonApartCardSaid : Prop := Claim7.holds Tryz.pinned (.plain (OpenSpec.ofChange canonApartSpec)) canonApartCard

/-- THE SECOND FORM's CARD OF 'ordeallaw10.ReadGood'. -/
def readGoodUptoCard : Claim7 := { stood := { row := readGoodUptoRow, standIns := [], harness := (true, "56133ea5f313b2ba71f62bf2e5d5f0a7a3f731958aa3b260e85a3ae0ec41e294"), looks := false }, kinds := [], alts := [], laidByText := true, laidKinds := [.data, .widerDeep, .pinned], laidTests := true, laidLooks := .later }
def ReadGoodUptoCardSaid : Prop := Claim7.holds Tryz.pinned (.plain (OpenSpec.upto readGoodSpec)) readGoodUptoCard

/-- THE SECOND FORM's CARD OF 'ordeallaw10.ReadNotes'. -/
def readNotesUptoCard : Claim7 := { stood := { row := readNotesUptoRow, standIns := [], harness := (true, "56133ea5f313b2ba71f62bf2e5d5f0a7a3f731958aa3b260e85a3ae0ec41e294"), looks := false }, kinds := [], alts := [], laidByText := true, laidKinds := [.data, .widerDeep, .pinned], laidTests := true, laidLooks := .later }
def ReadNotesUptoCardSaid : Prop := Claim7.holds Tryz.pinned (.plain (OpenSpec.upto readNotesSpec)) readNotesUptoCard

/-- THE SECOND FORM's CARD OF 'ordeallaw10.ReadNamed'. -/
def readNamedUptoCard : Claim7 := { stood := { row := readNamedUptoRow, standIns := [], harness := (true, "56133ea5f313b2ba71f62bf2e5d5f0a7a3f731958aa3b260e85a3ae0ec41e294"), looks := false }, kinds := [], alts := [], laidByText := true, laidKinds := [.data, .widerDeep, .pinned], laidTests := true, laidLooks := .later }
def ReadNamedUptoCardSaid : Prop := Claim7.holds Tryz.pinned (.plain (OpenSpec.upto readNamedSpec)) readNamedUptoCard

/-- THE SECOND FORM's CARD OF 'ordeallaw11.CanonPrints'. -/
def canonPrintsUptoCard : Claim7 := { stood := { row := canonPrintsUptoRow, standIns := [], harness := (true, "56133ea5f313b2ba71f62bf2e5d5f0a7a3f731958aa3b260e85a3ae0ec41e294"), looks := false }, kinds := [], alts := [], laidByText := true, laidKinds := [.data, .data, .data, .data, .widerDeep, .data, .data, .data, .data, .pinned], laidTests := true, laidLooks := .later }
def CanonPrintsUptoCardSaid : Prop := Claim7.holds Tryz.pinned (.plain (OpenSpec.upto canonPrintsSpec)) canonPrintsUptoCard

/-- THE SECOND FORM's CARD OF 'ordeallaw11.CanonBack'. -/
def canonBackUptoCard : Claim7 := { stood := { row := canonBackUptoRow, standIns := [], harness := (true, "56133ea5f313b2ba71f62bf2e5d5f0a7a3f731958aa3b260e85a3ae0ec41e294"), looks := false }, kinds := [], alts := [], laidByText := true, laidKinds := [.data, .data, .data, .data, .widerDeep, .data, .data, .data, .data, .pinned], laidTests := true, laidLooks := .later }
def CanonBackUptoCardSaid : Prop := Claim7.holds Tryz.pinned (.plain (OpenSpec.upto canonBackSpec)) canonBackUptoCard

/-- THE SECOND FORM's CARD OF 'ordeallaw11.CanonOnce'. -/
def canonOnceUptoCard : Claim7 := { stood := { row := canonOnceUptoRow, standIns := [], harness := (true, "56133ea5f313b2ba71f62bf2e5d5f0a7a3f731958aa3b260e85a3ae0ec41e294"), looks := false }, kinds := [], alts := [], laidByText := true, laidKinds := [.data, .data, .data, .data, .widerDeep, .data, .data, .data, .data, .pinned], laidTests := true, laidLooks := .later }
def CanonOnceUptoCardSaid : Prop := Claim7.holds Tryz.pinned (.plain (OpenSpec.upto canonOnceSpec)) canonOnceUptoCard

/-- THE SECOND FORM's CARD OF 'ordeallaw11.CanonApart'. -/
def canonApartUptoCard : Claim7 := { stood := { row := canonApartUptoRow, standIns := [], harness := (true, "56133ea5f313b2ba71f62bf2e5d5f0a7a3f731958aa3b260e85a3ae0ec41e294"), looks := false }, kinds := [], alts := [], laidByText := true, laidKinds := [.data, .data, .data, .data, .widerDeep, .data, .data, .data, .data, .pinned], laidTests := true, laidLooks := .later }
def CanonApartUptoCardSaid : Prop := Claim7.holds Tryz.pinned (.plain (OpenSpec.upto canonApartSpec)) canonApartUptoCard
end Rows
end Go.Proofs.YtfhmokjjjnjhjaaGreatDoor
