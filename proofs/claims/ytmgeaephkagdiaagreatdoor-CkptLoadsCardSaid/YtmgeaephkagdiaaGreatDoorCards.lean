/-
  DERIVED. GIVEN WITH THE SEED: THE CARDS: each row of YtmgeaephkagdiaaGreatDoorRows.lean that lists a variable, with what it lists TIED to the program's text (the seventh form; the later family's looks); each row that meets fmt, with fmt's text TOLD by the authors' own Lean function (tested against real Go, not proved from fmt's source: count such statements apart). THE CARD IS WHAT COUNTS. Prove the row's statement (the work); the ties are given (YtmgeaephkagdiaaGreatDoorTie.lean); close each card by the builder's one call (the guide's Derived/Test/ToyasCard.lean, 'card_holds'). Laid BY PROGRAM, IN A SANDBOX (cutbox-door.mjs). By AI agents, Wed Nov 11 2026. No macro, syntax, notation, axiom, sorry.
-/
import Derived.Test.YtmgeaephkagdiaaGreatDoorRows
import GoSem.ClaimSeven
namespace Go.Proofs.YtmgeaephkagdiaaGreatDoor
namespace Rows

/-- THE TIED CARD OF 'ordeallaw07.WalOpens'. -/
def walOpensCard : Claim7 := { stood := { row := walOpensRow, standIns := [], harness := (true, "2708320ed8bf98233045a224034832d3a29a7f8be7e91a1852be2103981f47de"), looks := true }, kinds := [], alts := [], laidByText := true, laidKinds := [.data], laidTests := true, laidLooks := .later }
def WalOpensCardSaid : Prop := Claim7.holds Tryz.pinned (.plain (OpenSpec.ofChange walOpensSpec)) walOpensCard

/-- THE TIED CARD OF 'ordeallaw07.WalWhole'. -/
def walWholeCard : Claim7 := { stood := { row := walWholeRow, standIns := [], harness := (true, "2708320ed8bf98233045a224034832d3a29a7f8be7e91a1852be2103981f47de"), looks := true }, kinds := [], alts := [], laidByText := true, laidKinds := [.data], laidTests := true, laidLooks := .later }
def WalWholeCardSaid : Prop := Claim7.holds Tryz.pinned (.plain (OpenSpec.ofChange walWholeSpec)) walWholeCard

/-- THE TIED CARD OF 'ordeallaw07.WalCrash'. -/
def walCrashCard : Claim7 := { stood := { row := walCrashRow, standIns := [], harness := (true, "2708320ed8bf98233045a224034832d3a29a7f8be7e91a1852be2103981f47de"), looks := true }, kinds := [], alts := [], laidByText := true, laidKinds := [.data], laidTests := true, laidLooks := .later }
def WalCrashCardSaid : Prop := Claim7.holds Tryz.pinned (.plain (OpenSpec.ofChange walCrashSpec)) walCrashCard

/-- THE TIED CARD OF 'ordeallaw07.WalRetired'. -/
def walRetiredCard : Claim7 := { stood := { row := walRetiredRow, standIns := [], harness := (true, "2708320ed8bf98233045a224034832d3a29a7f8be7e91a1852be2103981f47de"), looks := true }, kinds := [], alts := [], laidByText := true, laidKinds := [.data], laidTests := true, laidLooks := .later }
def WalRetiredCardSaid : Prop := Claim7.holds Tryz.pinned (.plain (OpenSpec.ofChange walRetiredSpec)) walRetiredCard

/-- THE TIED CARD OF 'ordeallaw07.WalPlays'. -/
def walPlaysCard : Claim7 := { stood := { row := walPlaysRow, standIns := [], harness := (true, "2708320ed8bf98233045a224034832d3a29a7f8be7e91a1852be2103981f47de"), looks := true }, kinds := [], alts := [], laidByText := true, laidKinds := [.data], laidTests := true, laidLooks := .later }
def WalPlaysCardSaid : Prop := Claim7.holds Tryz.pinned (.plain (OpenSpec.ofChange walPlaysSpec)) walPlaysCard

/-- THE TIED CARD OF 'ordeallaw23.CkptLoads'. -/
def ckptLoadsCard : Claim7 := { stood := { row := ckptLoadsRow, standIns := [], harness := (true, "2708320ed8bf98233045a224034832d3a29a7f8be7e91a1852be2103981f47de"), looks := true }, kinds := [], alts := [], laidByText := true, laidKinds := [.data, .data], laidTests := true, laidLooks := .later }
def CkptLoadsCardSaid : Prop := Claim7.holds Tryz.pinned (.plain (OpenSpec.ofChange ckptLoadsSpec)) ckptLoadsCard

/-- THE TIED CARD OF 'ordeallaw23.CkptCrash'. -/
def ckptCrashCard : Claim7 := { stood := { row := ckptCrashRow, standIns := [], harness := (true, "2708320ed8bf98233045a224034832d3a29a7f8be7e91a1852be2103981f47de"), looks := true }, kinds := [], alts := [], laidByText := true, laidKinds := [.data, .data], laidTests := true, laidLooks := .later }
def CkptCrashCardSaid : Prop := Claim7.holds Tryz.pinned (.plain (OpenSpec.ofChange ckptCrashSpec)) ckptCrashCard

/-- THE TIED CARD OF 'ordeallaw23.CkptFull'. -/
def ckptFullCard : Claim7 := { stood := { row := ckptFullRow, standIns := [], harness := (true, "2708320ed8bf98233045a224034832d3a29a7f8be7e91a1852be2103981f47de"), looks := true }, kinds := [], alts := [], laidByText := true, laidKinds := [.data, .data], laidTests := true, laidLooks := .later }
def CkptFullCardSaid : Prop := Claim7.holds Tryz.pinned (.plain (OpenSpec.ofChange ckptFullSpec)) ckptFullCard

/-- THE TIED CARD OF 'ordeallaw23.CkptPlays'. -/
def ckptPlaysCard : Claim7 := { stood := { row := ckptPlaysRow, standIns := [], harness := (true, "2708320ed8bf98233045a224034832d3a29a7f8be7e91a1852be2103981f47de"), looks := true }, kinds := [], alts := [], laidByText := true, laidKinds := [.data, .data], laidTests := true, laidLooks := .later }
def CkptPlaysCardSaid : Prop := Claim7.holds Tryz.pinned (.plain (OpenSpec.ofChange ckptPlaysSpec)) ckptPlaysCard

/-- THE SECOND FORM's CARD OF 'ordeallaw07.WalOpens'. -/
def walOpensUptoCard : Claim7 := { stood := { row := walOpensUptoRow, standIns := [], harness := (true, "2708320ed8bf98233045a224034832d3a29a7f8be7e91a1852be2103981f47de"), looks := true }, kinds := [], alts := [], laidByText := true, laidKinds := [.data], laidTests := true, laidLooks := .later }
def WalOpensUptoCardSaid : Prop := Claim7.holds Tryz.pinned (.plain (OpenSpec.upto walOpensSpec)) walOpensUptoCard

/-- THE SECOND FORM's CARD OF 'ordeallaw07.WalWhole'. -/
def walWholeUptoCard : Claim7 := { stood := { row := walWholeUptoRow, standIns := [], harness := (true, "2708320ed8bf98233045a224034832d3a29a7f8be7e91a1852be2103981f47de"), looks := true }, kinds := [], alts := [], laidByText := true, laidKinds := [.data], laidTests := true, laidLooks := .later }
def WalWholeUptoCardSaid : Prop := Claim7.holds Tryz.pinned (.plain (OpenSpec.upto walWholeSpec)) walWholeUptoCard

/-- THE SECOND FORM's CARD OF 'ordeallaw07.WalCrash'. -/
def walCrashUptoCard : Claim7 := { stood := { row := walCrashUptoRow, standIns := [], harness := (true, "2708320ed8bf98233045a224034832d3a29a7f8be7e91a1852be2103981f47de"), looks := true }, kinds := [], alts := [], laidByText := true, laidKinds := [.data], laidTests := true, laidLooks := .later }
def WalCrashUptoCardSaid : Prop := Claim7.holds Tryz.pinned (.plain (OpenSpec.upto walCrashSpec)) walCrashUptoCard

/-- THE SECOND FORM's CARD OF 'ordeallaw07.WalRetired'. -/
def walRetiredUptoCard : Claim7 := { stood := { row := walRetiredUptoRow, standIns := [], harness := (true, "2708320ed8bf98233045a224034832d3a29a7f8be7e91a1852be2103981f47de"), looks := true }, kinds := [], alts := [], laidByText := true, laidKinds := [.data], laidTests := true, laidLooks := .later }
def WalRetiredUptoCardSaid : Prop := Claim7.holds Tryz.pinned (.plain (OpenSpec.upto walRetiredSpec)) walRetiredUptoCard

/-- THE SECOND FORM's CARD OF 'ordeallaw07.WalPlays'. -/
def walPlaysUptoCard : Claim7 := { stood := { row := walPlaysUptoRow, standIns := [], harness := (true, "2708320ed8bf98233045a224034832d3a29a7f8be7e91a1852be2103981f47de"), looks := true }, kinds := [], alts := [], laidByText := true, laidKinds := [.data], laidTests := true, laidLooks := .later }
def WalPlaysUptoCardSaid : Prop := Claim7.holds Tryz.pinned (.plain (OpenSpec.upto walPlaysSpec)) walPlaysUptoCard

/-- THE SECOND FORM's CARD OF 'ordeallaw23.CkptLoads'. -/
def ckptLoadsUptoCard : Claim7 := { stood := { row := ckptLoadsUptoRow, standIns := [], harness := (true, "2708320ed8bf98233045a224034832d3a29a7f8be7e91a1852be2103981f47de"), looks := true }, kinds := [], alts := [], laidByText := true, laidKinds := [.data, .data], laidTests := true, laidLooks := .later }
def CkptLoadsUptoCardSaid : Prop := Claim7.holds Tryz.pinned (.plain (OpenSpec.upto ckptLoadsSpec)) ckptLoadsUptoCard

/-- THE SECOND FORM's CARD OF 'ordeallaw23.CkptCrash'. -/
def ckptCrashUptoCard : Claim7 := { stood := { row := ckptCrashUptoRow, standIns := [], harness := (true, "2708320ed8bf98233045a224034832d3a29a7f8be7e91a1852be2103981f47de"), looks := true }, kinds := [], alts := [], laidByText := true, laidKinds := [.data, .data], laidTests := true, laidLooks := .later }
def CkptCrashUptoCardSaid : Prop := Claim7.holds Tryz.pinned (.plain (OpenSpec.upto ckptCrashSpec)) ckptCrashUptoCard

/-- THE SECOND FORM's CARD OF 'ordeallaw23.CkptFull'. -/
def ckptFullUptoCard : Claim7 := { stood := { row := ckptFullUptoRow, standIns := [], harness := (true, "2708320ed8bf98233045a224034832d3a29a7f8be7e91a1852be2103981f47de"), looks := true }, kinds := [], alts := [], laidByText := true, laidKinds := [.data, .data], laidTests := true, laidLooks := .later }
def CkptFullUptoCardSaid : Prop := Claim7.holds Tryz.pinned (.plain (OpenSpec.upto ckptFullSpec)) ckptFullUptoCard

/-- THE SECOND FORM's CARD OF 'ordeallaw23.CkptPlays'. -/
def ckptPlaysUptoCard : Claim7 := { stood := { row := ckptPlaysUptoRow, standIns := [], harness := (true, "2708320ed8bf98233045a224034832d3a29a7f8be7e91a1852be2103981f47de"), looks := true }, kinds := [], alts := [], laidByText := true, laidKinds := [.data, .data], laidTests := true, laidLooks := .later }
def CkptPlaysUptoCardSaid : Prop := Claim7.holds Tryz.pinned (.plain (OpenSpec.upto ckptPlaysSpec)) ckptPlaysUptoCard
end Rows
end Go.Proofs.YtmgeaephkagdiaaGreatDoor
