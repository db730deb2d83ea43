/-
  DERIVED. GIVEN WITH THE SEED: THE CARDS: each row of YtkjdigojajcgkaaGreatDoorRows.lean that lists a variable, with what it lists TIED to the program's text (the seventh form; the later family's looks); each row that meets fmt, with fmt's text TOLD by the authors' own Lean function (tested against real Go, not proved from fmt's source: count such statements apart). THE CARD IS WHAT COUNTS. Prove the row's statement (the work); the ties are given (YtkjdigojajcgkaaGreatDoorTie.lean); close each card by the builder's one call (the guide's Derived/Test/ToyasCard.lean, 'card_holds'). Laid BY PROGRAM, IN A SANDBOX (cutbox-door.mjs). By AI agents, Wed Nov 11 2026. No macro, syntax, notation, axiom, sorry.
-/
import Derived.Test.YtkjdigojajcgkaaGreatDoorRows
import GoSem.ClaimSeven
namespace Go.Proofs.YtkjdigojajcgkaaGreatDoor
namespace Rows

/-- THE TIED CARD OF 'kilnlaw21.PortsReads'. -/
def portsReadsCard : Claim7 := { stood := { row := portsReadsRow, standIns := [], harness := (true, "3f6f70b4fe183a2c6b26df82c357d65fd2bb63098a4c1a86112b27a6d0674123"), looks := true }, kinds := [], alts := [], laidByText := true, laidKinds := [.data, .data, .data, .data, .sentinel, .sentinel, .pinned], laidTests := true, laidLooks := .later }
def PortsReadsCardSaid : Prop := Claim7.holds Tryz.pinned (.plain (OpenSpec.ofChange portsReadsSpec)) portsReadsCard

/-- THE TIED CARD OF 'kilnlaw21.PortsBack'. -/
def portsBackCard : Claim7 := { stood := { row := portsBackRow, standIns := [], harness := (true, "3f6f70b4fe183a2c6b26df82c357d65fd2bb63098a4c1a86112b27a6d0674123"), looks := true }, kinds := [], alts := [], laidByText := true, laidKinds := [.data, .data, .data, .data, .sentinel, .sentinel, .pinned], laidTests := true, laidLooks := .later }
def PortsBackCardSaid : Prop := Claim7.holds Tryz.pinned (.plain (OpenSpec.ofChange portsBackSpec)) portsBackCard

/-- THE SECOND FORM's CARD OF 'kilnlaw21.PortsReads'. -/
def portsReadsUptoCard : Claim7 := { stood := { row := portsReadsUptoRow, standIns := [], harness := (true, "3f6f70b4fe183a2c6b26df82c357d65fd2bb63098a4c1a86112b27a6d0674123"), looks := true }, kinds := [], alts := [], laidByText := true, laidKinds := [.data, .data, .data, .data, .sentinel, .sentinel, .pinned], laidTests := true, laidLooks := .later }
def PortsReadsUptoCardSaid : Prop := Claim7.holds Tryz.pinned (.plain (OpenSpec.upto portsReadsSpec)) portsReadsUptoCard

/-- THE SECOND FORM's CARD OF 'kilnlaw21.PortsBack'. -/
def portsBackUptoCard : Claim7 := { stood := { row := portsBackUptoRow, standIns := [], harness := (true, "3f6f70b4fe183a2c6b26df82c357d65fd2bb63098a4c1a86112b27a6d0674123"), looks := true }, kinds := [], alts := [], laidByText := true, laidKinds := [.data, .data, .data, .data, .sentinel, .sentinel, .pinned], laidTests := true, laidLooks := .later }
def PortsBackUptoCardSaid : Prop := Claim7.holds Tryz.pinned (.plain (OpenSpec.upto portsBackSpec)) portsBackUptoCard
end Rows
end Go.Proofs.YtkjdigojajcgkaaGreatDoor
