/-
  DERIVED. GIVEN WITH THE SEED: THE CARDS: each row of YtkjdigojajcgkaaDoorRows.lean that lists a variable, with what it lists TIED to the program's text (the seventh form; the later family's looks); each row that meets fmt, with fmt's text TOLD by the authors' own Lean function (tested against real Go, not proved from fmt's source: count such statements apart). THE CARD IS WHAT COUNTS. Prove the row's statement (the work); the ties are given (YtkjdigojajcgkaaDoorTie.lean); close each card by the builder's one call (the guide's Derived/Test/ToyasCard.lean, 'card_holds'). Laid BY PROGRAM, IN A SANDBOX (cutbox-door.mjs). By AI agents, Wed Nov 11 2026. No macro, syntax, notation, axiom, sorry.
-/
import Derived.Test.YtkjdigojajcgkaaDoorRows
import GoSem.ClaimSeven
namespace Go.Proofs.YtkjdigojajcgkaaDoor
namespace Rows

/-- THE TIED CARD OF 'kilnlaw21.PortsReports'. -/
def portsReportsCard : Claim7 := { stood := { row := portsReportsRow, standIns := [], harness := (true, "873679b7efd553fc4dfb531eca31d2ef1472f3ddc0534149be2e6603daa87685"), looks := false }, kinds := [], alts := [], laidByText := true, laidKinds := [.data, .data, .data, .data, .pinned], laidTests := true, laidLooks := .later }
def PortsReportsCardSaid : Prop := Claim7.holds Tryd.pinned (.plain (OpenSpec.ofChange portsReportsSpec)) portsReportsCard

/-- THE TIED CARD OF 'kilnlaw21.PortsAlike'. -/
def portsAlikeCard : Claim7 := { stood := { row := portsAlikeRow, standIns := [], harness := (true, "873679b7efd553fc4dfb531eca31d2ef1472f3ddc0534149be2e6603daa87685"), looks := false }, kinds := [], alts := [], laidByText := true, laidKinds := [.data, .data, .data, .data, .pinned], laidTests := true, laidLooks := .later }
def PortsAlikeCardSaid : Prop := Claim7.holds Tryd.pinned (.plain (OpenSpec.ofChange portsAlikeSpec)) portsAlikeCard

/-- THE TIED CARD OF 'kilnlaw21.PortsOne'. -/
def portsOneCard : Claim7 := { stood := { row := portsOneRow, standIns := [], harness := (true, "873679b7efd553fc4dfb531eca31d2ef1472f3ddc0534149be2e6603daa87685"), looks := false }, kinds := [], alts := [], laidByText := true, laidKinds := [.data, .data, .data, .data, .pinned], laidTests := true, laidLooks := .later }
def PortsOneCardSaid : Prop := Claim7.holds Tryd.pinned (.plain (OpenSpec.ofChange portsOneSpec)) portsOneCard

/-- THE TIED CARD OF 'kilnlaw21.PortsParts'. -/
def portsPartsCard : Claim7 := { stood := { row := portsPartsRow, standIns := [], harness := (true, "873679b7efd553fc4dfb531eca31d2ef1472f3ddc0534149be2e6603daa87685"), looks := false }, kinds := [], alts := [], laidByText := true, laidKinds := [.data, .data, .data, .data, .pinned], laidTests := true, laidLooks := .later }
def PortsPartsCardSaid : Prop := Claim7.holds Tryd.pinned (.plain (OpenSpec.ofChange portsPartsSpec)) portsPartsCard

/-- THE TIED CARD OF 'kilnlaw21.PortsLines'. -/
def portsLinesCard : Claim7 := { stood := { row := portsLinesRow, standIns := [], harness := (true, "873679b7efd553fc4dfb531eca31d2ef1472f3ddc0534149be2e6603daa87685"), looks := false }, kinds := [], alts := [], laidByText := true, laidKinds := [.data, .data, .data, .data, .pinned], laidTests := true, laidLooks := .later }
def PortsLinesCardSaid : Prop := Claim7.holds Tryd.pinned (.plain (OpenSpec.ofChange portsLinesSpec)) portsLinesCard

/-- THE SECOND FORM's CARD OF 'kilnlaw21.PortsReports'. -/
def portsReportsUptoCard : Claim7 := { stood := { row := portsReportsUptoRow, standIns := [], harness := (true, "873679b7efd553fc4dfb531eca31d2ef1472f3ddc0534149be2e6603daa87685"), looks := false }, kinds := [], alts := [], laidByText := true, laidKinds := [.data, .data, .data, .data, .pinned], laidTests := true, laidLooks := .later }
def PortsReportsUptoCardSaid : Prop := Claim7.holds Tryd.pinned (.plain (OpenSpec.upto portsReportsSpec)) portsReportsUptoCard

/-- THE SECOND FORM's CARD OF 'kilnlaw21.PortsAlike'. -/
def portsAlikeUptoCard : Claim7 := { stood := { row := portsAlikeUptoRow, standIns := [], harness := (true, "873679b7efd553fc4dfb531eca31d2ef1472f3ddc0534149be2e6603daa87685"), looks := false }, kinds := [], alts := [], laidByText := true, laidKinds := [.data, .data, .data, .data, .pinned], laidTests := true, laidLooks := .later }
def PortsAlikeUptoCardSaid : Prop := Claim7.holds Tryd.pinned (.plain (OpenSpec.upto portsAlikeSpec)) portsAlikeUptoCard

/-- THE SECOND FORM's CARD OF 'kilnlaw21.PortsOne'. -/
def portsOneUptoCard : Claim7 := { stood := { row := portsOneUptoRow, standIns := [], harness := (true, "873679b7efd553fc4dfb531eca31d2ef1472f3ddc0534149be2e6603daa87685"), looks := false }, kinds := [], alts := [], laidByText := true, laidKinds := [.data, .data, .data, .data, .pinned], laidTests := true, laidLooks := .later }
def PortsOneUptoCardSaid : Prop := Claim7.holds Tryd.pinned (.plain (OpenSpec.upto portsOneSpec)) portsOneUptoCard

/-- THE SECOND FORM's CARD OF 'kilnlaw21.PortsParts'. -/
def portsPartsUptoCard : Claim7 := { stood := { row := portsPartsUptoRow, standIns := [], harness := (true, "873679b7efd553fc4dfb531eca31d2ef1472f3ddc0534149be2e6603daa87685"), looks := false }, kinds := [], alts := [], laidByText := true, laidKinds := [.data, .data, .data, .data, .pinned], laidTests := true, laidLooks := .later }
def PortsPartsUptoCardSaid : Prop := Claim7.holds Tryd.pinned (.plain (OpenSpec.upto portsPartsSpec)) portsPartsUptoCard

/-- THE SECOND FORM's CARD OF 'kilnlaw21.PortsLines'. -/
def portsLinesUptoCard : Claim7 := { stood := { row := portsLinesUptoRow, standIns := [], harness := (true, "873679b7efd553fc4dfb531eca31d2ef1472f3ddc0534149be2e6603daa87685"), looks := false }, kinds := [], alts := [], laidByText := true, laidKinds := [.data, .data, .data, .data, .pinned], laidTests := true, laidLooks := .later }
def PortsLinesUptoCardSaid : Prop := Claim7.holds Tryd.pinned (.plain (OpenSpec.upto portsLinesSpec)) portsLinesUptoCard
end Rows
end Go.Proofs.YtkjdigojajcgkaaDoor
