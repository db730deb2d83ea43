/-
  DERIVED. GIVEN WITH THE SEED: THE CARDS: each row of YtelggbmobemnoaaDoorRows.lean that lists a variable, with what it lists TIED to the program's text (the seventh form; the later family's looks); each row that meets fmt, with fmt's text TOLD by the authors' own Lean function (tested against real Go, not proved from fmt's source: count such statements apart). THE CARD IS WHAT COUNTS. Prove the row's statement (the work); the ties are given (YtelggbmobemnoaaDoorTie.lean); close each card by the builder's one call (the guide's Derived/Test/ToyasCard.lean, 'card_holds'). Laid BY PROGRAM, IN A SANDBOX (cutbox-door.mjs). By AI agents, Wed Nov 11 2026. No macro, syntax, notation, axiom, sorry.
-/
import Derived.Test.YtelggbmobemnoaaDoorRows
import GoSem.ClaimSeven
namespace Go.Proofs.YtelggbmobemnoaaDoor
namespace Rows

/-- THE TIED CARD OF 'kilnlaw01.FixScans'. -/
def fixScansCard : Claim7 := { stood := { row := fixScansRow, standIns := [], harness := (true, "ae21566acb875373f00c1ff63374bd7ed0e0af2baf962d738e626ad9b3cb20c5"), looks := false }, kinds := [], alts := [], laidByText := true, laidKinds := [.data, .pinned], laidTests := true, laidLooks := .later }
def FixScansCardSaid : Prop := Claim7.holds Tryd.pinned (.plain (OpenSpec.ofChange fixScansSpec)) fixScansCard

/-- THE TIED CARD OF 'kilnlaw01.FixTexts'. -/
def fixTextsCard : Claim7 := { stood := { row := fixTextsRow, standIns := [], harness := (true, "ae21566acb875373f00c1ff63374bd7ed0e0af2baf962d738e626ad9b3cb20c5"), looks := false }, kinds := [], alts := [], laidByText := true, laidKinds := [.data, .data, .data, .data, .pinned], laidTests := true, laidLooks := .later }
def FixTextsCardSaid : Prop := Claim7.holds Tryd.pinned (.plain (OpenSpec.ofChange fixTextsSpec)) fixTextsCard

/-- THE TIED CARD OF 'kilnlaw01.FixBack'. -/
def fixBackCard : Claim7 := { stood := { row := fixBackRow, standIns := [], harness := (true, "ae21566acb875373f00c1ff63374bd7ed0e0af2baf962d738e626ad9b3cb20c5"), looks := false }, kinds := [], alts := [], laidByText := true, laidKinds := [.data, .data, .data, .data, .pinned], laidTests := true, laidLooks := .later }
def FixBackCardSaid : Prop := Claim7.holds Tryd.pinned (.plain (OpenSpec.ofChange fixBackSpec)) fixBackCard

/-- THE SECOND FORM's CARD OF 'kilnlaw01.FixScans'. -/
def fixScansUptoCard : Claim7 := { stood := { row := fixScansUptoRow, standIns := [], harness := (true, "ae21566acb875373f00c1ff63374bd7ed0e0af2baf962d738e626ad9b3cb20c5"), looks := false }, kinds := [], alts := [], laidByText := true, laidKinds := [.data, .pinned], laidTests := true, laidLooks := .later }
def FixScansUptoCardSaid : Prop := Claim7.holds Tryd.pinned (.plain (OpenSpec.upto fixScansSpec)) fixScansUptoCard

/-- THE SECOND FORM's CARD OF 'kilnlaw01.FixTexts'. -/
def fixTextsUptoCard : Claim7 := { stood := { row := fixTextsUptoRow, standIns := [], harness := (true, "ae21566acb875373f00c1ff63374bd7ed0e0af2baf962d738e626ad9b3cb20c5"), looks := false }, kinds := [], alts := [], laidByText := true, laidKinds := [.data, .data, .data, .data, .pinned], laidTests := true, laidLooks := .later }
def FixTextsUptoCardSaid : Prop := Claim7.holds Tryd.pinned (.plain (OpenSpec.upto fixTextsSpec)) fixTextsUptoCard

/-- THE SECOND FORM's CARD OF 'kilnlaw01.FixBack'. -/
def fixBackUptoCard : Claim7 := { stood := { row := fixBackUptoRow, standIns := [], harness := (true, "ae21566acb875373f00c1ff63374bd7ed0e0af2baf962d738e626ad9b3cb20c5"), looks := false }, kinds := [], alts := [], laidByText := true, laidKinds := [.data, .data, .data, .data, .pinned], laidTests := true, laidLooks := .later }
def FixBackUptoCardSaid : Prop := Claim7.holds Tryd.pinned (.plain (OpenSpec.upto fixBackSpec)) fixBackUptoCard
end Rows
end Go.Proofs.YtelggbmobemnoaaDoor
