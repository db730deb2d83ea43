/-
  DERIVED. GIVEN WITH THE SEED: THE CARDS: each row of YtmbmlindofchcaaDoorRows.lean that lists a variable, with what it lists TIED to the program's text (the seventh form; the later family's looks); each row that meets fmt, with fmt's text TOLD by the authors' own Lean function (tested against real Go, not proved from fmt's source: count such statements apart). THE CARD IS WHAT COUNTS. Prove the row's statement (the work); the ties are given (YtmbmlindofchcaaDoorTie.lean); close each card by the builder's one call (the guide's Derived/Test/ToyasCard.lean, 'card_holds'). Laid BY PROGRAM, IN A SANDBOX (cutbox-door.mjs). By AI agents, Wed Nov 11 2026. No macro, syntax, notation, axiom, sorry.
-/
import Derived.Test.YtmbmlindofchcaaDoorRows
import GoSem.ClaimSeven
namespace Go.Proofs.YtmbmlindofchcaaDoor
namespace Rows

/-- THE TIED CARD OF 'kilnlaw03.StrCats'. -/
def strCatsCard : Claim7 := { stood := { row := strCatsRow, standIns := [], harness := (true, "8287b5fbc17d3354d1452ad725f571c8bef0f90dc94bab78f2b16cabf7ac0cee"), looks := true }, kinds := [], alts := [], laidByText := true, laidKinds := [.data, .data, .data, .sentinel, .sentinel], laidTests := true, laidLooks := .later }
def StrCatsCardSaid : Prop := Claim7.holds Tryd.pinned (.plain (OpenSpec.ofChange strCatsSpec)) strCatsCard

/-- THE TIED CARD OF 'kilnlaw03.StrReads'. -/
def strReadsCard : Claim7 := { stood := { row := strReadsRow, standIns := [], harness := (true, "8287b5fbc17d3354d1452ad725f571c8bef0f90dc94bab78f2b16cabf7ac0cee"), looks := true }, kinds := [], alts := [], laidByText := true, laidKinds := [.data, .data, .data, .sentinel, .sentinel], laidTests := true, laidLooks := .later }
def StrReadsCardSaid : Prop := Claim7.holds Tryd.pinned (.plain (OpenSpec.ofChange strReadsSpec)) strReadsCard

/-- THE TIED CARD OF 'kilnlaw03.StrGaps'. -/
def strGapsCard : Claim7 := { stood := { row := strGapsRow, standIns := [], harness := (true, "8287b5fbc17d3354d1452ad725f571c8bef0f90dc94bab78f2b16cabf7ac0cee"), looks := true }, kinds := [], alts := [], laidByText := true, laidKinds := [.data, .data, .data, .sentinel, .sentinel], laidTests := true, laidLooks := .later }
def StrGapsCardSaid : Prop := Claim7.holds Tryd.pinned (.plain (OpenSpec.ofChange strGapsSpec)) strGapsCard

/-- THE TIED CARD OF 'kilnlaw03.StrEscapes'. -/
def strEscapesCard : Claim7 := { stood := { row := strEscapesRow, standIns := [], harness := (true, "8287b5fbc17d3354d1452ad725f571c8bef0f90dc94bab78f2b16cabf7ac0cee"), looks := true }, kinds := [], alts := [], laidByText := true, laidKinds := [.data, .data, .data, .sentinel, .sentinel], laidTests := true, laidLooks := .later }
def StrEscapesCardSaid : Prop := Claim7.holds Tryd.pinned (.plain (OpenSpec.ofChange strEscapesSpec)) strEscapesCard

/-- THE TIED CARD OF 'kilnlaw03.StrBack'. -/
def strBackCard : Claim7 := { stood := { row := strBackRow, standIns := [], harness := (true, "8287b5fbc17d3354d1452ad725f571c8bef0f90dc94bab78f2b16cabf7ac0cee"), looks := true }, kinds := [], alts := [], laidByText := true, laidKinds := [.data, .data, .data, .sentinel, .sentinel], laidTests := true, laidLooks := .later }
def StrBackCardSaid : Prop := Claim7.holds Tryd.pinned (.plain (OpenSpec.ofChange strBackSpec)) strBackCard

/-- THE TIED CARD OF 'kilnlaw03.StrCuts'. -/
def strCutsCard : Claim7 := { stood := { row := strCutsRow, standIns := [], harness := (true, "8287b5fbc17d3354d1452ad725f571c8bef0f90dc94bab78f2b16cabf7ac0cee"), looks := true }, kinds := [], alts := [], laidByText := true, laidKinds := [.data, .data, .data, .sentinel, .sentinel], laidTests := true, laidLooks := .later }
def StrCutsCardSaid : Prop := Claim7.holds Tryd.pinned (.plain (OpenSpec.ofChange strCutsSpec)) strCutsCard

/-- THE TIED CARD OF 'kilnlaw03.StrParts'. -/
def strPartsCard : Claim7 := { stood := { row := strPartsRow, standIns := [], harness := (true, "8287b5fbc17d3354d1452ad725f571c8bef0f90dc94bab78f2b16cabf7ac0cee"), looks := true }, kinds := [], alts := [], laidByText := true, laidKinds := [.data, .data, .data, .sentinel, .sentinel], laidTests := true, laidLooks := .later }
def StrPartsCardSaid : Prop := Claim7.holds Tryd.pinned (.plain (OpenSpec.ofChange strPartsSpec)) strPartsCard

/-- THE SECOND FORM's CARD OF 'kilnlaw03.StrCats'. -/
def strCatsUptoCard : Claim7 := { stood := { row := strCatsUptoRow, standIns := [], harness := (true, "8287b5fbc17d3354d1452ad725f571c8bef0f90dc94bab78f2b16cabf7ac0cee"), looks := true }, kinds := [], alts := [], laidByText := true, laidKinds := [.data, .data, .data, .sentinel, .sentinel], laidTests := true, laidLooks := .later }
def StrCatsUptoCardSaid : Prop := Claim7.holds Tryd.pinned (.plain (OpenSpec.upto strCatsSpec)) strCatsUptoCard

/-- THE SECOND FORM's CARD OF 'kilnlaw03.StrReads'. -/
def strReadsUptoCard : Claim7 := { stood := { row := strReadsUptoRow, standIns := [], harness := (true, "8287b5fbc17d3354d1452ad725f571c8bef0f90dc94bab78f2b16cabf7ac0cee"), looks := true }, kinds := [], alts := [], laidByText := true, laidKinds := [.data, .data, .data, .sentinel, .sentinel], laidTests := true, laidLooks := .later }
def StrReadsUptoCardSaid : Prop := Claim7.holds Tryd.pinned (.plain (OpenSpec.upto strReadsSpec)) strReadsUptoCard

/-- THE SECOND FORM's CARD OF 'kilnlaw03.StrGaps'. -/
def strGapsUptoCard : Claim7 := { stood := { row := strGapsUptoRow, standIns := [], harness := (true, "8287b5fbc17d3354d1452ad725f571c8bef0f90dc94bab78f2b16cabf7ac0cee"), looks := true }, kinds := [], alts := [], laidByText := true, laidKinds := [.data, .data, .data, .sentinel, .sentinel], laidTests := true, laidLooks := .later }
def StrGapsUptoCardSaid : Prop := Claim7.holds Tryd.pinned (.plain (OpenSpec.upto strGapsSpec)) strGapsUptoCard

/-- THE SECOND FORM's CARD OF 'kilnlaw03.StrEscapes'. -/
def strEscapesUptoCard : Claim7 := { stood := { row := strEscapesUptoRow, standIns := [], harness := (true, "8287b5fbc17d3354d1452ad725f571c8bef0f90dc94bab78f2b16cabf7ac0cee"), looks := true }, kinds := [], alts := [], laidByText := true, laidKinds := [.data, .data, .data, .sentinel, .sentinel], laidTests := true, laidLooks := .later }
def StrEscapesUptoCardSaid : Prop := Claim7.holds Tryd.pinned (.plain (OpenSpec.upto strEscapesSpec)) strEscapesUptoCard

/-- THE SECOND FORM's CARD OF 'kilnlaw03.StrBack'. -/
def strBackUptoCard : Claim7 := { stood := { row := strBackUptoRow, standIns := [], harness := (true, "8287b5fbc17d3354d1452ad725f571c8bef0f90dc94bab78f2b16cabf7ac0cee"), looks := true }, kinds := [], alts := [], laidByText := true, laidKinds := [.data, .data, .data, .sentinel, .sentinel], laidTests := true, laidLooks := .later }
def StrBackUptoCardSaid : Prop := Claim7.holds Tryd.pinned (.plain (OpenSpec.upto strBackSpec)) strBackUptoCard

/-- THE SECOND FORM's CARD OF 'kilnlaw03.StrCuts'. -/
def strCutsUptoCard : Claim7 := { stood := { row := strCutsUptoRow, standIns := [], harness := (true, "8287b5fbc17d3354d1452ad725f571c8bef0f90dc94bab78f2b16cabf7ac0cee"), looks := true }, kinds := [], alts := [], laidByText := true, laidKinds := [.data, .data, .data, .sentinel, .sentinel], laidTests := true, laidLooks := .later }
def StrCutsUptoCardSaid : Prop := Claim7.holds Tryd.pinned (.plain (OpenSpec.upto strCutsSpec)) strCutsUptoCard

/-- THE SECOND FORM's CARD OF 'kilnlaw03.StrParts'. -/
def strPartsUptoCard : Claim7 := { stood := { row := strPartsUptoRow, standIns := [], harness := (true, "8287b5fbc17d3354d1452ad725f571c8bef0f90dc94bab78f2b16cabf7ac0cee"), looks := true }, kinds := [], alts := [], laidByText := true, laidKinds := [.data, .data, .data, .sentinel, .sentinel], laidTests := true, laidLooks := .later }
def StrPartsUptoCardSaid : Prop := Claim7.holds Tryd.pinned (.plain (OpenSpec.upto strPartsSpec)) strPartsUptoCard
end Rows
end Go.Proofs.YtmbmlindofchcaaDoor
