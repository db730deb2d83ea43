/-
  No cell of these rows narrows 'for every input' (looked for: loops, veiled, ifaces, maps, wideKeys, modest, calm, conditions, laid).
  DERIVED. THE GIVEN ROWS OF THIS SEAT. 6 by the template 'for every input the law returns true; each argument reads behind the call as it read before'; 0 by the template 'total and deterministic' (their statements: YtelggbmobemnoaaTotals.lean).
  GIVEN WITH THE SEED: the statements are not yours to turn. If you find one false, say at which input.
  Laid BY PROGRAM, IN A SANDBOX (cutbox-rows.mjs): the forced cells as the released guide's own fill.sh prints them over the translation 7160a6728c1f9982… (all of the seat's roots in one cut). By AI agents, Wed Nov 11 2026. No macro, syntax, notation, axiom, sorry.
-/
import Derived.Test.YtelggbmobemnoaaChecked
import GoSem.Claim
import GoSem.ClaimJoined
import GoSem.ClaimMapViews
import Derived.JoinedTies
import Derived.KernelRfl
namespace Go.Proofs.Ytelggbmobemnoaa
/- THE CELL 'sum', in the pinned program and in every row, IS THE sha256 OF THE DUMP (.gsa) THAT YtelggbmobemnoaaProg.lean LOADS. Nothing in Lean hashes anything: it is a label: what it is worth is what the hold of that sum in a sandbox is worth. -/
noncomputable def Try.pinned : Pinned := { name := "ytelggbmobemnoaa", sum := "7160a6728c1f9982978a775b30f498728f3e89e1966de8e24ba42ab4b98c28e4", checked := Try.checked }
namespace Rows
def none {H : Type} : Left H := { results := [], args := [] }

/-- 'kilnlaw01.FixAdds': WHATEVER THE INPUT: true; the input reads as it did. -/
def fixAddsSpec : ChangeSpec := { name := "fixAdds", fn := fun _ => fun
  | [d] => { results := [.lit (.bool true)], args := [d] }
  | _ => none }
def fixAddsRow : OpenClaim := { program := "ytelggbmobemnoaa", sum := "7160a6728c1f9982978a775b30f498728f3e89e1966de8e24ba42ab4b98c28e4", func := "kiln/kilnlaw01.FixAdds", spec := "fixAdds", apart := false }
def FixAddsSaid : Prop := fixAddsRow.holds Try.pinned (OpenSpec.ofChange fixAddsSpec)

/-- ITS FALSE NEIGHBOUR: 'it returns false'. Refute it at one input. -/
def fixAddsWrong : ChangeSpec := { name := "fixAdds", fn := fun _ => fun
  | [d] => { results := [.lit (.bool false)], args := [d] }
  | _ => none }
def FixAddsWrongFalsely : Prop := fixAddsRow.holds Try.pinned (OpenSpec.ofChange fixAddsWrong)

/-- 'kilnlaw01.FixDivides': WHATEVER THE INPUT: true; the input reads as it did. -/
def fixDividesSpec : ChangeSpec := { name := "fixDivides", fn := fun _ => fun
  | [d1, d2] => { results := [.lit (.bool true)], args := [d1, d2] }
  | _ => none }
def fixDividesRow : OpenClaim := { program := "ytelggbmobemnoaa", sum := "7160a6728c1f9982978a775b30f498728f3e89e1966de8e24ba42ab4b98c28e4", func := "kiln/kilnlaw01.FixDivides", spec := "fixDivides", apart := false }
def FixDividesSaid : Prop := fixDividesRow.holds Try.pinned (OpenSpec.ofChange fixDividesSpec)

/-- ITS FALSE NEIGHBOUR: 'it returns false'. Refute it at one input. -/
def fixDividesWrong : ChangeSpec := { name := "fixDivides", fn := fun _ => fun
  | [d1, d2] => { results := [.lit (.bool false)], args := [d1, d2] }
  | _ => none }
def FixDividesWrongFalsely : Prop := fixDividesRow.holds Try.pinned (OpenSpec.ofChange fixDividesWrong)

/-- 'kilnlaw01.FixRests': WHATEVER THE INPUT: true; the input reads as it did. -/
def fixRestsSpec : ChangeSpec := { name := "fixRests", fn := fun _ => fun
  | [d1, d2] => { results := [.lit (.bool true)], args := [d1, d2] }
  | _ => none }
def fixRestsRow : OpenClaim := { program := "ytelggbmobemnoaa", sum := "7160a6728c1f9982978a775b30f498728f3e89e1966de8e24ba42ab4b98c28e4", func := "kiln/kilnlaw01.FixRests", spec := "fixRests", apart := false }
def FixRestsSaid : Prop := fixRestsRow.holds Try.pinned (OpenSpec.ofChange fixRestsSpec)

/-- ITS FALSE NEIGHBOUR: 'it returns false'. Refute it at one input. -/
def fixRestsWrong : ChangeSpec := { name := "fixRests", fn := fun _ => fun
  | [d1, d2] => { results := [.lit (.bool false)], args := [d1, d2] }
  | _ => none }
def FixRestsWrongFalsely : Prop := fixRestsRow.holds Try.pinned (OpenSpec.ofChange fixRestsWrong)

/-- 'kilnlaw01.FixLaws': WHATEVER THE INPUT: true; the input reads as it did. -/
def fixLawsSpec : ChangeSpec := { name := "fixLaws", fn := fun _ => fun
  | [d1, d2, d3] => { results := [.lit (.bool true)], args := [d1, d2, d3] }
  | _ => none }
def fixLawsRow : OpenClaim := { program := "ytelggbmobemnoaa", sum := "7160a6728c1f9982978a775b30f498728f3e89e1966de8e24ba42ab4b98c28e4", func := "kiln/kilnlaw01.FixLaws", spec := "fixLaws", apart := false }
def FixLawsSaid : Prop := fixLawsRow.holds Try.pinned (OpenSpec.ofChange fixLawsSpec)

/-- ITS FALSE NEIGHBOUR: 'it returns false'. Refute it at one input. -/
def fixLawsWrong : ChangeSpec := { name := "fixLaws", fn := fun _ => fun
  | [d1, d2, d3] => { results := [.lit (.bool false)], args := [d1, d2, d3] }
  | _ => none }
def FixLawsWrongFalsely : Prop := fixLawsRow.holds Try.pinned (OpenSpec.ofChange fixLawsWrong)

/-- 'kilnlaw01.FixReckons': WHATEVER THE INPUT: true; the input reads as it did. -/
def fixReckonsSpec : ChangeSpec := { name := "fixReckons", fn := fun _ => fun
  | [d1, d2] => { results := [.lit (.bool true)], args := [d1, d2] }
  | _ => none }
def fixReckonsRow : OpenClaim := { program := "ytelggbmobemnoaa", sum := "7160a6728c1f9982978a775b30f498728f3e89e1966de8e24ba42ab4b98c28e4", func := "kiln/kilnlaw01.FixReckons", spec := "fixReckons", apart := false }
def FixReckonsSaid : Prop := fixReckonsRow.holds Try.pinned (OpenSpec.ofChange fixReckonsSpec)

/-- ITS FALSE NEIGHBOUR: 'it returns false'. Refute it at one input. -/
def fixReckonsWrong : ChangeSpec := { name := "fixReckons", fn := fun _ => fun
  | [d1, d2] => { results := [.lit (.bool false)], args := [d1, d2] }
  | _ => none }
def FixReckonsWrongFalsely : Prop := fixReckonsRow.holds Try.pinned (OpenSpec.ofChange fixReckonsWrong)

/-- 'kilnlaw01.FixConstants': WHATEVER THE INPUT: true; the input reads as it did. -/
def fixConstantsSpec : ChangeSpec := { name := "fixConstants", fn := fun _ => fun
  | [d] => { results := [.lit (.bool true)], args := [d] }
  | _ => none }
def fixConstantsRow : OpenClaim := { program := "ytelggbmobemnoaa", sum := "7160a6728c1f9982978a775b30f498728f3e89e1966de8e24ba42ab4b98c28e4", func := "kiln/kilnlaw01.FixConstants", spec := "fixConstants", apart := false }
def FixConstantsSaid : Prop := fixConstantsRow.holds Try.pinned (OpenSpec.ofChange fixConstantsSpec)

/-- ITS FALSE NEIGHBOUR: 'it returns false'. Refute it at one input. -/
def fixConstantsWrong : ChangeSpec := { name := "fixConstants", fn := fun _ => fun
  | [d] => { results := [.lit (.bool false)], args := [d] }
  | _ => none }
def FixConstantsWrongFalsely : Prop := fixConstantsRow.holds Try.pinned (OpenSpec.ofChange fixConstantsWrong)

/- THE SECOND FORM. 'bulk': how many values and letters a reading holds, each counted each time it is reached (what is shared counts as often as it is met; a slice's spare places count too). A statement '..UptoSaid' is the law's where the arguments, and the package variables that the reading takes, are together of bulk at most 1048576: NARROWER than '..Said'. Prove '..Said' where nothing that the law and all that it calls make is longer than what came in: it says more and counts as full. Else prove '..UptoSaid'. A law counts once. -/
mutual
def uptoBulk {H : Type} : DataW H → Nat
  | .lit (.string bytes) => bytes.length + 1
  | .lit _ => 1
  | .nil => 1
  | .ptr d => uptoBulk d + 1
  | .slice elems spare => uptoBulkAll elems + uptoBulkAll spare + 1
  | .agg parts => uptoBulkAll parts + 1
  | .iface _ d => uptoBulk d + 1
  | .map entries => uptoBulkEntries entries + 1
  | .held _ => 1
def uptoBulkAll {H : Type} : List (DataW H) → Nat
  | [] => 0
  | d :: r => uptoBulk d + uptoBulkAll r
def uptoBulkEntries {H : Type} : List (Lit × DataW H) → Nat
  | [] => 0
  | x :: r => uptoBulkEntry x + uptoBulkEntries r
def uptoBulkEntry {H : Type} : Lit × DataW H → Nat
  | (.string bytes, d) => bytes.length + uptoBulk d + 1
  | (_, d) => uptoBulk d + 1
 end
def uptoSmall : (H : Type) → List (DataW H) → Bool := fun _ ds => decide (uptoBulkAll ds ≤ 1048576)
def OpenSpec.upto (s : _root_.Go.ChangeSpec) : _root_.Go.OpenSpec := { _root_.Go.OpenSpec.ofChange s with cond := some uptoSmall }

/-- 'kilnlaw01.FixAdds', WHERE WHAT IT READS IS OF BULK AT MOST 1048576: true; the input reads as it did. -/
def fixAddsUptoRow : OpenClaim := { program := "ytelggbmobemnoaa", sum := "7160a6728c1f9982978a775b30f498728f3e89e1966de8e24ba42ab4b98c28e4", func := "kiln/kilnlaw01.FixAdds", spec := "fixAdds", apart := false, narrowed := true }
def FixAddsUptoSaid : Prop := fixAddsUptoRow.holds Try.pinned (OpenSpec.upto fixAddsSpec)

/-- 'kilnlaw01.FixDivides', WHERE WHAT IT READS IS OF BULK AT MOST 1048576: true; the input reads as it did. -/
def fixDividesUptoRow : OpenClaim := { program := "ytelggbmobemnoaa", sum := "7160a6728c1f9982978a775b30f498728f3e89e1966de8e24ba42ab4b98c28e4", func := "kiln/kilnlaw01.FixDivides", spec := "fixDivides", apart := false, narrowed := true }
def FixDividesUptoSaid : Prop := fixDividesUptoRow.holds Try.pinned (OpenSpec.upto fixDividesSpec)

/-- 'kilnlaw01.FixRests', WHERE WHAT IT READS IS OF BULK AT MOST 1048576: true; the input reads as it did. -/
def fixRestsUptoRow : OpenClaim := { program := "ytelggbmobemnoaa", sum := "7160a6728c1f9982978a775b30f498728f3e89e1966de8e24ba42ab4b98c28e4", func := "kiln/kilnlaw01.FixRests", spec := "fixRests", apart := false, narrowed := true }
def FixRestsUptoSaid : Prop := fixRestsUptoRow.holds Try.pinned (OpenSpec.upto fixRestsSpec)

/-- 'kilnlaw01.FixLaws', WHERE WHAT IT READS IS OF BULK AT MOST 1048576: true; the input reads as it did. -/
def fixLawsUptoRow : OpenClaim := { program := "ytelggbmobemnoaa", sum := "7160a6728c1f9982978a775b30f498728f3e89e1966de8e24ba42ab4b98c28e4", func := "kiln/kilnlaw01.FixLaws", spec := "fixLaws", apart := false, narrowed := true }
def FixLawsUptoSaid : Prop := fixLawsUptoRow.holds Try.pinned (OpenSpec.upto fixLawsSpec)

/-- 'kilnlaw01.FixReckons', WHERE WHAT IT READS IS OF BULK AT MOST 1048576: true; the input reads as it did. -/
def fixReckonsUptoRow : OpenClaim := { program := "ytelggbmobemnoaa", sum := "7160a6728c1f9982978a775b30f498728f3e89e1966de8e24ba42ab4b98c28e4", func := "kiln/kilnlaw01.FixReckons", spec := "fixReckons", apart := false, narrowed := true }
def FixReckonsUptoSaid : Prop := fixReckonsUptoRow.holds Try.pinned (OpenSpec.upto fixReckonsSpec)

/-- 'kilnlaw01.FixConstants', WHERE WHAT IT READS IS OF BULK AT MOST 1048576: true; the input reads as it did. -/
def fixConstantsUptoRow : OpenClaim := { program := "ytelggbmobemnoaa", sum := "7160a6728c1f9982978a775b30f498728f3e89e1966de8e24ba42ab4b98c28e4", func := "kiln/kilnlaw01.FixConstants", spec := "fixConstants", apart := false, narrowed := true }
def FixConstantsUptoSaid : Prop := fixConstantsUptoRow.holds Try.pinned (OpenSpec.upto fixConstantsSpec)

end Rows
end Go.Proofs.Ytelggbmobemnoaa
