/-
  No cell of these rows narrows 'for every input' (looked for: loops, veiled, ifaces, maps, wideKeys, modest, calm, conditions, laid).
  DERIVED. THE GIVEN ROWS OF THIS SEAT. 7 by the template 'for every input the law returns true; each argument reads behind the call as it read before'; 0 by the template 'total and deterministic' (their statements: YtgbgahdeopedpaaTotals.lean).
  GIVEN WITH THE SEED: the statements are not yours to turn. If you find one false, say at which input.
  Laid BY PROGRAM, IN A SANDBOX (cutbox-rows.mjs): the forced cells as the released guide's own fill.sh prints them over the translation 307d2056d687ef4f… (all of the seat's roots in one cut). By AI agents, Wed Nov 11 2026. No macro, syntax, notation, axiom, sorry.
-/
import Derived.Test.YtgbgahdeopedpaaChecked
import GoSem.Claim
import GoSem.ClaimJoined
import GoSem.ClaimMapViews
import Derived.JoinedTies
import Derived.KernelRfl
namespace Go.Proofs.Ytgbgahdeopedpaa
/- THE CELL 'sum', in the pinned program and in every row, IS THE sha256 OF THE DUMP (.gsa) THAT YtgbgahdeopedpaaProg.lean LOADS. Nothing in Lean hashes anything: it is a label: what it is worth is what the hold of that sum in a sandbox is worth. -/
noncomputable def Try.pinned : Pinned := { name := "ytgbgahdeopedpaa", sum := "307d2056d687ef4f8a22269363fd4e2ad690f92999762ce4278e227fd4307944", checked := Try.checked }
namespace Rows
def none {H : Type} : Left H := { results := [], args := [] }

/-- 'kilnlaw24.ImageSums': WHATEVER THE INPUT: true; the input reads as it did. -/
def imageSumsSpec : ChangeSpec := { name := "imageSums", fn := fun _ => fun
  | [d] => { results := [.lit (.bool true)], args := [d] }
  | _ => none }
def imageSumsRow : OpenClaim := { program := "ytgbgahdeopedpaa", sum := "307d2056d687ef4f8a22269363fd4e2ad690f92999762ce4278e227fd4307944", func := "kiln/kilnlaw24.ImageSums", spec := "imageSums", unfollowed := true, recurses := true, apart := false }
def ImageSumsSaid : Prop := imageSumsRow.holds Try.pinned (OpenSpec.ofChange imageSumsSpec)

/-- ITS FALSE NEIGHBOUR: 'it returns false'. Refute it at one input. -/
def imageSumsWrong : ChangeSpec := { name := "imageSums", fn := fun _ => fun
  | [d] => { results := [.lit (.bool false)], args := [d] }
  | _ => none }
def ImageSumsWrongFalsely : Prop := imageSumsRow.holds Try.pinned (OpenSpec.ofChange imageSumsWrong)

/-- 'kilnlaw24.ImagePacks': WHATEVER THE INPUT: true; the input reads as it did. -/
def imagePacksSpec : ChangeSpec := { name := "imagePacks", fn := fun _ => fun
  | [d] => { results := [.lit (.bool true)], args := [d] }
  | _ => none }
def imagePacksRow : OpenClaim := { program := "ytgbgahdeopedpaa", sum := "307d2056d687ef4f8a22269363fd4e2ad690f92999762ce4278e227fd4307944", func := "kiln/kilnlaw24.ImagePacks", spec := "imagePacks", unfollowed := true, recurses := true, apart := false }
def ImagePacksSaid : Prop := imagePacksRow.holds Try.pinned (OpenSpec.ofChange imagePacksSpec)

/-- ITS FALSE NEIGHBOUR: 'it returns false'. Refute it at one input. -/
def imagePacksWrong : ChangeSpec := { name := "imagePacks", fn := fun _ => fun
  | [d] => { results := [.lit (.bool false)], args := [d] }
  | _ => none }
def ImagePacksWrongFalsely : Prop := imagePacksRow.holds Try.pinned (OpenSpec.ofChange imagePacksWrong)

/-- 'kilnlaw24.ImageBack': WHATEVER THE INPUT: true; the input reads as it did. -/
def imageBackSpec : ChangeSpec := { name := "imageBack", fn := fun _ => fun
  | [d] => { results := [.lit (.bool true)], args := [d] }
  | _ => none }
def imageBackRow : OpenClaim := { program := "ytgbgahdeopedpaa", sum := "307d2056d687ef4f8a22269363fd4e2ad690f92999762ce4278e227fd4307944", func := "kiln/kilnlaw24.ImageBack", spec := "imageBack", unfollowed := true, recurses := true, apart := false }
def ImageBackSaid : Prop := imageBackRow.holds Try.pinned (OpenSpec.ofChange imageBackSpec)

/-- ITS FALSE NEIGHBOUR: 'it returns false'. Refute it at one input. -/
def imageBackWrong : ChangeSpec := { name := "imageBack", fn := fun _ => fun
  | [d] => { results := [.lit (.bool false)], args := [d] }
  | _ => none }
def ImageBackWrongFalsely : Prop := imageBackRow.holds Try.pinned (OpenSpec.ofChange imageBackWrong)

/-- 'kilnlaw24.ImageBursts': WHATEVER THE INPUT: true; the input reads as it did. -/
def imageBurstsSpec : ChangeSpec := { name := "imageBursts", fn := fun _ => fun
  | [d1, d2, d3] => { results := [.lit (.bool true)], args := [d1, d2, d3] }
  | _ => none }
def imageBurstsRow : OpenClaim := { program := "ytgbgahdeopedpaa", sum := "307d2056d687ef4f8a22269363fd4e2ad690f92999762ce4278e227fd4307944", func := "kiln/kilnlaw24.ImageBursts", spec := "imageBursts", unfollowed := true, recurses := true, apart := false }
def ImageBurstsSaid : Prop := imageBurstsRow.holds Try.pinned (OpenSpec.ofChange imageBurstsSpec)

/-- ITS FALSE NEIGHBOUR: 'it returns false'. Refute it at one input. -/
def imageBurstsWrong : ChangeSpec := { name := "imageBursts", fn := fun _ => fun
  | [d1, d2, d3] => { results := [.lit (.bool false)], args := [d1, d2, d3] }
  | _ => none }
def ImageBurstsWrongFalsely : Prop := imageBurstsRow.holds Try.pinned (OpenSpec.ofChange imageBurstsWrong)

/-- 'kilnlaw24.ImageCuts': WHATEVER THE INPUT: true; the input reads as it did. -/
def imageCutsSpec : ChangeSpec := { name := "imageCuts", fn := fun _ => fun
  | [d1, d2, d3] => { results := [.lit (.bool true)], args := [d1, d2, d3] }
  | _ => none }
def imageCutsRow : OpenClaim := { program := "ytgbgahdeopedpaa", sum := "307d2056d687ef4f8a22269363fd4e2ad690f92999762ce4278e227fd4307944", func := "kiln/kilnlaw24.ImageCuts", spec := "imageCuts", unfollowed := true, recurses := true, apart := false }
def ImageCutsSaid : Prop := imageCutsRow.holds Try.pinned (OpenSpec.ofChange imageCutsSpec)

/-- ITS FALSE NEIGHBOUR: 'it returns false'. Refute it at one input. -/
def imageCutsWrong : ChangeSpec := { name := "imageCuts", fn := fun _ => fun
  | [d1, d2, d3] => { results := [.lit (.bool false)], args := [d1, d2, d3] }
  | _ => none }
def ImageCutsWrongFalsely : Prop := imageCutsRow.holds Try.pinned (OpenSpec.ofChange imageCutsWrong)

/-- 'kilnlaw24.ImageOwn': WHATEVER THE INPUT: true; the input reads as it did. -/
def imageOwnSpec : ChangeSpec := { name := "imageOwn", fn := fun _ => fun
  | [d] => { results := [.lit (.bool true)], args := [d] }
  | _ => none }
def imageOwnRow : OpenClaim := { program := "ytgbgahdeopedpaa", sum := "307d2056d687ef4f8a22269363fd4e2ad690f92999762ce4278e227fd4307944", func := "kiln/kilnlaw24.ImageOwn", spec := "imageOwn", unfollowed := true, recurses := true, apart := false }
def ImageOwnSaid : Prop := imageOwnRow.holds Try.pinned (OpenSpec.ofChange imageOwnSpec)

/-- ITS FALSE NEIGHBOUR: 'it returns false'. Refute it at one input. -/
def imageOwnWrong : ChangeSpec := { name := "imageOwn", fn := fun _ => fun
  | [d] => { results := [.lit (.bool false)], args := [d] }
  | _ => none }
def ImageOwnWrongFalsely : Prop := imageOwnRow.holds Try.pinned (OpenSpec.ofChange imageOwnWrong)

/-- 'kilnlaw24.ImageUnpacks': WHATEVER THE INPUT: true; the input reads as it did. -/
def imageUnpacksSpec : ChangeSpec := { name := "imageUnpacks", fn := fun _ => fun
  | [d] => { results := [.lit (.bool true)], args := [d] }
  | _ => none }
def imageUnpacksRow : OpenClaim := { program := "ytgbgahdeopedpaa", sum := "307d2056d687ef4f8a22269363fd4e2ad690f92999762ce4278e227fd4307944", func := "kiln/kilnlaw24.ImageUnpacks", spec := "imageUnpacks", unfollowed := true, recurses := true, apart := false }
def ImageUnpacksSaid : Prop := imageUnpacksRow.holds Try.pinned (OpenSpec.ofChange imageUnpacksSpec)

/-- ITS FALSE NEIGHBOUR: 'it returns false'. Refute it at one input. -/
def imageUnpacksWrong : ChangeSpec := { name := "imageUnpacks", fn := fun _ => fun
  | [d] => { results := [.lit (.bool false)], args := [d] }
  | _ => none }
def ImageUnpacksWrongFalsely : Prop := imageUnpacksRow.holds Try.pinned (OpenSpec.ofChange imageUnpacksWrong)

/- THE SECOND FORM. 'bulk': how many values and letters a reading holds, each counted each time it is reached (what is shared counts as often as it is met; a slice's spare places count too). A statement '..UptoSaid' is the law's where the arguments, and the package variables that the reading takes, are together of bulk at most 1048576: NARROWER than '..Said'. Prove '..Said' where nothing that the law and all that it calls make is longer than what came in: it says more and counts as full. Else prove '..UptoSaid'. A law counts once. -/
mutual
def uptoBulk {H : Type} : DataW H → Nat
  | .lit (.string bytes) => bytes.length + 1
  | .lit _ => 1
  | .nil => 1
  | .ptr d => uptoBulk d + 1
  | .slice elems spare => uptoBulkAll elems + uptoBulkAll spare + 1
  | .agg parts => uptoBulkAll parts + 1
  | .iface _ d => uptoBulk d + 1
  | .map entries => uptoBulkEntries entries + 1
  | .held _ => 1
def uptoBulkAll {H : Type} : List (DataW H) → Nat
  | [] => 0
  | d :: r => uptoBulk d + uptoBulkAll r
def uptoBulkEntries {H : Type} : List (Lit × DataW H) → Nat
  | [] => 0
  | x :: r => uptoBulkEntry x + uptoBulkEntries r
def uptoBulkEntry {H : Type} : Lit × DataW H → Nat
  | (.string bytes, d) => bytes.length + uptoBulk d + 1
  | (_, d) => uptoBulk d + 1
 end
def uptoSmall : (H : Type) → List (DataW H) → Bool := fun _ ds => decide (uptoBulkAll ds ≤ 1048576)
def OpenSpec.upto (s : _root_.Go.ChangeSpec) : _root_.Go.OpenSpec := { _root_.Go.OpenSpec.ofChange s with cond := some uptoSmall }

/-- 'kilnlaw24.ImageSums', WHERE WHAT IT READS IS OF BULK AT MOST 1048576: true; the input reads as it did. -/
def imageSumsUptoRow : OpenClaim := { program := "ytgbgahdeopedpaa", sum := "307d2056d687ef4f8a22269363fd4e2ad690f92999762ce4278e227fd4307944", func := "kiln/kilnlaw24.ImageSums", spec := "imageSums", unfollowed := true, recurses := true, apart := false, narrowed := true }
def ImageSumsUptoSaid : Prop := imageSumsUptoRow.holds Try.pinned (OpenSpec.upto imageSumsSpec)

/-- 'kilnlaw24.ImagePacks', WHERE WHAT IT READS IS OF BULK AT MOST 1048576: true; the input reads as it did. -/
def imagePacksUptoRow : OpenClaim := { program := "ytgbgahdeopedpaa", sum := "307d2056d687ef4f8a22269363fd4e2ad690f92999762ce4278e227fd4307944", func := "kiln/kilnlaw24.ImagePacks", spec := "imagePacks", unfollowed := true, recurses := true, apart := false, narrowed := true }
def ImagePacksUptoSaid : Prop := imagePacksUptoRow.holds Try.pinned (OpenSpec.upto imagePacksSpec)

/-- 'kilnlaw24.ImageBack', WHERE WHAT IT READS IS OF BULK AT MOST 1048576: true; the input reads as it did. -/
def imageBackUptoRow : OpenClaim := { program := "ytgbgahdeopedpaa", sum := "307d2056d687ef4f8a22269363fd4e2ad690f92999762ce4278e227fd4307944", func := "kiln/kilnlaw24.ImageBack", spec := "imageBack", unfollowed := true, recurses := true, apart := false, narrowed := true }
def ImageBackUptoSaid : Prop := imageBackUptoRow.holds Try.pinned (OpenSpec.upto imageBackSpec)

/-- 'kilnlaw24.ImageBursts', WHERE WHAT IT READS IS OF BULK AT MOST 1048576: true; the input reads as it did. -/
def imageBurstsUptoRow : OpenClaim := { program := "ytgbgahdeopedpaa", sum := "307d2056d687ef4f8a22269363fd4e2ad690f92999762ce4278e227fd4307944", func := "kiln/kilnlaw24.ImageBursts", spec := "imageBursts", unfollowed := true, recurses := true, apart := false, narrowed := true }
def ImageBurstsUptoSaid : Prop := imageBurstsUptoRow.holds Try.pinned (OpenSpec.upto imageBurstsSpec)

/-- 'kilnlaw24.ImageCuts', WHERE WHAT IT READS IS OF BULK AT MOST 1048576: true; the input reads as it did. -/
def imageCutsUptoRow : OpenClaim := { program := "ytgbgahdeopedpaa", sum := "307d2056d687ef4f8a22269363fd4e2ad690f92999762ce4278e227fd4307944", func := "kiln/kilnlaw24.ImageCuts", spec := "imageCuts", unfollowed := true, recurses := true, apart := false, narrowed := true }
def ImageCutsUptoSaid : Prop := imageCutsUptoRow.holds Try.pinned (OpenSpec.upto imageCutsSpec)

/-- 'kilnlaw24.ImageOwn', WHERE WHAT IT READS IS OF BULK AT MOST 1048576: true; the input reads as it did. -/
def imageOwnUptoRow : OpenClaim := { program := "ytgbgahdeopedpaa", sum := "307d2056d687ef4f8a22269363fd4e2ad690f92999762ce4278e227fd4307944", func := "kiln/kilnlaw24.ImageOwn", spec := "imageOwn", unfollowed := true, recurses := true, apart := false, narrowed := true }
def ImageOwnUptoSaid : Prop := imageOwnUptoRow.holds Try.pinned (OpenSpec.upto imageOwnSpec)

/-- 'kilnlaw24.ImageUnpacks', WHERE WHAT IT READS IS OF BULK AT MOST 1048576: true; the input reads as it did. -/
def imageUnpacksUptoRow : OpenClaim := { program := "ytgbgahdeopedpaa", sum := "307d2056d687ef4f8a22269363fd4e2ad690f92999762ce4278e227fd4307944", func := "kiln/kilnlaw24.ImageUnpacks", spec := "imageUnpacks", unfollowed := true, recurses := true, apart := false, narrowed := true }
def ImageUnpacksUptoSaid : Prop := imageUnpacksUptoRow.holds Try.pinned (OpenSpec.upto imageUnpacksSpec)

end Rows
end Go.Proofs.Ytgbgahdeopedpaa
