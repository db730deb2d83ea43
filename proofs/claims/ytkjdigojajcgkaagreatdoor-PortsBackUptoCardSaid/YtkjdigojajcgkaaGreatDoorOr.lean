/- Arguments opened: a list of texts, with its bulk. -/
import Derived.Test.YtkjdigojajcgkaaGreatDoorOq
namespace Go.Proofs.YtkjdigojajcgkaaGreatDoor
open Go.ChangeShapes Go.WideShapes Go.Deep Go.RowKit
open Opn
set_option maxRecDepth 100000 in
theorem strs_arg2 {H : Type} {enc : TypeId × Value → H} {w : World} {base : Nat} {v : Value} {d : DataW H} {p : List MemPlace}
    (k : DataW.Trod enc Tryz.prog w 0 (fun _ => true) true 22 v d p) (o : Value.okWide Tryz.prog w .any base 22 v) (s : ∀ y ∈ DataW.weights Tryz.prog 22 d, y ≤ reachBytes) :
    ∃ (a : Option Addr) (ls : List (List UInt8)) (cap : Nat), v = .slice a ls.length cap ∧ ls.length ≤ cap ∧ cap ≤ maxLen ∧ StrsAt w a ls ∧ ls.flatten.length + ls.length ≤ Rows.uptoBulk d := by
  obtain ⟨fuel, hf⟩ := k
  obtain ⟨a, ls, cap, hcs, h⟩ := open_strs2 hf s
  obtain ⟨a1, l1, c1, rfl⟩ := okWide_slice Tryz.underlying22 o
  simp [Value.cells] at hcs
  obtain ⟨rfl, rfl, rfl⟩ := hcs
  exact ⟨_, _, _, rfl, h⟩
end Go.Proofs.YtkjdigojajcgkaaGreatDoor
