/- Walks of layer 3: strings one behind the other. -/
import Derived.Test.YtkjdigojajcgkaaGreatDoorSw1
import Derived.Test.YtkjdigojajcgkaaGreatDoorSc
import Derived.Lib.AppendStr
namespace Go.Proofs.YtkjdigojajcgkaaGreatDoor
open Go.RowKit
open St
set_option linter.unusedVariables false
attribute [local go_sem] ext_mk size_mk toList_mk get_mk take_drop_len take_tail_len ByteArray.mk_append_mk

/-- At this address lie these strings, one behind the other. -/
def StrsAt (w : World) (a : Option Addr) (ls : List (List UInt8)) : Prop :=
  ls.length ≤ 140737488355328 ∧ (ls = [] ∨ ∃ b off, a = some ⟨b, off, none⟩ ∧ b < w.heap.size ∧ ∀ i, i < ls.length → w.cell? ⟨b, off + i, none⟩ = some (.string ⟨(ls.getD i []).toArray⟩))

theorem join_l (b off : Nat) (ls : List (List UInt8)) (cap : Nat) (w : World) (hc : ∀ i, i < ls.length → w.cell? ⟨b, off + i, none⟩ = some (.string ⟨(ls.getD i []).toArray⟩)) (hb : b < w.heap.size) (hn : ls.length ≤ 140737488355328) (hcap : ls.length ≤ cap) (hl : ls.flatten.length ≤ 140737488351232) :
    Calls Tryz.prog 21 #[.slice (some ⟨b, off, none⟩) ls.length cap, .string ⟨#[]⟩] w fun e w' => e = .returned (.string ⟨ls.flatten.toArray⟩) ∧ Below w.heap.size w w' := by
  have hm : (ls.map fun l => (⟨l.toArray⟩ : ByteArray)).map (·.data.toList) = ls := by rw [List.map_map]; simp [Function.comp_def]
  have h := Tryz.strings_Join b off cap (ls.map fun l => (⟨l.toArray⟩ : ByteArray)) ⟨#[]⟩ w (by
    intro j x hx
    rw [List.getElem?_map] at hx
    cases hg : ls[j]? with
    | none => rw [hg] at hx; cases hx
    | some l =>
      rw [hg] at hx; cases hx
      obtain ⟨h1, h2⟩ := List.getElem?_eq_some_iff.1 hg
      have := hc j h1
      rw [this]; simp [List.getD, hg]) hb (by rw [List.length_map]; exact hn) (by rw [List.length_map]; exact hcap) (by rw [hm]; show (Lib.join ls []).length ≤ _; rw [join_nil]; omega)
  rw [List.length_map, hm] at h
  rw [show Lib.join ls (⟨#[]⟩ : ByteArray).data.toList = ls.flatten from join_nil ls] at h
  exact h
end Go.Proofs.YtkjdigojajcgkaaGreatDoor
