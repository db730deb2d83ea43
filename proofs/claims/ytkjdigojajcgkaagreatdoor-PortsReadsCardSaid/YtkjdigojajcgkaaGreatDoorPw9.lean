/- Walks of layer 21: lines as a text, on both sides. -/
import Derived.Test.YtkjdigojajcgkaaGreatDoorPw8
import Derived.Test.YtkjdigojajcgkaaGreatDoorAp
namespace Go.Proofs.YtkjdigojajcgkaaGreatDoor
open Go.RowKit
open Pt (Oc)
set_option linter.unusedVariables false
attribute [local go_sem] ext_mk size_mk toList_mk get_mk take_drop_len take_tail_len ByteArray.mk_append_mk List.append_toArray

theorem text_nl {ls : List (List UInt8)} {k : Nat} {x : List UInt8} (h : k < ls.length) (hx : ls.getD k [] = x) (hn : Pt.hasNl x = true) : Pt.textB ls = [] ∧ Pt.textE ls = 1 := by
  have : Pt.textE ls = 1 := by unfold Pt.textE; rw [if_pos (by rw [List.any_eq_true]; exact ⟨x, mem_getD h hx, hn⟩)]
  exact ⟨by unfold Pt.textB; rw [this]; rfl, this⟩

theorem text_many {ls : List (List UInt8)} (h : ls.any Pt.hasNl = false) (hl : 65536 < ls.length) : Pt.textB ls = [] ∧ Pt.textE ls = 3 := by
  have : Pt.textE ls = 3 := by unfold Pt.textE; rw [if_neg (by rw [h]; simp), if_pos hl]
  exact ⟨by unfold Pt.textB; rw [this]; rfl, this⟩

theorem textLen_next {ls : List (List UInt8)} {k : Nat} {x : List UInt8} (h : k < ls.length) (hx : ls.getD k [] = x) : Pt.textLen (ls.take (k + 1)) = Pt.textLen (ls.take k) + (x.length + 1) := by
  rw [St.lsnoc h hx]; unfold Pt.textLen; simp

theorem textLen_take (ls : List (List UInt8)) (k : Nat) : Pt.textLen (ls.take k) ≤ Pt.textLen ls := by
  have h : Pt.textLen (ls.take k ++ ls.drop k) = Pt.textLen (ls.take k) + Pt.textLen (ls.drop k) := by unfold Pt.textLen; rw [List.map_append, List.sum_append]
  rw [List.take_append_drop] at h; omega

theorem text_long {ls : List (List UInt8)} (h : ls.any Pt.hasNl = false) (hl : ls.length ≤ 65536) (hn : 1048576 < Pt.textLen ls) : Pt.textB ls = [] ∧ Pt.textE ls = 2 := by
  have : Pt.textE ls = 2 := by unfold Pt.textE; rw [if_neg (by rw [h]; simp), if_neg (by omega), if_pos hn]
  exact ⟨by unfold Pt.textB; rw [this]; rfl, this⟩

theorem text_fine {ls : List (List UInt8)} (h : ls.any Pt.hasNl = false) (hl : ls.length ≤ 65536) (hn : Pt.textLen ls ≤ 1048576) : Pt.textB ls = Pt.textL ls ∧ Pt.textE ls = 0 := by
  have : Pt.textE ls = 0 := by unfold Pt.textE; rw [if_neg (by rw [h]; simp), if_neg (by omega), if_neg (by omega)]
  exact ⟨by unfold Pt.textB; rw [if_pos this], this⟩

theorem any_snoc {ls : List (List UInt8)} {k : Nat} {x : List UInt8} (h : k < ls.length) (hx : ls.getD k [] = x) (ha : (ls.take k).any Pt.hasNl = false) (hn : Pt.hasNl x = false) : (ls.take (k + 1)).any Pt.hasNl = false := by
  rw [St.lsnoc h hx, List.any_append, ha]; simp [hn]

theorem has_of_take {l : List UInt8} {k : Nat} (h : Pt.hasNl (l.take k) = true) : Pt.hasNl l = true := by
  unfold Pt.hasNl at h ⊢
  rw [List.any_eq_true] at h ⊢
  obtain ⟨x, hx, h2⟩ := h
  exact ⟨x, List.mem_of_mem_take hx, h2⟩
end Go.Proofs.YtkjdigojajcgkaaGreatDoor
