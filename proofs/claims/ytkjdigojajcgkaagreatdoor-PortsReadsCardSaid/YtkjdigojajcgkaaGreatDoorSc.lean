/- The plain answers of layer 3: strings one behind the other. -/
import Derived.Test.YtkjdigojajcgkaaGreatDoorSx
import Derived.Lib.Join
namespace Go.Proofs.YtkjdigojajcgkaaGreatDoor.St
open Go.RowKit

def catE (ls : List (List UInt8)) : Int := if ls.all rightB then (if ls.flatten.length ≤ 65536 then 0 else 2) else 1

def catB (ls : List (List UInt8)) : List UInt8 := if catE ls = 0 then ls.flatten else []

theorem catE_bd (ls : List (List UInt8)) : 0 ≤ catE ls ∧ catE ls ≤ 2 := by unfold catE; repeat' split <;> omega

theorem lsnoc {ls : List (List UInt8)} {k : Nat} {x : List UInt8} (h : k < ls.length) (hx : ls.getD k [] = x) : ls.take (k + 1) = ls.take k ++ [x] := by
  rw [List.take_succ_eq_append_getElem h]
  rw [← hx]; simp [List.getD, h]

theorem all_next {ls : List (List UInt8)} {k : Nat} {x : List UInt8} (h : k < ls.length) (hx : ls.getD k [] = x) (ha : (ls.take k).all rightB = true) (hr : rightB x = true) : (ls.take (k + 1)).all rightB = true := by
  rw [lsnoc h hx, List.all_append, ha]; simp [hr]

theorem cat_no {ls : List (List UInt8)} {k : Nat} {x : List UInt8} (h : k < ls.length) (hx : ls.getD k [] = x) (hr : rightB x = false) : catB ls = [] ∧ catE ls = 1 := by
  have ha : ls.all rightB = false := by
    rw [List.all_eq_false]
    exact ⟨x, by rw [← hx]; simp [List.getD, h], by simp [hr]⟩
  have he : catE ls = 1 := by unfold catE; rw [ha]; rfl
  exact ⟨by unfold catB; rw [he]; rfl, he⟩

theorem flat_next {ls : List (List UInt8)} {k : Nat} {x : List UInt8} (h : k < ls.length) (hx : ls.getD k [] = x) : (ls.take (k + 1)).flatten = (ls.take k).flatten ++ x := by
  rw [lsnoc h hx, List.flatten_append]; simp

theorem flat_le (ls : List (List UInt8)) (k : Nat) : (ls.take k).flatten.length ≤ ls.flatten.length := by
  conv => rhs; rw [← List.take_append_drop k ls, List.flatten_append]
  simp

theorem cat_over {ls : List (List UInt8)} {k : Nat} {x : List UInt8} (h : k < ls.length) (hx : ls.getD k [] = x) (ha : ls.all rightB = true) (ho : 65536 < (ls.take k).flatten.length + x.length) : catB ls = [] ∧ catE ls = 2 := by
  have h1 := flat_le ls (k + 1)
  rw [flat_next h hx, List.length_append] at h1
  have he : catE ls = 2 := by unfold catE; rw [if_pos ha, if_neg (by omega)]
  exact ⟨by unfold catB; rw [he]; rfl, he⟩

theorem cat_end {ls : List (List UInt8)} (ha : ls.all rightB = true) (h : ls.flatten.length ≤ 65536) : catB ls = ls.flatten ∧ catE ls = 0 := by
  have he : catE ls = 0 := by unfold catE; rw [if_pos ha, if_pos h]
  exact ⟨by unfold catB; rw [he]; rfl, he⟩

theorem join_nil (ls : List (List UInt8)) : Lib.join ls [] = ls.flatten := by
  cases ls with
  | nil => rfl
  | cons x r =>
    rw [Lib.join_cons]
    unfold Lib.joinTail
    simp
end Go.Proofs.YtkjdigojajcgkaaGreatDoor.St
