/- The plain answers of layer 21: outcomes as reports. No program in sight. -/
import Derived.Test.YtkjdigojajcgkaaGreatDoorPs
import Derived.Test.YtkjdigojajcgkaaGreatDoorSs
import Derived.Test.YtkjdigojajcgkaaGreatDoorFt
namespace Go.Proofs.YtkjdigojajcgkaaGreatDoor.Pt
open Go.RowKit

/-- an outcome -/
structure Oc where
  out : List (List UInt8)
  st : Int
  exn : List UInt8
  steps : Int

/-- a status' word -/
def statB (k : Int) : List UInt8 :=
  if k = 1 then [100, 111, 110, 101] else if k = 2 then [117, 110, 99, 97, 117, 103, 104, 116] else if k = 3 then [111, 117, 116, 32, 111, 102, 32, 102, 117, 101, 108]
  else if k = 4 then [111, 117, 116, 32, 111, 102, 32, 109, 101, 109, 111, 114, 121] else if k = 5 then [115, 116, 117, 99, 107] else []

def outB (s : List UInt8) : List UInt8 := [111, 117, 116, 32, 34] ++ St.escB s ++ [34, 10]

def endB (o : Oc) : List UInt8 := if o.st = 2 then statB 2 ++ [32, 34] ++ St.escB o.exn ++ [34] else statB o.st

def stepsB (n : Int) : List UInt8 := [115, 116, 101, 112, 115, 32] ++ Fx.textB n

def outsB (l : List (List UInt8)) : List UInt8 := l.flatMap outB

/-- may an outcome be written? -/
def okS (o : Oc) : Bool := decide (1 ≤ o.st ∧ o.st ≤ 5) && (decide (o.st = 2) || o.exn.isEmpty)

def okO (l : List (List UInt8)) : Bool := l.all fun s => decide (St.escE s = 0)

def okX (o : Oc) : Bool := !decide (o.st = 2) || decide (St.escE o.exn = 0)

def okN (n : Int) : Bool := Fx.rtB n && decide (0 ≤ n)

def repOk (o : Oc) : Bool := okS o && okO o.out && okX o && okN o.steps

def repL (o : Oc) : List UInt8 := outsB o.out ++ endB o ++ [10] ++ stepsB o.steps ++ [10]

def repE (o : Oc) : Int := if repOk o then (if (repL o).length ≤ 1048576 then 0 else 2) else 1

def repB (o : Oc) : List UInt8 := if repE o = 0 then repL o else []

theorem repE_bd (o : Oc) : 0 ≤ repE o ∧ repE o ≤ 2 := by unfold repE; repeat' split <;> omega

theorem statB_ne {k : Int} (h : 1 ≤ k ∧ k ≤ 5) : statB k ≠ [] := by
  rcases (by omega : k = 1 ∨ k = 2 ∨ k = 3 ∨ k = 4 ∨ k = 5) with rfl | rfl | rfl | rfl | rfl <;> decide

theorem statB_no {k : Int} (h : ¬ (1 ≤ k ∧ k ≤ 5)) : statB k = [] := by
  unfold statB; rw [if_neg (by omega), if_neg (by omega), if_neg (by omega), if_neg (by omega), if_neg (by omega)]

theorem statB_len (k : Int) : (statB k).length ≤ 13 := by
  by_cases h : 1 ≤ k ∧ k ≤ 5
  · rcases (by omega : k = 1 ∨ k = 2 ∨ k = 3 ∨ k = 4 ∨ k = 5) with rfl | rfl | rfl | rfl | rfl <;> decide
  · rw [statB_no h]; decide
/-! Alike -/

def begB (a b : List UInt8) : Bool := a.isPrefixOf b

def endedB (k : Int) : Bool := decide (k = 1 ∨ k = 2)

def alikeB (a b : Oc) : Bool :=
  if endedB a.st && endedB b.st then decide (a.st = b.st) && decide (a.exn = b.exn) && decide (a.out.flatten = b.out.flatten)
  else if endedB a.st then begB b.out.flatten a.out.flatten
  else if endedB b.st then begB a.out.flatten b.out.flatten
  else begB a.out.flatten b.out.flatten || begB b.out.flatten a.out.flatten

theorem begB_iff {a b : List UInt8} : begB a b = true ↔ a <+: b := List.isPrefixOf_iff_prefix

theorem begB_self (a : List UInt8) : begB a a = true := begB_iff.2 (List.prefix_refl a)

theorem begB_take (a b : List UInt8) : begB a b = (decide (a.length ≤ b.length) && decide (a = b.take a.length)) := by
  rw [Bool.eq_iff_iff, begB_iff, Bool.and_eq_true, decide_eq_true_iff, decide_eq_true_iff]
  constructor
  · intro h; exact ⟨h.length_le, (List.prefix_iff_eq_take.1 h)⟩
  · intro h; exact List.prefix_iff_eq_take.2 h.2

theorem alike_self (a : Oc) : alikeB a a = true := by
  unfold alikeB
  cases endedB a.st <;> simp [begB_self]

theorem alike_comm (a b : Oc) : alikeB a b = alikeB b a := by
  unfold alikeB
  cases h1 : endedB a.st <;> cases h2 : endedB b.st <;> simp [Bool.or_comm]
  all_goals
    rw [Bool.eq_iff_iff]; simp; constructor
    · rintro ⟨⟨h, g⟩, i⟩; exact ⟨⟨h.symm, g.symm⟩, i.symm⟩
    · rintro ⟨⟨h, g⟩, i⟩; exact ⟨⟨h.symm, g.symm⟩, i.symm⟩

theorem beg_both {a b c : List UInt8} (h : begB a b = true) (g : begB c b = true) : begB a c = true ∨ begB c a = true := by
  rw [begB_iff] at *
  rw [begB_iff]
  exact List.prefix_or_prefix_of_prefix h g

theorem alike_third {a b c : Oc} (hb : endedB b.st = true) (h1 : alikeB a b = true) (h2 : alikeB c b = true) : alikeB a c = true := by
  unfold alikeB at h1 h2 ⊢
  rw [hb] at h1 h2
  cases ha : endedB a.st <;> cases hc : endedB c.st <;> rw [ha] at h1 <;> rw [hc] at h2 <;> simp at h1 h2 ⊢
  · exact beg_both h1 h2
  · rw [h2.2]; exact h1
  · rw [h1.2]; exact h2
  · exact ⟨⟨h1.1.1.trans h2.1.1.symm, h1.1.2.trans h2.1.2.symm⟩, h1.2.trans h2.2.symm⟩

theorem alike_parts {a b c : Oc} (hs : c.st = a.st) (he : c.exn = a.exn) (ho : c.out.flatten = a.out.flatten) : alikeB a b = alikeB c b := by
  unfold alikeB; rw [hs, he, ho]
end Go.Proofs.YtkjdigojajcgkaaGreatDoor.Pt
