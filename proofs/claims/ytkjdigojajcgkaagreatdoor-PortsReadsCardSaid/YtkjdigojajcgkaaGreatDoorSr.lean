/- The plain answers of layer 3: a constant read step by step. -/
import Derived.Test.YtkjdigojajcgkaaGreatDoorSs
namespace Go.Proofs.YtkjdigojajcgkaaGreatDoor.St
open Go.RowKit

/-- what is still to be read -/
def rest (l : List UInt8) (k : Nat) (acc : List UInt8) : List UInt8 × Option Nat := rd ((l.drop k).length + 1) (l.drop k) k acc

theorem rest_start (l : List UInt8) : rdAll l = rest l 0 [] := rfl

theorem rest_end {l acc : List UInt8} {k : Nat} (h : l.length ≤ k) : rest l k acc = (acc, none) := by
  unfold rest; rw [List.drop_eq_nil_of_le h]; rfl

theorem drop_at {l : List UInt8} {k : Nat} {c : UInt8} (h : l[k]? = some c) : l.drop k = c :: l.drop (k + 1) := by
  obtain ⟨h1, h2⟩ := List.getElem?_eq_some_iff.1 h
  rw [List.drop_eq_getElem_cons h1, h2]

theorem rest_bad {l acc : List UInt8} {k : Nat} {c : UInt8} (h : l[k]? = some c) (hb : badB c = true) : rest l k acc = (acc, some k) := by
  unfold rest; rw [drop_at h]; unfold rd; rw [if_pos hb]

theorem rest_plain {l acc : List UInt8} {k : Nat} {c : UInt8} (h : l[k]? = some c) (hb : badB c = false) (hc : c ≠ 92) : rest l k acc = rest l (k + 1) (acc ++ [c]) := by
  unfold rest; rw [drop_at h]; conv => lhs; unfold rd
  rw [if_neg (by simp [hb]), if_pos hc]; rfl

theorem rest_no {l acc : List UInt8} {k : Nat} (h : l[k]? = some 92) (he : esc (l.drop (k + 1)) = none) : rest l k acc = (acc, some k) := by
  unfold rest; rw [drop_at h]; unfold rd; rw [if_neg (by decide), if_neg (by decide), he]

theorem rest_esc {l acc t : List UInt8} {k n : Nat} (h : l[k]? = some 92) (he : esc (l.drop (k + 1)) = some (t, n)) : rest l k acc = rest l (k + 1 + n) (acc ++ t) := by
  unfold rest; rw [drop_at h]; conv => lhs; unfold rd
  rw [if_neg (by decide), if_neg (by decide), he]
  simp only
  rw [List.drop_drop]
  have := esc_len he
  exact rd_fuel _ _ _ _ _ (by simp at this ⊢; omega) (by omega)

theorem read_bad {l acc : List UInt8} {k : Nat} (h : rdAll l = (acc, some k)) : readB l = [] ∧ readN l = k ∧ readE l = 30 := by
  unfold readB readN readE; rw [h]; exact ⟨rfl, rfl, rfl⟩

theorem read_long {l acc : List UInt8} (h : rdAll l = (acc, none)) (hl : 65536 < acc.length) : readB l = [] ∧ readN l = 0 ∧ readE l = 2 := by
  unfold readB readN readE; rw [h]; simp [show ¬ acc.length ≤ 65536 by omega]

theorem read_fine {l acc : List UInt8} (h : rdAll l = (acc, none)) (hl : acc.length ≤ 65536) : readB l = acc ∧ readN l = 0 ∧ readE l = 0 := by
  unfold readB readN readE; rw [h]; simp [hl]

theorem bad_of {c : UInt8} (h : (c.toNat : Int) < 32 ∨ 126 < (c.toNat : Int) ∨ (c.toNat : Int) = 34) : badB c = true := decide_eq_true h

theorem bad_not {c : UInt8} (h : ¬ ((c.toNat : Int) < 32 ∨ 126 < (c.toNat : Int) ∨ (c.toNat : Int) = 34)) : badB c = false := decide_eq_false h
end Go.Proofs.YtkjdigojajcgkaaGreatDoor.St
