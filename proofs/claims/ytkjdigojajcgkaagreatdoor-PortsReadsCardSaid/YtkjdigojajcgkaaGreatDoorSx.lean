/- The plain answers of layer 3: characters, parts, orders. -/
import Derived.Test.YtkjdigojajcgkaaGreatDoorSs
namespace Go.Proofs.YtkjdigojajcgkaaGreatDoor.St
open Go.RowKit

def rightB (l : List UInt8) : Bool := decide (l.length ≤ 65536)

def subE (l : List UInt8) (i : Int) : Int := if rightB l then (if 0 ≤ i ∧ i < l.length then 0 else 32) else 1

def subV (l : List UInt8) (i : Int) : Int := if subE l i = 0 then ((l.getD i.toNat 0).toNat : Int) else 0

def cutE (l : List UInt8) (i n : Int) : Int := if rightB l then (if 0 ≤ i ∧ 0 ≤ n ∧ i ≤ l.length ∧ n ≤ (l.length : Int) - i then 0 else 32) else 1

def cutB (l : List UInt8) (i n : Int) : List UInt8 := if cutE l i n = 0 then (l.drop i.toNat).take n.toNat else []

def chrE (c : Int) : Int := if 0 ≤ c ∧ c ≤ 255 then 0 else 1

def chrB (c : Int) : List UInt8 := if chrE c = 0 then [UInt8.ofNat c.toNat] else []

theorem subE_bd (l : List UInt8) (i : Int) : 0 ≤ subE l i ∧ subE l i ≤ 32 := by unfold subE; repeat' split <;> omega

theorem cutE_bd (l : List UInt8) (i n : Int) : 0 ≤ cutE l i n ∧ cutE l i n ≤ 32 := by unfold cutE; repeat' split <;> omega

theorem chrE_bd (c : Int) : 0 ≤ chrE c ∧ chrE c ≤ 1 := by unfold chrE; split <;> omega

theorem right_t {l : List UInt8} (h : l.length ≤ 65536) : rightB l = true := decide_eq_true h

theorem right_f {l : List UInt8} (h : ¬ l.length ≤ 65536) : rightB l = false := decide_eq_false h

theorem right_le {l : List UInt8} (h : rightB l = true) : l.length ≤ 65536 := of_decide_eq_true h
/-! Orders -/

theorem cmp_step {a b : List UInt8} {k : Nat} {x : UInt8} (ha : a[k]? = some x) (hb : b[k]? = some x) : Lib.compareBytes (a.drop k) (b.drop k) = Lib.compareBytes (a.drop (k + 1)) (b.drop (k + 1)) := by
  obtain ⟨h1, e1⟩ := List.getElem?_eq_some_iff.1 ha
  obtain ⟨h2, e2⟩ := List.getElem?_eq_some_iff.1 hb
  rw [List.drop_eq_getElem_cons h1, List.drop_eq_getElem_cons h2, e1, e2]
  have : ¬ x < x := UInt8.lt_irrefl x
  simp only [Lib.compareBytes, if_neg this]

theorem cmp_lt {a b : List UInt8} {k : Nat} {x y : UInt8} (ha : a[k]? = some x) (hb : b[k]? = some y) (h : (x.toNat : Int) < y.toNat) : Lib.compareBytes (a.drop k) (b.drop k) = -1 := by
  obtain ⟨h1, e1⟩ := List.getElem?_eq_some_iff.1 ha
  obtain ⟨h2, e2⟩ := List.getElem?_eq_some_iff.1 hb
  rw [List.drop_eq_getElem_cons h1, List.drop_eq_getElem_cons h2, e1, e2]
  have : x < y := by rw [UInt8.lt_iff_toNat_lt]; omega
  simp only [Lib.compareBytes, if_pos this]

theorem cmp_gt {a b : List UInt8} {k : Nat} {x y : UInt8} (ha : a[k]? = some x) (hb : b[k]? = some y) (h : (y.toNat : Int) < x.toNat) : Lib.compareBytes (a.drop k) (b.drop k) = 1 := by
  obtain ⟨h1, e1⟩ := List.getElem?_eq_some_iff.1 ha
  obtain ⟨h2, e2⟩ := List.getElem?_eq_some_iff.1 hb
  rw [List.drop_eq_getElem_cons h1, List.drop_eq_getElem_cons h2, e1, e2]
  have h3 : y < x := by rw [UInt8.lt_iff_toNat_lt]; omega
  have h4 : ¬ x < y := by rw [UInt8.lt_iff_toNat_lt]; omega
  simp only [Lib.compareBytes, if_neg h4, if_pos h3]

theorem cmp_end {a b : List UInt8} {k : Nat} (h : k = a.length ∨ k = b.length) (ha : k ≤ a.length) (hb : k ≤ b.length) : Lib.compareBytes (a.drop k) (b.drop k) = if a.length < b.length then -1 else if b.length < a.length then 1 else 0 := by
  rcases h with h | h
  · rw [h, List.drop_length]
    cases hd : b.drop a.length with
    | nil =>
      have := congrArg List.length hd
      rw [List.length_drop, List.length_nil] at this
      rw [if_neg (by omega), if_neg (by omega)]; rfl
    | cons y r =>
      have := congrArg List.length hd
      rw [List.length_drop, List.length_cons] at this
      rw [if_pos (by omega)]; rfl
  · rw [h, List.drop_length]
    cases hd : a.drop b.length with
    | nil =>
      have := congrArg List.length hd
      rw [List.length_drop, List.length_nil] at this
      rw [if_neg (by omega), if_neg (by omega)]; rfl
    | cons y r =>
      have := congrArg List.length hd
      rw [List.length_drop, List.length_cons] at this
      rw [if_neg (by omega), if_pos (by omega)]; rfl

theorem cmp_self (a : List UInt8) : Lib.compareBytes a a = 0 := by
  induction a with
  | nil => rfl
  | cons x r ih =>
    have : ¬ x < x := UInt8.lt_irrefl x
    simp only [Lib.compareBytes, if_neg this]; exact ih

theorem nbeq {x y : UInt8} (h : ¬ x = y) : ((x.toNat : Int) == (y.toNat : Int)) = false := by
  simp only [beq_eq_false_iff_ne]; intro g; exact h (UInt8.toNat.inj (by omega))

theorem nbd (x : UInt8) : 0 ≤ (x.toNat : Int) ∧ (x.toNat : Int) ≤ 255 := by have := x.toNat_lt; omega

theorem take_snoc {l : List UInt8} {k : Nat} {x : UInt8} (h : l[k]? = some x) : l.take (k + 1) = l.take k ++ [x] := by
  obtain ⟨h1, h2⟩ := List.getElem?_eq_some_iff.1 h
  rw [List.take_succ_eq_append_getElem h1, h2]
end Go.Proofs.YtkjdigojajcgkaaGreatDoor.St
