/- The plain answers of layer 21: lines and texts. No program in sight. -/
import Derived.WalkKit
import Derived.Lib.Strings
import Derived.Lib.Split
import Derived.Lib.CountLaws
import Derived.Lib.Join
import Derived.Lib.SplitLaws
import Derived.Lib.IndexLaws
import Derived.Lib.Replace
namespace Go.Proofs.YtkjdigojajcgkaaGreatDoor.Pt
open Go.RowKit

/-- a text cut at its line ends: never without a piece -/
def pieces : List UInt8 → List (List UInt8)
  | [] => [[]]
  | c :: r => if c = 10 then [] :: pieces r else match pieces r with | p :: q => (c :: p) :: q | [] => [[c]]

theorem pieces_ne (l : List UInt8) : pieces l ≠ [] := by
  cases l with
  | nil => simp [pieces]
  | cons c r => unfold pieces; split; simp; split <;> simp

theorem pieces_nl (r : List UInt8) : pieces (10 :: r) = [] :: pieces r := by
  conv => lhs; unfold pieces
  rw [if_pos rfl]

theorem pieces_no {c : UInt8} (h : c ≠ 10) {r p : List UInt8} {q : List (List UInt8)} (hr : pieces r = p :: q) : pieces (c :: r) = (c :: p) :: q := by
  conv => lhs; unfold pieces
  rw [if_neg h, hr]

/-- one byte more behind -/
theorem pieces_snoc_nl (l : List UInt8) : pieces (l ++ [10]) = pieces l ++ [[]] := by
  induction l with
  | nil => rfl
  | cons c r ih =>
    by_cases h : c = 10
    · subst h; rw [List.cons_append, pieces_nl, pieces_nl, ih]; rfl
    · obtain ⟨p, q, hp⟩ := List.exists_cons_of_ne_nil (pieces_ne r)
      rw [List.cons_append, pieces_no h (p := p) (q := q ++ [[]]) (by rw [ih, hp]; rfl), pieces_no h hp]; rfl

theorem pieces_snoc {c : UInt8} (h : c ≠ 10) (l : List UInt8) : ∀ {a : List (List UInt8)} {b : List UInt8}, pieces l = a ++ [b] → pieces (l ++ [c]) = a ++ [b ++ [c]] := by
  induction l with
  | nil =>
    intro a b hab
    have : a = [] ∧ b = [] := by
      cases a with
      | nil => simp [pieces] at hab; exact ⟨rfl, hab⟩
      | cons x y => simp [pieces] at hab
    obtain ⟨rfl, rfl⟩ := this
    show pieces [c] = _
    unfold pieces; rw [if_neg h]; rfl
  | cons x r ih =>
    intro a b hab
    by_cases hx : x = 10
    · subst hx
      rw [pieces_nl] at hab
      rw [List.cons_append, pieces_nl]
      cases a with
      | nil =>
        have h1 : pieces r = [] := by simpa using congrArg List.tail hab
        exact absurd h1 (pieces_ne r)
      | cons y a =>
        rw [List.cons_append] at hab
        injection hab with h1 h2
        subst h1
        rw [ih h2]; rfl
    · obtain ⟨p, q, hp⟩ := List.exists_cons_of_ne_nil (pieces_ne r)
      rw [pieces_no hx hp] at hab
      rw [List.cons_append]
      cases a with
      | nil =>
        rw [List.nil_append] at hab
        injection hab with h1 h2
        subst h2
        have := ih (a := []) (b := p) (by rw [hp]; rfl)
        rw [pieces_no hx (p := p ++ [c]) (q := []) this, ← h1]; rfl
      | cons y a =>
        rw [List.cons_append] at hab
        injection hab with h1 h2
        have := ih (a := p :: a) (b := b) (by rw [hp, h2]; rfl)
        rw [pieces_no hx (p := p) (q := a ++ [b ++ [c]]) this, ← h1]; rfl

theorem index_ne (c : UInt8) (l : List UInt8) (h : c ≠ 10) : Lib.index (c :: l) [10] = if Lib.index l [10] == -1 then -1 else Lib.index l [10] + 1 := by
  have hp : ([10] : List UInt8).isPrefixOf (c :: l) = false := by simp [List.isPrefixOf, Ne.symm h]
  rw [Lib.index, hp]; simp

theorem index_eq (l : List UInt8) : Lib.index (10 :: l) [10] = 0 := by rw [Lib.index]; simp [List.isPrefixOf]

/-- what the cut says with 'Split's words -/
theorem pieces_cut (l : List UInt8) : Lib.split l [10] = pieces l := by
  induction l with
  | nil => rfl
  | cons c r ih =>
    unfold Lib.split at ih ⊢
    by_cases h : c = 10
    · subst h
      rw [Lib.count_cons_eq, Nat.add_comm 1, pieces_nl]
      conv => lhs; unfold Lib.splitK
      rw [index_eq, if_neg (by decide)]
      simp only [Int.toNat_zero, Nat.zero_add, Nat.add_zero, List.take_zero, List.length_cons, List.length_nil, List.drop_succ_cons, List.drop_zero]
      rw [ih]
    · rw [Lib.count_cons_ne c 10 r h]
      cases hc : Lib.count r [10] with
      | zero =>
        rw [hc] at ih
        have h1 : pieces r = [r] := ih.symm
        rw [pieces_no h h1]; rfl
      | succ k =>
        rw [hc] at ih
        obtain ⟨i, hi⟩ := Lib.index_of_count (s := r) (old := [10]) (by omega)
        have h2 : Lib.index (c :: r) [10] = ((i + 1 : Nat) : Int) := by
          rw [index_ne c r h, hi, if_neg (by simp)]; omega
        have h3 : Lib.splitK [10] 0 (k + 1) r = r.take i :: Lib.splitK [10] 0 k (r.drop (i + 1)) := by
          conv => lhs; unfold Lib.splitK
          rw [hi, if_neg (by simp)]
          simp
        rw [h3] at ih
        rw [pieces_no h ih.symm]
        conv => lhs; unfold Lib.splitK
        rw [h2, if_neg (by simp; omega)]
        simp

/-- a text's lines -/
def linesL (l : List UInt8) : List (List UInt8) := if (pieces l).getLast? = some [] then (pieces l).dropLast else pieces l

def linesE (l : List UInt8) : Int := if l.length ≤ 1048576 then (if (linesL l).length ≤ 65536 then 0 else 3) else 2

def linesB (l : List UInt8) : List (List UInt8) := if linesE l = 0 then linesL l else []

def hasNl (l : List UInt8) : Bool := l.any (· == 10)

def textLen (ls : List (List UInt8)) : Nat := (ls.map fun l => l.length + 1).sum

def textE (ls : List (List UInt8)) : Int := if ls.any hasNl then 1 else if 65536 < ls.length then 3 else if 1048576 < textLen ls then 2 else 0

def textL (ls : List (List UInt8)) : List UInt8 := ls.flatMap fun l => l ++ [10]

def textB (ls : List (List UInt8)) : List UInt8 := if textE ls = 0 then textL ls else []

/-! Lines -/

theorem snoc_of_ne {α : Type} {l : List α} (h : l ≠ []) : ∃ a b, l = a ++ [b] := ⟨l.dropLast, l.getLast h, (List.dropLast_concat_getLast h).symm⟩

theorem linesL_nl (l : List UInt8) : linesL (l ++ [10]) = pieces l := by
  unfold linesL; rw [pieces_snoc_nl]; simp

theorem pieces_last {l : List UInt8} (h : l ≠ []) (hl : l.getLast? ≠ some 10) : (pieces l).getLast? ≠ some [] := by
  obtain ⟨a, b, rfl⟩ := snoc_of_ne h
  have hb : b ≠ 10 := fun e => hl (by simp [e])
  obtain ⟨x, y, hxy⟩ := snoc_of_ne (pieces_ne a)
  rw [pieces_snoc hb a hxy]; simp

theorem linesL_no {l : List UInt8} (h : l ≠ []) (hl : l.getLast? ≠ some 10) : linesL l = pieces l := by
  unfold linesL; rw [if_neg (pieces_last h hl)]

theorem linesL_nil : linesL [] = [] := rfl

/-- the pieces that are whole, and the last -/
theorem linesL_of {l : List UInt8} {a : List (List UInt8)} {b : List UInt8} (h : pieces l = a ++ [b]) : linesL l = if b = [] then a else a ++ [b] := by
  unfold linesL; rw [h]
  by_cases hb : b = []
  · subst hb; simp
  · rw [if_neg hb, if_neg (by simp [hb])]

theorem pieces_len (l : List UInt8) : (pieces l).length ≤ l.length + 1 := by
  induction l with
  | nil => simp [pieces]
  | cons c r ih =>
    by_cases h : c = 10
    · subst h; rw [pieces_nl]; simp; omega
    · obtain ⟨p, q, hp⟩ := List.exists_cons_of_ne_nil (pieces_ne r)
      rw [pieces_no h hp]; rw [hp] at ih; simp at ih ⊢; omega
/-! Texts -/

theorem textL_nil : textL [] = [] := rfl

theorem textL_snoc (ls : List (List UInt8)) (l : List UInt8) : textL (ls ++ [l]) = textL ls ++ (l ++ [10]) := by unfold textL; rw [List.flatMap_append]; simp

theorem textL_len (ls : List (List UInt8)) : (textL ls).length = textLen ls := by
  induction ls with
  | nil => rfl
  | cons x r ih => unfold textL textLen at *; simp [List.flatMap_cons, ih]; omega

theorem join_text {ls : List (List UInt8)} (h : ls ≠ []) : Lib.join ls [10] ++ [10] = textL ls := by
  cases ls with
  | nil => exact absurd rfl h
  | cons x r =>
    rw [Lib.join_cons]
    unfold Lib.joinTail textL
    clear h
    induction r generalizing x with
    | nil => simp
    | cons y r ih => simp only [List.flatMap_cons] at ih ⊢; rw [← ih y]; simp

theorem join_flat (ls : List (List UInt8)) : Lib.join ls [] = ls.flatten := by
  cases ls with
  | nil => rfl
  | cons x r => rw [Lib.join_cons]; unfold Lib.joinTail; simp

/-- what is cut from what was joined -/
theorem pieces_app {p : List UInt8} (hp : hasNl p = false) (r : List UInt8) : pieces (p ++ 10 :: r) = p :: pieces r := by
  induction p with
  | nil => exact pieces_nl r
  | cons c p ih =>
    unfold hasNl at hp ih
    rw [List.any_cons, Bool.or_eq_false_iff] at hp
    have hc : c ≠ 10 := by have := hp.1; simpa using this
    rw [List.cons_append, pieces_no hc (ih hp.2)]

theorem pieces_text {ls : List (List UInt8)} (h : ls.any hasNl = false) : pieces (textL ls) = ls ++ [[]] := by
  induction ls with
  | nil => rfl
  | cons x r ih =>
    rw [List.any_cons, Bool.or_eq_false_iff] at h
    have e : textL (x :: r) = x ++ 10 :: textL r := by unfold textL; simp [List.flatMap_cons]
    rw [e, pieces_app h.1, ih h.2]; rfl

theorem lines_text {ls : List (List UInt8)} (h : textE ls = 0) : linesB (textB ls) = ls ∧ linesE (textB ls) = 0 := by
  unfold textB; rw [if_pos h]
  unfold textE at h
  split at h
  · cases h
  next h1 =>
  split at h
  · cases h
  next h2 =>
  split at h
  · cases h
  next h3 =>
  have hl : linesL (textL ls) = ls := by rw [linesL_of (pieces_text (by simpa using h1))]; rfl
  have he : linesE (textL ls) = 0 := by
    unfold linesE; rw [if_pos (by rw [textL_len]; omega), hl, if_pos (by omega)]
  refine ⟨?_, he⟩
  unfold linesB; rw [if_pos he, hl]
end Go.Proofs.YtkjdigojajcgkaaGreatDoor.Pt
