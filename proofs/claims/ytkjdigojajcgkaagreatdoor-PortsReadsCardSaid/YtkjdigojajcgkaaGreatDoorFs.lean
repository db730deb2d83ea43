/- Plain laws of layer 1: the number with which a text begins. -/
import Derived.Test.YtkjdigojajcgkaaGreatDoorFc
import Derived.Lib.SlTrimSet
namespace Go.Proofs.YtkjdigojajcgkaaGreatDoor.Fx
open Go.RowKit

def isWs (b : UInt8) : Bool := decide (9 ≤ (b.toNat : Int) ∧ (b.toNat : Int) ≤ 13 ∨ (b.toNat : Int) = 32)

theorem u8_eq (b : UInt8) (n : Nat) (h : n < 256) : b = UInt8.ofNat n ↔ b.toNat = n := by
  constructor
  · intro e; rw [e]; simp; omega
  · intro e; apply UInt8.toNat.inj; rw [e]; simp; omega

theorem ws_set (b : UInt8) : [9, 10, 11, 12, 13, 32].contains b = isWs b := by
  rw [Bool.eq_iff_iff]
  have h9 := u8_eq b 9 (by omega)
  have h10 := u8_eq b 10 (by omega)
  have h11 := u8_eq b 11 (by omega)
  have h12 := u8_eq b 12 (by omega)
  have h13 := u8_eq b 13 (by omega)
  have h32 := u8_eq b 32 (by omega)
  simp only [List.contains_eq_mem, List.mem_cons, List.not_mem_nil, or_false, decide_eq_true_eq, isWs]
  constructor
  · rintro (h | h | h | h | h | h)
    · have := h9.1 h; omega
    · have := h10.1 h; omega
    · have := h11.1 h; omega
    · have := h12.1 h; omega
    · have := h13.1 h; omega
    · have := h32.1 h; omega
  · intro h
    rcases (by omega : b.toNat = 9 ∨ b.toNat = 10 ∨ b.toNat = 11 ∨ b.toNat = 12 ∨ b.toNat = 13 ∨ b.toNat = 32) with e | e | e | e | e | e
    · exact .inl (h9.2 e)
    · exact .inr (.inl (h10.2 e))
    · exact .inr (.inr (.inl (h11.2 e)))
    · exact .inr (.inr (.inr (.inl (h12.2 e))))
    · exact .inr (.inr (.inr (.inr (.inl (h13.2 e)))))
    · exact .inr (.inr (.inr (.inr (.inr (h32.2 e)))))

def rest1 (l : List UInt8) : List UInt8 := l.dropWhile isWs

theorem trim_ws (l : List UInt8) : Lib.trimLeftS l [9, 10, 11, 12, 13, 32] = rest1 l := by
  unfold Lib.trimLeftS rest1
  congr 1; funext b; exact ws_set b

def starts (r : List UInt8) (c : UInt8) : Bool := Lib.hasPrefix r [c]

def scSign (r : List UInt8) : Bool := starts r 126 || starts r 45

def scSkip (r : List UInt8) : Bool := scSign r || starts r 43

def rest2 (l : List UInt8) : List UInt8 := if scSkip (rest1 l) then (rest1 l).drop 1 else rest1 l

def scD (l : List UInt8) : List UInt8 := lead 10 (rest2 l)

def scanV (l : List UInt8) : Int := if (scD l).isEmpty then 0 else sgnV (numV 10 (scD l)) (scSign (rest1 l))

def scanE (l : List UInt8) : Int := if (scD l).isEmpty then 12 else sgnE (numV 10 (scD l)) (scSign (rest1 l))

def scanN (l : List UInt8) : Int := if (scD l).isEmpty then 0 else (l.length : Int) - (rest2 l).length + (scD l).length

theorem starts_nil (c : UInt8) : starts [] c = false := rfl

theorem starts_cons (x : UInt8) (r : List UInt8) (c : UInt8) : starts (x :: r) c = (c == x) := by
  show ((c == x) && _) = _; simp

theorem rest1_le (l : List UInt8) : (rest1 l).length ≤ l.length := by
  unfold rest1; induction l with
  | nil => simp
  | cons x r ih => rw [List.dropWhile_cons]; split <;> simp; omega

theorem rest2_le (l : List UInt8) : (rest2 l).length ≤ l.length := by
  have := rest1_le l
  unfold rest2; split <;> simp; omega; exact this

theorem starts_len {r : List UInt8} {c : UInt8} (h : starts r c = true) : 1 ≤ r.length := by
  cases r
  · cases h
  · simp

theorem scanE_bd (l : List UInt8) : 0 ≤ scanE l ∧ scanE l ≤ 12 := by
  unfold scanE sgnE; split; omega; exact outE_bd _

theorem scan_none {l : List UInt8} (h : scD l = []) : scanV l = 0 ∧ scanN l = 0 ∧ scanE l = 12 := by
  unfold scanV scanN scanE; rw [h]; exact ⟨rfl, rfl, rfl⟩

theorem scan_some {l : List UInt8} (h : scD l ≠ []) : scanV l = sgnV (numV 10 (scD l)) (scSign (rest1 l)) ∧ scanN l = (l.length : Int) - (rest2 l).length + (scD l).length ∧ scanE l = sgnE (numV 10 (scD l)) (scSign (rest1 l)) := by
  have : (scD l).isEmpty = false := by cases hd : scD l with | nil => exact absurd hd h | cons => rfl
  unfold scanV scanN scanE; rw [this]; exact ⟨rfl, rfl, rfl⟩

/-- the first loop of the reference: how many blanks -/
theorem rest1_at {l : List UInt8} {k : Nat} (h : (l.take k).all isWs = true) (hn : ∀ x, l[k]? = some x → isWs x = false) : rest1 l = l.drop k := by
  unfold rest1
  induction l generalizing k with
  | nil => simp
  | cons y r ih =>
    cases k with
    | zero => have := hn y rfl; simp [this]
    | succ k =>
      simp only [List.take_succ_cons, List.all_cons, Bool.and_eq_true] at h
      rw [List.dropWhile_cons, if_pos h.1, List.drop_succ_cons]
      exact ih h.2 (fun x hx => hn x (by simpa using hx))

theorem ws_next {l : List UInt8} {k : Nat} {x : UInt8} (hk : l[k]? = some x) (h : (l.take k).all isWs = true) (hx : isWs x = true) : (l.take (k + 1)).all isWs = true := by
  rw [take_next hk, List.all_append, h]; simp [hx]

theorem isD10 (b : UInt8) : isD 10 b = decide (48 ≤ (b.toNat : Int) ∧ (b.toNat : Int) ≤ 57) := by
  unfold isD bdig dig
  rw [Bool.eq_iff_iff, decide_eq_true_eq, decide_eq_true_eq]
  repeat' split
  all_goals omega

theorem drop_at {l : List UInt8} {j c : Nat} {x : UInt8} (h : l[j + c]? = some x) : (l.drop j)[c]? = some x := by rw [List.getElem?_drop]; exact h

theorem rest_at {l : List UInt8} {k : Nat} {x : UInt8} (hx : l[k]? = some x) (h : rest1 l = l.drop k) : scSign (rest1 l) = ((126 == x) || (45 == x)) ∧ rest2 l = if ((126 == x) || (45 == x) || (43 == x)) = true then l.drop (k + 1) else l.drop k := by
  obtain ⟨hlt, he⟩ := List.getElem?_eq_some_iff.1 hx
  have hc : l.drop k = x :: l.drop (k + 1) := by rw [List.drop_eq_getElem_cons hlt, he]
  have hs : scSign (rest1 l) = ((126 == x) || (45 == x)) := by unfold scSign; rw [h, hc, starts_cons, starts_cons]
  refine ⟨hs, ?_⟩
  unfold rest2 scSkip
  rw [hs, h, hc, starts_cons]
  rfl

theorem rest_end {l : List UInt8} (h : rest1 l = []) : scanV l = 0 ∧ scanN l = 0 ∧ scanE l = 12 := by
  apply scan_none
  unfold scD rest2
  rw [h]; rfl

theorem u8_beq (x : UInt8) (n : Nat) (h : n < 256) (e : (x.toNat : Int) = n) : (UInt8.ofNat n == x) = true := by
  rw [beq_iff_eq]; exact ((u8_eq x n h).2 (by omega)).symm

theorem u8_bne (x : UInt8) (n : Nat) (h : n < 256) (e : (x.toNat : Int) ≠ n) : (UInt8.ofNat n == x) = false := by
  rw [beq_eq_false_iff_ne]; intro g; exact e (by have := (u8_eq x n h).1 g.symm; omega)

/-- the digits behind: c of them, and then none -/
theorem scD_at {l : List UInt8} {j c : Nat} (h2 : rest2 l = l.drop j) (ha : ((l.drop j).take c).all (isD 10) = true) (hn : ∀ x, (l.drop j)[c]? = some x → isD 10 x = false) : scD l = (l.drop j).take c := by
  unfold scD; rw [h2]
  cases hx : (l.drop j)[c]? with
  | none =>
    rw [List.getElem?_eq_none_iff] at hx
    rw [List.take_of_length_le hx] at ha ⊢
    exact lead_all ha
  | some x => exact lead_stop hx ha (hn x hx)

theorem scan_len {l : List UInt8} {j c : Nat} (h2 : rest2 l = l.drop j) (hd : scD l = (l.drop j).take c) (hj : j + c ≤ l.length) (hc : 0 < c) : scD l ≠ [] ∧ (l.length : Int) - (rest2 l).length + (scD l).length = (j : Int) + c := by
  have h3 : (scD l).length = c := by rw [hd, List.length_take, List.length_drop]; omega
  constructor
  · intro h; rw [h] at h3; simp at h3; omega
  · rw [h3, h2, List.length_drop]; omega
end Go.Proofs.YtkjdigojajcgkaaGreatDoor.Fx
