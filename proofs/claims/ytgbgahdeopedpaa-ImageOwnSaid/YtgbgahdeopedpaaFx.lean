/- The plain answers of layer 1: sums, differences, products, divisions of numbers of 63 bits, with the number of the error. No program in sight. -/
import Derived.WalkKit
namespace Go.Proofs.Ytgbgahdeopedpaa.Fx
open Go.RowKit

/-- Is it a number? -/
def rtB (n : Int) : Bool := decide (-4611686018427387904 ≤ n ∧ n ≤ 4611686018427387903)

theorem rtB_t {n : Int} (h1 : -4611686018427387904 ≤ n) (h2 : n ≤ 4611686018427387903) : rtB n = true := decide_eq_true ⟨h1, h2⟩

theorem rtB_f {n : Int} (h : n < -4611686018427387904 ∨ 4611686018427387903 < n) : rtB n = false := decide_eq_false (by omega)

theorem rtB_lo {n : Int} (h : rtB n = true) : -4611686018427387904 ≤ n := (of_decide_eq_true h).1

theorem rtB_hi {n : Int} (h : rtB n = true) : n ≤ 4611686018427387903 := (of_decide_eq_true h).2

theorem rtB_no {n : Int} (h : rtB n = false) : n < -4611686018427387904 ∨ 4611686018427387903 < n := by
  have := of_decide_eq_false h; omega

theorem rt_cases (n : Int) : n < -4611686018427387904 ∨ (4611686018427387903 < n ∧ ¬ n ≤ 4611686018427387903) ∨ (-4611686018427387904 ≤ n ∧ n ≤ 4611686018427387903) := by omega

/-- are both numbers? -/
def twoE (a b : Int) : Int := if rtB a && rtB b then 0 else 1

theorem two_cases (a b : Int) : (twoE a b = 0 ∧ rtB a = true ∧ rtB b = true) ∨ (twoE a b = 1 ∧ (rtB a && rtB b) = false) := by
  unfold twoE; cases rtB a <;> cases rtB b <;> simp

/-- an answer, if it is a number -/
def outV (n : Int) : Int := if rtB n then n else 0

def outE (n : Int) : Int := if rtB n then 0 else 10

def subV (a b : Int) : Int := if twoE a b = 0 then outV (a - b) else 0

def subE (a b : Int) : Int := if twoE a b = 0 then outE (a - b) else 1

/-- the errors of a division -/
def askE (a b : Int) : Int := if twoE a b = 0 then (if b = 0 then 11 else 0) else 1

theorem fxask_cases (a b : Int) : (askE a b = 0 ∧ rtB a = true ∧ rtB b = true ∧ b ≠ 0) ∨ (askE a b = 11 ∧ twoE a b = 0 ∧ b = 0) ∨ (askE a b = 1 ∧ twoE a b = 1) := by
  rcases two_cases a b with ⟨h, h1, h2⟩ | ⟨h, h1⟩
  · by_cases hb : b = 0
    · exact .inr (.inl ⟨by unfold askE; rw [if_pos h, if_pos hb], h, hb⟩)
    · exact .inl ⟨by simp [askE, h, hb], h1, h2, hb⟩
  · exact .inr (.inr ⟨by simp [askE, h], h⟩)

/-- the quotient rounded down, and what is left -/
def flrQ (a b : Int) : Int := if a.tmod b ≠ 0 ∧ decide (a.tmod b < 0) ≠ decide (b < 0) then a.tdiv b - 1 else a.tdiv b

def flrR (a b : Int) : Int := if a.tmod b ≠ 0 ∧ decide (a.tmod b < 0) ≠ decide (b < 0) then a.tmod b + b else a.tmod b

def quotV (a b : Int) : Int := if askE a b = 0 then outV (a.tdiv b) else 0

def quotE (a b : Int) : Int := if askE a b = 0 then outE (a.tdiv b) else askE a b

def remV (a b : Int) : Int := if askE a b = 0 then a.tmod b else 0

def divV (a b : Int) : Int := if askE a b = 0 then outV (flrQ a b) else 0

def divE (a b : Int) : Int := if askE a b = 0 then outE (flrQ a b) else askE a b

def modV (a b : Int) : Int := if askE a b = 0 then flrR a b else 0

def mulV (a b : Int) : Int := if twoE a b = 0 then outV (a * b) else 0

def mulE (a b : Int) : Int := if twoE a b = 0 then outE (a * b) else 1

/-- without the sign -/
def amt (n : Int) : Int := if n < 0 then -n else n

theorem amt_neg {n : Int} (h : n < 0) : amt n = -n := if_pos h

theorem amt_pos {n : Int} (h : 0 ≤ n) : amt n = n := if_neg (by omega)

theorem amt_nn (n : Int) : 0 ≤ amt n := by unfold amt; split <;> omega

theorem amt_le {n : Int} (h : rtB n = true) : amt n ≤ 4611686018427387904 := by
  have := rtB_lo h; have := rtB_hi h; unfold amt; split <;> omega

theorem amt_1 {n : Int} (h : n ≠ 0) : 1 ≤ amt n := by unfold amt; split <;> omega

/-- an amount with a sign -/
def sgnV (m : Int) (s : Bool) : Int := outV (if s then -m else m)

def sgnE (m : Int) (s : Bool) : Int := outE (if s then -m else m)

def absV (a : Int) : Int := if a < 0 then subV 0 a else subV a 0

def absE (a : Int) : Int := if a < 0 then subE 0 a else subE a 0

/-- the sum of many -/
def sumS : List Int → Int → Option Int
  | [], s => some s
  | x :: r, s => if rtB (s + x) then sumS r (s + x) else none

def addV (l : List Int) : Int := if l.all rtB then (sumS l 0).getD 0 else 0

def addE (l : List Int) : Int := if l.all rtB then (if (sumS l 0).isSome then 0 else 10) else 1

theorem outV_t {n : Int} (h : rtB n = true) : outV n = n := by simp [outV, h]

theorem outE_t {n : Int} (h : rtB n = true) : outE n = 0 := by simp [outE, h]

theorem outV_f {n : Int} (h : rtB n = false) : outV n = 0 := by simp [outV, h]

theorem outE_f {n : Int} (h : rtB n = false) : outE n = 10 := by simp [outE, h]

theorem sgn_t1 {m : Int} (h0 : 0 ≤ m) (h : m ≤ 4611686018427387904) : sgnV m true = -m ∧ sgnE m true = 0 := by
  have : rtB (-m) = true := rtB_t (by omega) (by omega)
  simp [sgnV, sgnE, outV, outE, this]

theorem sgn_t2 {m : Int} (h : 4611686018427387904 < m) : sgnV m true = 0 ∧ sgnE m true = 10 := by
  have : rtB (-m) = false := rtB_f (by omega)
  simp [sgnV, sgnE, outV, outE, this]

theorem sgn_f1 {m : Int} (h0 : 0 ≤ m) (h : m ≤ 4611686018427387903) : sgnV m false = m ∧ sgnE m false = 0 := by
  have : rtB m = true := rtB_t (by omega) (by omega)
  simp [sgnV, sgnE, outV, outE, this]

theorem sgn_f2 {m : Int} (h : 4611686018427387903 < m) : sgnV m false = 0 ∧ sgnE m false = 10 := by
  have : rtB m = false := rtB_f (by omega)
  simp [sgnV, sgnE, outV, outE, this]

theorem tdiv_amt (a b : Int) : a.tdiv b = if (decide (a < 0) != decide (b < 0)) = true then -(amt a / amt b) else amt a / amt b := by
  by_cases ha : a < 0 <;> by_cases hb : b < 0
  · rw [amt_neg ha, amt_neg hb]; simp [ha, hb]
    rw [← Int.tdiv_eq_ediv_of_nonneg (by omega), Int.neg_tdiv, Int.neg_neg]
  · rw [amt_neg ha, amt_pos (by omega)]; simp [ha, hb]
    rw [← Int.tdiv_eq_ediv_of_nonneg (by omega), Int.neg_tdiv, Int.neg_neg]
  · rw [amt_pos (by omega), amt_neg hb]; simp [ha, hb]
    rw [← Int.tdiv_eq_ediv_of_nonneg (by omega)]
  · rw [amt_pos (by omega), amt_pos (by omega)]; simp [ha, hb]
    rw [Int.tdiv_eq_ediv_of_nonneg (by omega)]

theorem tmod_amt (a b : Int) : a.tmod b = if a < 0 then -(amt a % amt b) else amt a % amt b := by
  by_cases ha : a < 0 <;> by_cases hb : b < 0
  · rw [amt_neg ha, amt_neg hb]; simp [ha]
    rw [← Int.emod_neg (-a) b, ← Int.tmod_eq_emod_of_nonneg (by omega), Int.neg_tmod, Int.tmod_neg, Int.neg_neg]
  · rw [amt_neg ha, amt_pos (by omega)]; simp [ha]
    rw [← Int.tmod_eq_emod_of_nonneg (by omega), Int.neg_tmod, Int.neg_neg]
  · rw [amt_pos (by omega), amt_neg hb]; simp [ha]
    rw [Int.tmod_eq_emod_of_nonneg (by omega)]
  · rw [amt_pos (by omega), amt_pos (by omega)]; simp [ha]
    rw [Int.tmod_eq_emod_of_nonneg (by omega)]

theorem div_amt_bd {a b : Int} (ha : rtB a = true) (hb : b ≠ 0) : 0 ≤ amt a / amt b ∧ amt a / amt b ≤ 4611686018427387904 := by
  have h1 := amt_nn a
  have h2 := amt_le ha
  have h3 := amt_1 hb
  have h4 := Int.ediv_le_self (amt b) h1
  exact ⟨Int.ediv_nonneg h1 (by omega), by omega⟩

theorem mod_amt_bd (a : Int) {b : Int} (hb : b ≠ 0) : 0 ≤ amt a % amt b ∧ amt a % amt b < amt b :=
  ⟨Int.emod_nonneg _ (by have := amt_1 hb; omega), Int.emod_lt_of_pos _ (by have := amt_1 hb; omega)⟩

theorem tdiv_bd {a b : Int} (ha : rtB a = true) (hb : b ≠ 0) : -4611686018427387904 ≤ a.tdiv b ∧ a.tdiv b ≤ 4611686018427387904 := by
  have := div_amt_bd ha hb
  rw [tdiv_amt]; split <;> omega

theorem tmod_bd (a : Int) {b : Int} (hb : b ≠ 0) (hr : rtB b = true) : -4611686018427387904 < a.tmod b ∧ a.tmod b < 4611686018427387904 := by
  have := mod_amt_bd a hb
  have := amt_le hr
  rw [tmod_amt]; split <;> omega

theorem tmod_bd' (a : Int) {b : Int} (hb : b ≠ 0) : - amt b < a.tmod b ∧ a.tmod b < amt b := by
  have := mod_amt_bd a hb
  rw [tmod_amt]; split <;> omega

theorem tmod_sign (a b : Int) : (a.tmod b < 0 → a < 0) ∧ (0 < a.tmod b → 0 ≤ a) := by
  have h : 0 ≤ a → 0 ≤ a.tmod b := fun h => Int.tmod_nonneg b h
  by_cases g : a < 0
  · have : a.tmod b ≤ 0 := by
      have := Int.tmod_nonneg b (a := -a) (by omega)
      rw [Int.neg_tmod] at this; omega
    exact ⟨fun _ => g, fun h => by omega⟩
  · have := h (by omega)
    exact ⟨fun h => by omega, fun _ => by omega⟩

theorem flr_bd {a b : Int} (ha : rtB a = true) (hb : rtB b = true) (h0 : b ≠ 0) : -4611686018427387905 ≤ flrQ a b ∧ flrQ a b ≤ 4611686018427387904 ∧ -4611686018427387904 ≤ flrR a b ∧ flrR a b ≤ 4611686018427387903 := by
  have h1 := tdiv_bd ha h0
  have h2 := tmod_bd a h0 hb
  have h3 := rtB_lo hb
  have h4 := rtB_hi hb
  unfold flrQ flrR
  split
  next h => obtain ⟨h5, h6⟩ := h; by_cases g1 : a.tmod b < 0 <;> by_cases g2 : b < 0 <;> simp [g1, g2] at h6 <;> omega
  next => omega

/-- the same by amounts -/
theorem quot_sgn (a b : Int) : outV (a.tdiv b) = sgnV (amt a / amt b) (decide (a < 0) != decide (b < 0)) ∧ outE (a.tdiv b) = sgnE (amt a / amt b) (decide (a < 0) != decide (b < 0)) := by
  unfold sgnV sgnE; rw [tdiv_amt]; exact ⟨rfl, rfl⟩

theorem rem_sgn {a b : Int} (h0 : b ≠ 0) (hb : rtB b = true) : a.tmod b = sgnV (amt a % amt b) (decide (a < 0)) ∧ 0 = sgnE (amt a % amt b) (decide (a < 0)) := by
  have h1 := mod_amt_bd a h0
  have h2 := amt_le hb
  have h3 : rtB (a.tmod b) = true := rtB_t (by have := tmod_bd a h0 hb; omega) (by have := tmod_bd a h0 hb; omega)
  have e : (if decide (a < 0) = true then -(amt a % amt b) else amt a % amt b) = a.tmod b := by rw [tmod_amt]; by_cases g : a < 0 <;> simp [g]
  unfold sgnV sgnE; rw [e, outV_t h3, outE_t h3]; exact ⟨rfl, rfl⟩

theorem flrR_zero (a b : Int) {h0 : b ≠ 0} : flrR a b = 0 ↔ a.tmod b = 0 := by
  have h := tmod_bd' a h0
  unfold flrR; split
  next h1 => obtain ⟨h5, h6⟩ := h1; by_cases g1 : a.tmod b < 0 <;> by_cases g2 : b < 0 <;> simp [g1, g2] at h6 <;> (simp only [amt, g2, if_true, if_false] at h; omega)
  next => exact Iff.rfl

/-- the reference's way to the quotient rounded down -/
theorem div_up {x y : Int} (hy : 1 ≤ y) (hm : x % y ≠ 0) : (x + y - 1) / y = x / y + 1 := by
  have h1 := Int.emod_nonneg x (by omega : y ≠ 0)
  have h2 := Int.emod_lt_of_pos x (by omega : 0 < y)
  have h3 := Int.mul_ediv_add_emod x y
  have e : x + y - 1 = (x % y - 1) + y * (x / y + 1) := by rw [Int.mul_add, Int.mul_one]; omega
  rw [e, Int.add_mul_ediv_left _ _ (by omega : y ≠ 0), Int.ediv_eq_zero_of_lt (by omega) (by omega)]; omega

theorem flr_up {a b : Int} (h0 : b ≠ 0) (hm : flrR a b ≠ 0) (hs : (decide (a < 0) != decide (b < 0)) = true) : flrQ a b = -((amt a + amt b - 1) / amt b) := by
  have hr : a.tmod b ≠ 0 := fun h => hm ((flrR_zero a b (h0 := h0)).2 h)
  have h1 := tmod_sign a b
  have h2 := mod_amt_bd a h0
  have h3 : amt a % amt b ≠ 0 := by intro h; rw [tmod_amt, h] at hr; simp at hr
  have hc : a.tmod b ≠ 0 ∧ decide (a.tmod b < 0) ≠ decide (b < 0) := by
    refine ⟨hr, ?_⟩
    by_cases g1 : a < 0 <;> by_cases g2 : b < 0 <;> simp [g1, g2] at hs
    · have : a.tmod b < 0 := by omega
      simp [this, g2]
    · have : ¬ a.tmod b < 0 := by omega
      simp [this, g2]
  unfold flrQ
  rw [if_pos hc, div_up (amt_1 h0) h3, tdiv_amt, if_pos hs]; omega

theorem flr_eq {a b : Int} (h0 : b ≠ 0) (hm : flrR a b = 0 ∨ (decide (a < 0) != decide (b < 0)) = false) : flrQ a b = a.tdiv b := by
  have h1 := tmod_sign a b
  unfold flrQ; rw [if_neg]
  rintro ⟨h5, h6⟩
  rcases hm with hm | hs
  · exact h5 ((flrR_zero a b (h0 := h0)).1 hm)
  · apply h6
    by_cases g1 : a < 0 <;> by_cases g2 : b < 0 <;> simp [g1, g2] at hs
    · have : a.tmod b < 0 := by omega
      simp [this, g2]
    · have : ¬ a.tmod b < 0 := by omega
      simp [this, g2]

/-- the reference's rest rounded down -/
theorem flrR_alt {a b : Int} : flrR a b = if a.tmod b = 0 ∨ decide (a.tmod b < 0) = decide (b < 0) then a.tmod b else a.tmod b + b := by
  unfold flrR
  by_cases h : a.tmod b = 0 <;> by_cases g : decide (a.tmod b < 0) = decide (b < 0) <;> simp [h, g]

theorem rem_sgn2 {a b : Int} (hk : askE a b = 0) (hb : rtB b = true) (h0 : b ≠ 0) : sgnV (amt a % amt b) (decide (a < 0)) = remV a b ∧ sgnE (amt a % amt b) (decide (a < 0)) = 0 := by
  have := rem_sgn (a := a) h0 hb
  unfold remV; rw [if_pos hk]; exact ⟨this.1.symm, this.2.symm⟩

theorem quot_sgn2 {a b : Int} (hk : askE a b = 0) : sgnV (amt a / amt b) (decide (a < 0) != decide (b < 0)) = quotV a b ∧ sgnE (amt a / amt b) (decide (a < 0) != decide (b < 0)) = quotE a b := by
  have := quot_sgn a b
  unfold quotV quotE; rw [if_pos hk, if_pos hk]; exact ⟨this.1.symm, this.2.symm⟩

theorem remV_bd {a b : Int} (hk : askE a b = 0) (hb : rtB b = true) (h0 : b ≠ 0) : -4611686018427387904 < remV a b ∧ remV a b < 4611686018427387904 := by
  unfold remV; rw [if_pos hk]; exact tmod_bd a h0 hb

theorem modV_rem {a b : Int} (hk : askE a b = 0) : modV a b = if ((remV a b == 0) || (decide (remV a b < 0) == decide (b < 0))) = true then remV a b else remV a b + b := by
  unfold modV remV; rw [if_pos hk, if_pos hk, flrR_alt]
  by_cases h : a.tmod b = 0 <;> by_cases g : decide (a.tmod b < 0) = decide (b < 0) <;> simp [h, g]

theorem modV_bd {a b : Int} (ha : rtB a = true) (hb : rtB b = true) (h0 : b ≠ 0) (hk : askE a b = 0) : -4611686018427387904 ≤ modV a b ∧ modV a b ≤ 4611686018427387903 := by
  unfold modV; rw [if_pos hk]; exact (flr_bd ha hb h0).2.2

theorem div_sgn1 {a b : Int} (h0 : b ≠ 0) (hk : askE a b = 0) (hm : modV a b ≠ 0) (hs : (decide (a < 0) != decide (b < 0)) = true) : sgnV ((amt a + amt b - 1) / amt b) true = divV a b ∧ sgnE ((amt a + amt b - 1) / amt b) true = divE a b := by
  unfold modV at hm; rw [if_pos hk] at hm
  unfold divV divE sgnV sgnE; rw [if_pos hk, if_pos hk, flr_up h0 hm hs]; exact ⟨rfl, rfl⟩

theorem div_sgn2 {a b : Int} (h0 : b ≠ 0) (hk : askE a b = 0) (hm : modV a b = 0 ∨ (decide (a < 0) != decide (b < 0)) = false) : sgnV (amt a / amt b) (decide (a < 0) != decide (b < 0)) = divV a b ∧ sgnE (amt a / amt b) (decide (a < 0) != decide (b < 0)) = divE a b := by
  unfold modV at hm; rw [if_pos hk] at hm
  have := quot_sgn a b
  unfold divV divE; rw [if_pos hk, if_pos hk, flr_eq h0 hm]; exact ⟨this.1.symm, this.2.symm⟩

theorem up_bd {a b : Int} (ha : rtB a = true) (hb : rtB b = true) (h0 : b ≠ 0) : 0 ≤ (amt a + amt b - 1) / amt b ∧ (amt a + amt b - 1) / amt b ≤ 9223372036854775808 := by
  have h1 := amt_nn a
  have h2 := amt_le ha
  have h3 := amt_1 h0
  have h4 := amt_le hb
  have h5 := Int.ediv_le_self (amt b) (a := amt a + amt b - 1) (by omega)
  exact ⟨Int.ediv_nonneg (by omega) (by omega), by omega⟩

theorem all_snoc (l : List Int) (k : Nat) (h : k < l.length) : (l.take (k + 1)).all rtB = ((l.take k).all rtB && rtB (l.getD k 0)) := by
  rw [List.take_succ_eq_append_getElem h, List.all_append]
  simp [h]

theorem all_no {l : List Int} {k : Nat} (h : k < l.length) (hn : rtB (l.getD k 0) = false) : l.all rtB = false := by
  have h1 := all_snoc l k h
  rw [hn, Bool.and_false] at h1
  rw [← List.take_append_drop (k + 1) l, List.all_append, h1, Bool.false_and]

theorem sum_snoc (l : List Int) (k : Nat) (s : Int) (h : k < l.length) : sumS (l.take (k + 1)) s = (sumS (l.take k) s).bind fun t => if rtB (t + l.getD k 0) then some (t + l.getD k 0) else none := by
  induction l generalizing k s with
  | nil => simp at h
  | cons x r ih =>
    cases k with
    | zero => simp [sumS]
    | succ k =>
      simp only [List.take_succ_cons, sumS, List.getD_cons_succ]
      cases rtB (s + x)
      · simp
      · simp only [if_true]; exact ih k (s + x) (by simpa using h)

theorem sum_none (l : List Int) (k : Nat) (s : Int) (h : sumS (l.take k) s = none) : sumS l s = none := by
  induction l generalizing k s with
  | nil => simp at h; exact h
  | cons x r ih =>
    cases k with
    | zero => simp [sumS] at h
    | succ k =>
      simp only [List.take_succ_cons, sumS] at h ⊢
      cases hr : rtB (s + x)
      · simp
      · rw [hr] at h; simp only [if_true] at h ⊢; exact ih k (s + x) h

theorem all_snoc' {l : List Int} {k : Nat} {x : Int} (h : k < l.length) (hx : l.getD k 0 = x) (ha : (l.take k).all rtB = true) (hr : rtB x = true) : (l.take (k + 1)).all rtB = true := by
  rw [all_snoc l k h, hx, ha, hr]; rfl

theorem sum_snoc' {l : List Int} {k : Nat} {x t : Int} (h : k < l.length) (hx : l.getD k 0 = x) (hs : sumS (l.take k) 0 = some t) (hr : rtB (t + x) = true) : sumS (l.take (k + 1)) 0 = some (t + x) := by
  rw [sum_snoc l k 0 h, hs, hx]; simp [hr]

theorem all_at {l : List Int} {k : Nat} {x : Int} (h : k < l.length) (hx : l.getD k 0 = x) (ha : l.all rtB = true) : rtB x = true := by
  cases hr : rtB x
  · have := all_no h (hx ▸ hr); rw [ha] at this; cases this
  · rfl

theorem add_no {l : List Int} {k : Nat} (h : k < l.length) (hn : rtB (l.getD k 0) = false) : addV l = 0 ∧ addE l = 1 := by
  have := all_no h hn; simp [addV, addE, this]

theorem add_over {l : List Int} {k : Nat} {t : Int} (h : k < l.length) (ha : l.all rtB = true) (hs : sumS (l.take k) 0 = some t) (hn : rtB (t + l.getD k 0) = false) : addV l = 0 ∧ addE l = 10 := by
  have h1 := sum_snoc l k 0 h
  rw [hs] at h1; simp only [Option.bind_some, hn] at h1
  have h2 := sum_none l (k + 1) 0 (by rw [h1]; rfl)
  simp [addV, addE, ha, h2]

theorem add_end {l : List Int} {t : Int} (ha : l.all rtB = true) (hs : sumS l 0 = some t) : addV l = t ∧ addE l = 0 := by
  simp [addV, addE, ha, hs]

theorem sum_rt {l : List Int} {s t : Int} (h0 : rtB s = true) (h : sumS l s = some t) : rtB t = true := by
  induction l generalizing s with
  | nil => simp [sumS] at h; subst h; exact h0
  | cons x r ih =>
    unfold sumS at h
    cases hr : rtB (s + x)
    · simp [hr] at h
    · rw [hr] at h; exact ih hr (by simpa using h)

theorem mul_amt (a b : Int) : a * b = if (decide (a < 0) != decide (b < 0)) = true then -(amt a * amt b) else amt a * amt b := by
  by_cases ha : a < 0 <;> by_cases hb : b < 0
  · rw [amt_neg ha, amt_neg hb]; simp [ha, hb, Int.neg_mul_neg]
  · rw [amt_neg ha, amt_pos (by omega)]; simp [ha, hb, Int.neg_mul]
  · rw [amt_pos (by omega), amt_neg hb]; simp [ha, hb, Int.mul_neg]
  · rw [amt_pos (by omega), amt_pos (by omega)]; simp [ha, hb]

theorem mul_sgn {a b : Int} (ht : twoE a b = 0) : sgnV (amt a * amt b) (decide (a < 0) != decide (b < 0)) = mulV a b ∧ sgnE (amt a * amt b) (decide (a < 0) != decide (b < 0)) = mulE a b := by
  unfold mulV mulE sgnV sgnE; rw [if_pos ht, if_pos ht, ← mul_amt a b]; exact ⟨rfl, rfl⟩

theorem amt_mul_nn (a b : Int) : 0 ≤ amt a * amt b := Int.mul_nonneg (amt_nn a) (amt_nn b)

theorem amt_mul_le {a b : Int} (ha : rtB a = true) (hb : rtB b = true) : amt a * amt b ≤ 21267647932558653966460912964485513216 := by
  have h1 := amt_le ha
  have h2 := amt_le hb
  have h3 := Int.mul_le_mul h1 h2 (amt_nn b) (by omega)
  simpa using h3

/-- the test of the reference: would the product pass 2^62? -/
theorem mul_test {x y : Int} (hy : 1 ≤ y) : 4611686018427387904 / y < x ↔ 4611686018427387904 < x * y :=
  Int.ediv_lt_iff_lt_mul (by omega)

theorem sgn_over {m : Int} (h : 4611686018427387904 < m) (s : Bool) : sgnV m s = 0 ∧ sgnE m s = 10 := by
  cases s
  · exact sgn_f2 (by omega)
  · exact sgn_t2 h

theorem sgn_zero (s : Bool) : sgnV 0 s = 0 ∧ sgnE 0 s = 0 := by cases s <;> exact ⟨rfl, rfl⟩

theorem abs_neg {a : Int} (h : a < 0) : absV a = subV 0 a ∧ absE a = subE 0 a := ⟨if_pos h, if_pos h⟩

theorem abs_pos {a : Int} (h : ¬ a < 0) : absV a = subV a 0 ∧ absE a = subE a 0 := ⟨if_neg h, if_neg h⟩

theorem add_one (a : Int) : addV [a] = subV a 0 ∧ addE [a] = subE a 0 := by
  have h0 : rtB 0 = true := rfl
  cases h : rtB a
  · simp [addV, addE, subV, subE, twoE, h]
  · simp [addV, addE, subV, subE, twoE, sumS, outV, outE, h, h0]

/-- errors are small -/
theorem outE_bd (n : Int) : 0 ≤ outE n ∧ outE n ≤ 12 := by unfold outE; split <;> omega

theorem subE_bd (a b : Int) : 0 ≤ subE a b ∧ subE a b ≤ 12 := by unfold subE; split; exact outE_bd _; omega

theorem askE_bd (a b : Int) : 0 ≤ askE a b ∧ askE a b ≤ 12 := by rcases fxask_cases a b with h | h | h <;> omega

theorem quotE_bd (a b : Int) : 0 ≤ quotE a b ∧ quotE a b ≤ 12 := by unfold quotE; split; exact outE_bd _; exact askE_bd a b

theorem divE_bd (a b : Int) : 0 ≤ divE a b ∧ divE a b ≤ 12 := by unfold divE; split; exact outE_bd _; exact askE_bd a b

theorem mulE_bd (a b : Int) : 0 ≤ mulE a b ∧ mulE a b ≤ 12 := by unfold mulE; split; exact outE_bd _; omega

theorem absE_bd (a : Int) : 0 ≤ absE a ∧ absE a ≤ 12 := by unfold absE; split <;> exact subE_bd _ _

theorem addE_bd (l : List Int) : 0 ≤ addE l ∧ addE l ≤ 12 := by unfold addE; split; split <;> omega; omega
end Go.Proofs.Ytgbgahdeopedpaa.Fx
