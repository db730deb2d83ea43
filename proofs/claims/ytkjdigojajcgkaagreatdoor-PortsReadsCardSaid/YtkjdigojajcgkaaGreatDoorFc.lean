/- Plain laws of layer 1: digits and constants. -/
import Derived.Test.YtkjdigojajcgkaaGreatDoorFx
import Derived.Lib.Strings
namespace Go.Proofs.YtkjdigojajcgkaaGreatDoor.Fx
open Go.RowKit

/-- a digit's value; 16: it is none -/
def dig (c : Int) : Int := if 48 ≤ c ∧ c ≤ 57 then c - 48 else if 97 ≤ c ∧ c ≤ 102 then c - 87 else if 65 ≤ c ∧ c ≤ 70 then c - 55 else 16

theorem dig_bd (c : Int) : 0 ≤ dig c ∧ dig c ≤ 16 := by unfold dig; repeat' split <;> omega

theorem dig_high {c : Int} (h : 128 ≤ c) : dig c = 16 := by unfold dig; repeat' split <;> omega

def bdig (b : UInt8) : Int := dig (b.toNat : Int)

def isD (B : Int) (b : UInt8) : Bool := decide (bdig b < B)

/-- the digits at the beginning -/
def lead (B : Int) (l : List UInt8) : List UInt8 := l.takeWhile (isD B)

/-- the number of digits of a base -/
def numV (B : Int) (l : List UInt8) : Int := l.foldl (fun n b => n * B + bdig b) 0

/-- the same, at most 2^62 and one -/
def satN (n : Int) : Int := if 4611686018427387904 < n then 4611686018427387905 else n

/-- the reference's: a little more than 2^62 -/
def rnumN (B : Int) : List UInt8 → Int → Int
  | [], n => n
  | b :: r, n => if 4611686018427387904 / B < n then 4611686018427387905 else rnumN B r (n * B + bdig b)

theorem lead_all {B : Int} {l : List UInt8} (h : l.all (isD B) = true) : lead B l = l := by
  unfold lead
  induction l with
  | nil => rfl
  | cons x r ih =>
    simp only [List.all_cons, Bool.and_eq_true] at h
    rw [List.takeWhile_cons, if_pos h.1, ih h.2]

theorem lead_stop {B : Int} {l : List UInt8} {k : Nat} {x : UInt8} (hk : l[k]? = some x) (h : (l.take k).all (isD B) = true) (hx : isD B x = false) : lead B l = l.take k := by
  unfold lead
  induction l generalizing k with
  | nil => simp at hk
  | cons y r ih =>
    cases k with
    | zero => simp at hk; subst hk; simp [hx]
    | succ k =>
      simp only [List.take_succ_cons, List.all_cons, Bool.and_eq_true] at h
      rw [List.takeWhile_cons, if_pos h.1, ih (by simpa using hk) h.2, List.take_succ_cons]

theorem take_next {l : List UInt8} {k : Nat} {x : UInt8} (hk : l[k]? = some x) : l.take (k + 1) = l.take k ++ [x] := by
  rw [List.take_add_one, hk]; rfl

theorem num_snoc (B : Int) (l : List UInt8) (x : UInt8) : numV B (l ++ [x]) = numV B l * B + bdig x := by
  unfold numV; rw [List.foldl_append]; rfl

theorem bdig_nn (x : UInt8) : 0 ≤ bdig x ∧ bdig x ≤ 16 := dig_bd _

theorem foldl_nn {B : Int} (hB : 0 ≤ B) (l : List UInt8) : ∀ n : Int, 0 ≤ n → 0 ≤ l.foldl (fun n b => n * B + bdig b) n := by
  induction l with
  | nil => intro n h; exact h
  | cons x r ih => intro n h; exact ih (n * B + bdig x) (by have := bdig_nn x; have := Int.mul_nonneg h hB; omega)

theorem num_nn {B : Int} (hB : 0 ≤ B) (l : List UInt8) : 0 ≤ numV B l := foldl_nn hB l 0 (by omega)

theorem sat_bd {n : Int} (h : 0 ≤ n) : 0 ≤ satN n ∧ satN n ≤ 4611686018427387905 := by unfold satN; split <;> omega

theorem sgn_sat {n : Int} (s : Bool) : sgnV (satN n) s = sgnV n s ∧ sgnE (satN n) s = sgnE n s := by
  unfold satN; split
  next h =>
    have h1 := sgn_over (m := 4611686018427387905) (by omega) s
    have h2 := sgn_over h s
    rw [h1.1, h1.2, h2.1, h2.2]; exact ⟨rfl, rfl⟩
  next => exact ⟨rfl, rfl⟩

/-- one digit more -/
theorem sat_over {B n d : Int} (hB : B = 10 ∨ B = 16) (hd : 0 ≤ d) (h : 4611686018427387904 / B < satN n) : satN (n * B + d) = 4611686018427387905 := by
  unfold satN at h ⊢
  rcases hB with rfl | rfl <;> (split at h <;> rw [if_pos (by omega)])

theorem sat_step {B n d : Int} (hB : B = 10 ∨ B = 16) (hn : 0 ≤ n) (h : ¬ 4611686018427387904 / B < satN n) : satN n = n ∧ n * B ≤ 4611686018427387904 ∧ 0 ≤ n * B ∧ satN (n * B + d) = if n * B + d ≤ 4611686018427387904 then n * B + d else 4611686018427387905 := by
  have h1 : satN n = n := by
    unfold satN at h ⊢
    split
    next h2 => rw [if_pos h2] at h; rcases hB with rfl | rfl <;> omega
    next => rfl
  rw [h1] at h
  refine ⟨h1, by rcases hB with rfl | rfl <;> omega, by rcases hB with rfl | rfl <;> omega, ?_⟩
  unfold satN
  split <;> split <;> omega

/-- the reference's number, when all are digits -/
theorem rnum_sgn {B : Int} (hB : B = 10 ∨ B = 16) (l : List UInt8) : ∀ n : Int, 0 ≤ n → ∀ s, sgnV (rnumN B l n) s = sgnV (l.foldl (fun n b => n * B + bdig b) n) s ∧ sgnE (rnumN B l n) s = sgnE (l.foldl (fun n b => n * B + bdig b) n) s := by
  have grow : ∀ (l : List UInt8) (n : Int), 4611686018427387904 < n → 4611686018427387904 < l.foldl (fun n b => n * B + bdig b) n := by
    intro l
    induction l with
    | nil => intro n h; exact h
    | cons x r ih => intro n h; exact ih (n * B + bdig x) (by have := bdig_nn x; rcases hB with rfl | rfl <;> omega)
  induction l with
  | nil => intro n _ s; exact ⟨rfl, rfl⟩
  | cons x r ih =>
    intro n hn s
    have hx := bdig_nn x
    unfold rnumN
    split
    next h =>
      have h1 := sgn_over (m := 4611686018427387905) (by omega) s
      have h2 := sgn_over (grow r (n * B + bdig x) (by rcases hB with rfl | rfl <;> omega)) s
      rw [h1.1, h1.2, List.foldl_cons, h2.1, h2.2]; exact ⟨rfl, rfl⟩
    next h => exact ih _ (by rcases hB with rfl | rfl <;> omega) s

theorem rnum_bd {B : Int} (hB : B = 10 ∨ B = 16) (l : List UInt8) : ∀ n : Int, 0 ≤ n → n ≤ 4611686018427387920 → 0 ≤ rnumN B l n ∧ rnumN B l n ≤ 4611686018427387920 := by
  induction l with
  | nil => intro n h h'; exact ⟨h, h'⟩
  | cons x r ih =>
    intro n hn _
    have hx := bdig_nn x
    unfold rnumN
    split
    · omega
    next h => exact ih _ (by rcases hB with rfl | rfl <;> omega) (by rcases hB with rfl | rfl <;> omega)

theorem isD_lt {B : Int} {b : UInt8} (h : isD B b = true) : bdig b < B := of_decide_eq_true h

theorem isD_ge {B : Int} {b : UInt8} (h : isD B b = false) : B ≤ bdig b := by have := of_decide_eq_false h; omega

theorem all_next {B : Int} {l : List UInt8} {k : Nat} {x : UInt8} (hk : l[k]? = some x) (h : (l.take k).all (isD B) = true) (hx : isD B x = true) : (l.take (k + 1)).all (isD B) = true := by
  rw [take_next hk, List.all_append, h]; simp [hx]

theorem num_next {B : Int} {l : List UInt8} {k : Nat} {x : UInt8} (hk : l[k]? = some x) : numV B (l.take (k + 1)) = numV B (l.take k) * B + bdig x := by
  rw [take_next hk, num_snoc]

theorem stepA {B N : Int} {l : List UInt8} {k : Nat} {x : UInt8} (hB : B = 10 ∨ B = 16) (hk : l[k]? = some x) (hN : satN (numV B (l.take k)) = N) (h : 4611686018427387904 / B < N) : satN (numV B (l.take (k + 1))) = 4611686018427387905 := by
  rw [num_next hk, sat_over hB (bdig_nn x).1 (by rw [hN]; exact h)]

theorem stepB {B N : Int} {l : List UInt8} {k : Nat} {x : UInt8} (hB : B = 10 ∨ B = 16) (hk : l[k]? = some x) (hN : satN (numV B (l.take k)) = N) (h : N ≤ 4611686018427387904 / B) : satN (numV B (l.take (k + 1))) = if N * B + bdig x ≤ 4611686018427387904 then N * B + bdig x else 4611686018427387905 := by
  have h1 := sat_step (d := bdig x) hB (num_nn (B := B) (by rcases hB with rfl | rfl <;> omega) (l.take k)) (by rw [hN]; omega)
  rw [num_next hk, h1.2.2.2]
  rw [h1.1] at hN
  rw [hN]

theorem lead_le (B : Int) (l : List UInt8) : (lead B l).length ≤ l.length := by
  unfold lead
  induction l with
  | nil => simp
  | cons x r ih => rw [List.takeWhile_cons]; split <;> simp; exact ih

theorem lead_lt {B : Int} {l : List UInt8} (h : l.all (isD B) = false) : (lead B l).length < l.length := by
  unfold lead
  induction l with
  | nil => simp at h
  | cons x r ih =>
    rw [List.takeWhile_cons]
    cases hx : isD B x
    · simp
    · rw [List.all_cons, hx, Bool.true_and] at h; simpa using ih h

/-- a constant: with its sign, its base and its digits -/
def conSign (l : List UInt8) : Bool := Lib.hasPrefix l [126]

def conRest (l : List UInt8) : List UInt8 := Lib.trimPrefix l [126]

def conHex (r : List UInt8) : Bool := Lib.hasPrefix r [48, 120]

def conOk (B : Int) (d : List UInt8) : Bool := !d.isEmpty && d.all (isD B)

def conV (l : List UInt8) : Int :=
  if conHex (conRest l) then (if conOk 16 ((conRest l).drop 2) then sgnV (numV 16 ((conRest l).drop 2)) (conSign l) else 0)
  else (if conOk 10 (conRest l) then sgnV (numV 10 (conRest l)) (conSign l) else 0)

def conE (l : List UInt8) : Int :=
  if conHex (conRest l) then (if conOk 16 ((conRest l).drop 2) then sgnE (numV 16 ((conRest l).drop 2)) (conSign l) else 12)
  else (if conOk 10 (conRest l) then sgnE (numV 10 (conRest l)) (conSign l) else 12)

theorem con_ok {B : Int} {d : List UInt8} (h : conOk B d = true) : d ≠ [] ∧ d.all (isD B) = true := by
  unfold conOk at h; cases d <;> simp at h ⊢; exact h

theorem con_no {B : Int} {d : List UInt8} (h : conOk B d = false) : d = [] ∨ d.all (isD B) = false := by
  unfold conOk at h
  cases d with
  | nil => exact .inl rfl
  | cons x r => right; simpa using h

theorem conE_bd (l : List UInt8) : 0 ≤ conE l ∧ conE l ≤ 12 := by
  unfold conE sgnE; repeat' split
  all_goals first | exact outE_bd _ | omega

/-- what the digits of a text come to: a count and a number -/
theorem dig_ok {B : Int} {d : List UInt8} (h : conOk B d = true) : lead B d = d ∧ ((d.length : Int) == 0) = false := by
  have := con_ok h
  refine ⟨lead_all this.2, ?_⟩
  have h1 := List.length_pos_iff.2 this.1
  simp; exact this.1

theorem dig_no {B : Int} {d : List UInt8} (h : conOk B d = false) : (((lead B d).length : Int) == 0) = true ∨ ((lead B d).length < d.length ∧ (((lead B d).length : Int) == 0) = false) := by
  rcases con_no h with rfl | h
  · exact .inl rfl
  · have := lead_lt h
    by_cases g : (lead B d).length = 0
    · left; simp [g]
    · right; refine ⟨this, ?_⟩; simp; intro h; exact g (by rw [h]; rfl)

/-- the reference's digit: -1: it is none -/
def wth (b : UInt8) : Int := if bdig b = 16 then -1 else bdig b

def wthI (c : Int) : Int := if 48 ≤ c ∧ c ≤ 57 then c - 48 else if 97 ≤ c ∧ c ≤ 102 then c - 87 else if 65 ≤ c ∧ c ≤ 70 then c - 55 else -1

theorem wth_int (b : UInt8) : wth b = wthI (b.toNat : Int) := by
  unfold wth bdig wthI dig
  generalize (b.toNat : Int) = c
  split <;> (repeat' split) <;> first | omega | (split at * <;> omega) | skip

theorem wth_bd (b : UInt8) : -1 ≤ wth b ∧ wth b ≤ 15 := by have := bdig_nn b; unfold wth; split <;> omega

theorem wth_yes {B : Int} {b : UInt8} (hB : B = 10 ∨ B = 16) (h : isD B b = true) : wth b = bdig b ∧ 0 ≤ wth b ∧ wth b < B := by
  have h1 := isD_lt h
  have h2 := bdig_nn b
  have h3 : bdig b ≠ 16 := by rcases hB with rfl | rfl <;> omega
  unfold wth; rw [if_neg h3]; omega

theorem wth_no {B : Int} {b : UInt8} (_hB : B = 10 ∨ B = 16) (h : isD B b = false) : wth b < 0 ∨ (0 ≤ wth b ∧ B ≤ wth b) := by
  have h1 := isD_ge h
  have h2 := bdig_nn b
  unfold wth; split
  · left; omega
  · right; omega

theorem all_stop {B : Int} {l : List UInt8} {k : Nat} {x : UInt8} (hk : l[k]? = some x) (hx : isD B x = false) : l.all (isD B) = false := by
  rw [List.all_eq_false]
  exact ⟨x, List.mem_of_getElem? hk, by simp [hx]⟩

/-- the reference's number, step by step -/
theorem rnum_over {B : Int} (l : List UInt8) (k : Nat) {x : UInt8} {n m : Int} (hk : l[k]? = some x) (h : rnumN B l m = rnumN B (l.drop k) n) (ho : 4611686018427387904 / B < n) : rnumN B l m = 4611686018427387905 := by
  rw [h]
  have hlt : k < l.length := (List.getElem?_eq_some_iff.1 hk).1
  rw [List.drop_eq_getElem_cons hlt]
  unfold rnumN; rw [if_pos ho]

theorem rnum_step {B : Int} (l : List UInt8) (k : Nat) {x : UInt8} {n m : Int} (hk : l[k]? = some x) (h : rnumN B l m = rnumN B (l.drop k) n) (ho : ¬ 4611686018427387904 / B < n) : rnumN B l m = rnumN B (l.drop (k + 1)) (n * B + bdig x) := by
  rw [h]
  obtain ⟨hlt, hx⟩ := List.getElem?_eq_some_iff.1 hk
  rw [List.drop_eq_getElem_cons hlt, hx]
  conv => lhs; unfold rnumN
  rw [if_neg ho]

theorem con_tilde (r : List UInt8) : conSign (126 :: r) = true ∧ conRest (126 :: r) = r := by
  have h : Lib.hasPrefix (126 :: r) [126] = true := by simp [Lib.hasPrefix]
  exact ⟨h, by unfold conRest Lib.trimPrefix; rw [if_pos h]; rfl⟩

theorem con_plain {x : UInt8} (r : List UInt8) (hx : x ≠ 126) : conSign (x :: r) = false ∧ conRest (x :: r) = x :: r := by
  have h : Lib.hasPrefix (x :: r) [126] = false := by show ((126 == x) && _) = false; simp [Ne.symm hx]
  exact ⟨h, by unfold conRest Lib.trimPrefix; rw [h]; rfl⟩

theorem con_hex_iff (r : List UInt8) : conHex r = true ↔ r.take 2 = [48, 120] := by
  unfold conHex Lib.hasPrefix
  rw [List.isPrefixOf_iff_prefix, List.prefix_iff_eq_take]
  exact eq_comm

theorem con_hex_len {r : List UInt8} (h : conHex r = true) : 2 ≤ r.length := by
  have := congrArg List.length ((con_hex_iff r).1 h)
  simp at this; omega

theorem con_hex_no10 {r : List UInt8} (h : conHex r = true) : conOk 10 r = false := by
  have h1 := (con_hex_iff r).1 h
  match r, h1 with
  | a :: b :: t, h1 =>
    simp at h1
    obtain ⟨rfl, rfl⟩ := h1
    rfl

theorem con_ok_len {B : Int} {r : List UInt8} (h : conOk B (r.drop 2) = true) : 2 < r.length := by
  have h1 := (con_ok h).1
  have := List.length_pos_iff.2 h1
  simp at this; omega
end Go.Proofs.YtkjdigojajcgkaaGreatDoor.Fx
