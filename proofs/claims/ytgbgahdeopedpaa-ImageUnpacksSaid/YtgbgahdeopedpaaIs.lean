/- The plain answers of layer 24: the check sum. No program in sight. -/
import Derived.WalkKit
namespace Go.Proofs.Ytgbgahdeopedpaa.Im
open Go.RowKit

/-- one bit of the sum -/
def st1 (x : Nat) : Nat := if x % 2 = 1 then x / 2 ^^^ 3988292384 else x / 2

def stK : Nat → Nat → Nat
  | 0, x => x
  | n + 1, x => st1 (stK n x)

/-- one byte of the sum, by the table; bit by bit -/
def byT (x c : Nat) : Nat := x / 256 ^^^ stK 8 (x % 256 ^^^ c)

def bitR (r b : Nat) : Nat := if r % 2 ≠ b then r / 2 ^^^ 3988292384 else r / 2

def bitsR (c : Nat) : Nat → Nat → Nat
  | 0, r => r
  | n + 1, r => bitR (bitsR c n r) (c / 2 ^ n % 2)

def crc (l : List UInt8) : Nat := l.foldl (fun x c => byT x c.toNat) 4294967295

def sumL (l : List UInt8) : Nat := 4294967295 - crc l

theorem xor_half (a b : Nat) : (a ^^^ b) / 2 = a / 2 ^^^ b / 2 := by
  have := Nat.shiftRight_xor_distrib (a := a) (b := b) (i := 1)
  rw [Nat.shiftRight_eq_div_pow, Nat.shiftRight_eq_div_pow, Nat.shiftRight_eq_div_pow] at this
  exact this

theorem xor_odd (a b : Nat) : (a ^^^ b) % 2 = (a + b) % 2 := by
  have h := Nat.testBit_xor a b 0
  rw [Nat.testBit_zero, Nat.testBit_zero, Nat.testBit_zero] at h
  rcases Nat.mod_two_eq_zero_or_one a with ha | ha <;> rcases Nat.mod_two_eq_zero_or_one b with hb | hb <;> rcases Nat.mod_two_eq_zero_or_one (a ^^^ b) with hc | hc <;> simp [ha, hb, hc] at h <;> omega

theorem st1_xor (a b : Nat) : st1 (a ^^^ b) = st1 a ^^^ st1 b := by
  unfold st1
  rw [xor_half, xor_odd]
  rcases Nat.mod_two_eq_zero_or_one a with ha | ha <;> rcases Nat.mod_two_eq_zero_or_one b with hb | hb
  · rw [if_neg (by omega), if_neg (by omega), if_neg (by omega)]
  · rw [if_pos (by omega), if_neg (by omega), if_pos hb, Nat.xor_assoc]
  · rw [if_pos (by omega), if_pos ha, if_neg (by omega), Nat.xor_assoc, Nat.xor_assoc, Nat.xor_comm 3988292384]
  · rw [if_neg (by omega), if_pos ha, if_pos hb]
    rw [Nat.xor_assoc, ← Nat.xor_assoc 3988292384, Nat.xor_comm 3988292384, Nat.xor_assoc (b / 2), Nat.xor_self, Nat.xor_zero]

theorem stK_xor (n a b : Nat) : stK n (a ^^^ b) = stK n a ^^^ stK n b := by
  induction n with
  | zero => rfl
  | succ n ih => show st1 (stK n (a ^^^ b)) = st1 (stK n a) ^^^ st1 (stK n b); rw [ih, st1_xor]

theorem st1_even (m : Nat) : st1 (2 * m) = m := by unfold st1; rw [if_neg (by omega)]; omega

theorem stK_high (h : Nat) : stK 8 (256 * h) = h := by
  show st1 (st1 (st1 (st1 (st1 (st1 (st1 (st1 (256 * h)))))))) = h
  rw [show 256 * h = 2 * (128 * h) by omega, st1_even, show 128 * h = 2 * (64 * h) by omega, st1_even, show 64 * h = 2 * (32 * h) by omega, st1_even, show 32 * h = 2 * (16 * h) by omega, st1_even,
    show 16 * h = 2 * (8 * h) by omega, st1_even, show 8 * h = 2 * (4 * h) by omega, st1_even, show 4 * h = 2 * (2 * h) by omega, st1_even, st1_even]

theorem split_xor (x : Nat) : 256 * (x / 256) ^^^ x % 256 = x := by
  apply Nat.eq_of_testBit_eq
  intro i
  rw [Nat.testBit_xor, show (256 : Nat) = 2 ^ 8 from rfl, Nat.testBit_two_pow_mul, Nat.testBit_mod_two_pow, Nat.testBit_div_two_pow]
  by_cases h : i < 8
  · simp [h, show ¬ i ≥ 8 by omega]
  · simp [h, show i ≥ 8 by omega, show i - 8 + 8 = i by omega]

theorem byT_eq (x c : Nat) : byT x c = stK 8 (x ^^^ c) := by
  unfold byT
  have h : stK 8 (256 * (x / 256)) ^^^ stK 8 (x % 256 ^^^ c) = stK 8 (x ^^^ c) := by rw [← stK_xor, ← Nat.xor_assoc, split_xor]
  rw [stK_high] at h; exact h

theorem bits_eq (r c : Nat) : ∀ n, bitsR c n r = stK n (r ^^^ c) ^^^ c / 2 ^ n := by
  intro n
  induction n with
  | zero => show r = r ^^^ c ^^^ c / 1; rw [Nat.div_one, Nat.xor_assoc, Nat.xor_self, Nat.xor_zero]
  | succ n ih =>
    show bitR (bitsR c n r) (c / 2 ^ n % 2) = st1 (stK n (r ^^^ c)) ^^^ c / 2 ^ (n + 1)
    rw [ih]
    have ht : c / 2 ^ (n + 1) = c / 2 ^ n / 2 := by rw [Nat.pow_succ, Nat.div_div_eq_div_mul]
    rw [ht]
    obtain ⟨s, hs⟩ : ∃ s, stK n (r ^^^ c) = s := ⟨_, rfl⟩
    obtain ⟨t, htt⟩ : ∃ t, c / 2 ^ n = t := ⟨_, rfl⟩
    rw [hs, htt]
    unfold bitR st1
    rw [xor_half, xor_odd]
    rcases Nat.mod_two_eq_zero_or_one s with h | h
    · rw [if_neg (by omega), if_neg (by omega)]
    · rw [if_pos (by omega), if_pos h, Nat.xor_assoc, Nat.xor_assoc, Nat.xor_comm (t / 2)]

theorem bits_byte (r c : Nat) (h : c < 256) : bitsR c 8 r = byT r c := by
  rw [bits_eq, byT_eq, show (2 : Nat) ^ 8 = 256 from rfl, Nat.div_eq_of_lt h, Nat.xor_zero]

theorem st1_lt {x : Nat} (h : x < 4294967296) : st1 x < 4294967296 := by
  unfold st1
  split
  · exact Nat.xor_lt_two_pow (n := 32) (by omega) (by decide)
  · omega

theorem stK_lt {x : Nat} (h : x < 4294967296) : ∀ n, stK n x < 4294967296 := by
  intro n
  induction n with
  | zero => exact h
  | succ n ih => exact st1_lt ih

theorem byT_lt {x c : Nat} (h : x < 4294967296) (hc : c < 256) : byT x c < 4294967296 := by
  rw [byT_eq]; exact stK_lt (Nat.xor_lt_two_pow (n := 32) h (by omega)) 8

theorem bitR_lt {x b : Nat} (h : x < 4294967296) : bitR x b < 4294967296 := by
  unfold bitR
  split
  · exact Nat.xor_lt_two_pow (n := 32) (by omega) (by decide)
  · omega

theorem bitsR_lt {r c : Nat} (h : r < 4294967296) : ∀ n, bitsR c n r < 4294967296 := by
  intro n
  induction n with
  | zero => exact h
  | succ n ih => exact bitR_lt ih

theorem crc_snoc (l : List UInt8) (c : UInt8) : crc (l ++ [c]) = byT (crc l) c.toNat := by unfold crc; rw [List.foldl_append]; rfl

theorem fold_lt (l : List UInt8) : ∀ x, x < 4294967296 → l.foldl (fun x c => byT x c.toNat) x < 4294967296 := by
  induction l with
  | nil => intro x h; exact h
  | cons c r ih => intro x h; exact ih _ (byT_lt h c.toNat_lt)

theorem crc_lt (l : List UInt8) : crc l < 4294967296 := fold_lt l _ (by decide)
end Go.Proofs.Ytgbgahdeopedpaa.Im
