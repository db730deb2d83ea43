/- Plain laws of layer 1: a number in digits. -/
import Derived.Test.YtkjdigojajcgkaaGreatDoorFx
import Derived.Test.YtkjdigojajcgkaaGreatDoorFs
import Derived.Lib.Replace
import Derived.Lib.ItoaNum
import Derived.Lib.IndexBytes
namespace Go.Proofs.YtkjdigojajcgkaaGreatDoor.Fx
open Go.RowKit

def textB (a : Int) : List UInt8 := if rtB a then (if a < 0 then 126 :: Lib.decDigits a.natAbs else Lib.decDigits a.toNat) else []

def textE (a : Int) : Int := if rtB a then 0 else 1

theorem digit_byte (d : Nat) (h : d < 10) : (UInt8.ofNat (48 + d)).toNat = 48 + d := by
  simp; omega

theorem dec_digits (u : Nat) : ∀ b ∈ Lib.decDigits u, 48 ≤ b.toNat ∧ b.toNat ≤ 57 := by
  rw [Lib.decDigits_eq]
  intro b hb
  rw [List.mem_map] at hb
  obtain ⟨t, _, rfl⟩ := hb
  unfold Lib.dg
  have h : u / 10 ^ (Lib.nDigits u - 1 - t) % 10 < 10 := Nat.mod_lt _ (by omega)
  have := digit_byte _ h
  omega

theorem dec_no45 (u : Nat) : Lib.count (Lib.decDigits u) [45] = 0 := by
  rw [Lib.count_one, List.count_eq_zero]
  intro h
  have := dec_digits u 45 h
  simp at this

theorem replace_neg (d : List UInt8) : Lib.replace (45 :: d) [45] [126] 1 = 126 :: d := by
  unfold Lib.replace
  rw [if_neg (by decide)]
  have hi : Lib.index (45 :: d) [45] = 0 := by
    show (if _ then (0 : Int) else _) = 0
    rw [if_pos (by simp [List.isPrefixOf])]
  have hn : Lib.replaceNum (45 :: d) [45] 1 = 1 := by
    unfold Lib.replaceNum
    rw [Lib.count_one, List.count_cons_self]
    rw [if_neg (by omega)]; rfl
  rw [hn, Lib.replaceK_hit _ _ 0 _ 0 hi]
  rfl

theorem replace_pos (u : Nat) : Lib.replace (Lib.decDigits u) [45] [126] 1 = Lib.decDigits u := by
  unfold Lib.replace
  rw [if_neg (by decide)]
  have hn : Lib.replaceNum (Lib.decDigits u) [45] 1 = 0 := by
    unfold Lib.replaceNum
    rw [dec_no45]; simp
  rw [hn]; rfl

theorem replace_itoa (a : Int) (h : rtB a = true) : Lib.replace (Lib.itoa a) [45] [126] 1 = textB a := by
  unfold Lib.itoa textB
  rw [if_pos h]
  split
  · exact replace_neg _
  · exact replace_pos _

theorem dec_len (u : Nat) (h : u < 10000000000000000000) : (Lib.decDigits u).length ≤ 19 := by
  rw [Lib.decDigits_length]
  by_cases h1 : Lib.nDigits u ≤ 19
  · exact h1
  · exfalso
    by_cases h0 : u = 0
    · subst h0; exact h1 (by rw [Lib.nDigits_small (by omega)]; omega)
    · have h2 := Lib.numDigits_eq u (by omega) (by omega)
      rw [← h2.1] at h1
      have := h2.2
      split at h1
      · next h3 =>
        have h4 : Lib.l10 (Lib.bitLen u) = 19 := by omega
        rw [h4] at h3
        omega
      · omega

theorem text_len (a : Int) : (textB a).length ≤ 20 := by
  unfold textB
  cases h : rtB a
  · simp
  · have h1 := rtB_lo h
    have h2 := rtB_hi h
    simp only [if_true]
    split
    · have := dec_len a.natAbs (by omega); simp; omega
    · have := dec_len a.toNat (by omega); omega

theorem itoa_len (a : Int) (h : rtB a = true) : (Lib.itoa a).length ≤ 20 := by
  have h1 := rtB_lo h
  have h2 := rtB_hi h
  unfold Lib.itoa
  split
  · have := dec_len a.natAbs (by omega); simp; omega
  · have := dec_len a.toNat (by omega); omega
/-! What is written is read as the same number. -/

theorem foldl_dec (d : List UInt8) : ∀ n : Int, d.foldl (fun n b => n * 10 + bdig b) n = n * 10 ^ d.length + numV 10 d := by
  induction d with
  | nil => intro n; simp [numV]
  | cons x r ih =>
    intro n
    unfold numV
    rw [List.foldl_cons, List.foldl_cons, ih, ih (0 * 10 + bdig x)]
    have hp : (10 : Int) ^ (r.length + 1) = 10 ^ r.length * 10 := Int.pow_succ 10 r.length
    rw [List.length_cons, hp]
    generalize (10 : Int) ^ r.length = p
    generalize numV 10 r = q
    rw [Int.add_mul, Int.add_mul, Int.mul_assoc, Int.mul_comm 10 p]; omega

theorem num_dec (u : Nat) : numV 10 (Lib.decDigits u) = u := by
  induction u using Nat.strongRecOn with
  | ind u ih =>
    by_cases h : u < 10
    · rw [Lib.decDigits_one h]
      show 0 * 10 + bdig (UInt8.ofNat (48 + u)) = u
      unfold bdig dig
      rw [digit_byte u h]
      rw [if_pos (by omega)]; omega
    · rw [Lib.decDigits, dif_neg h, num_snoc, ih (u / 10) (by omega)]
      unfold bdig dig
      rw [digit_byte _ (Nat.mod_lt _ (by omega))]
      rw [if_pos (by omega)]; omega

theorem all_dec (u : Nat) : (Lib.decDigits u).all (isD 10) = true := by
  rw [List.all_eq_true]
  intro b hb
  have := dec_digits u b hb
  unfold isD bdig dig
  rw [decide_eq_true_eq, if_pos (by omega)]; omega

theorem dec_ne (u : Nat) : Lib.decDigits u ≠ [] := by
  intro h
  have := congrArg List.length h
  rw [Lib.decDigits_length] at this
  have := Lib.nDigits_pos u
  simp at *; omega

theorem dec_ok (u : Nat) : conOk 10 (Lib.decDigits u) = true := by
  unfold conOk; rw [all_dec]
  cases h : Lib.decDigits u with
  | nil => exact absurd h (dec_ne u)
  | cons => rfl

theorem dec_hex (u : Nat) : conHex (Lib.decDigits u) = false := by
  cases h : conHex (Lib.decDigits u)
  · rfl
  · have := con_hex_no10 h; rw [dec_ok] at this; cases this

theorem dec_head {u : Nat} {x : UInt8} {r : List UInt8} (h : Lib.decDigits u = x :: r) : 48 ≤ x.toNat ∧ x.toNat ≤ 57 := dec_digits u x (by rw [h]; simp)

theorem dec_sign (u : Nat) : conSign (Lib.decDigits u) = false ∧ conRest (Lib.decDigits u) = Lib.decDigits u := by
  cases h : Lib.decDigits u with
  | nil => exact absurd h (dec_ne u)
  | cons x r =>
    exact con_plain r (by intro e; have := dec_head h; rw [e] at this; simp at this)

theorem con_text {a : Int} (h : rtB a = true) : conV (textB a) = a ∧ conE (textB a) = 0 := by
  have h1 := rtB_lo h
  have h2 := rtB_hi h
  unfold textB
  rw [if_pos h]
  split
  next g =>
    have t := con_tilde (Lib.decDigits a.natAbs)
    have s := sgn_t1 (m := (a.natAbs : Int)) (by omega) (by omega)
    unfold conV conE
    rw [t.1, t.2, dec_hex, dec_ok, num_dec, s.1, s.2]
    exact ⟨by simp; omega, rfl⟩
  next g =>
    have t := dec_sign a.toNat
    have s := sgn_f1 (m := (a.toNat : Int)) (by omega) (by omega)
    unfold conV conE
    rw [t.1, t.2, dec_hex, dec_ok, num_dec, s.1, s.2]
    exact ⟨by simp; omega, rfl⟩

theorem lead_behind {d r : List UInt8} (hd : d.all (isD 10) = true) (hr : ∀ x, r[0]? = some x → isD 10 x = false) : lead 10 (d ++ r) = d := by
  cases r with
  | nil => rw [List.append_nil]; exact lead_all hd
  | cons x r =>
    have h := lead_stop (B := 10) (l := d ++ x :: r) (k := d.length) (x := x) (by simp) (by rw [List.take_left]; exact hd) (hr x rfl)
    rw [h, List.take_left]

theorem ws_no {x : UInt8} (h : 33 ≤ x.toNat) : isWs x = false := by
  unfold isWs; rw [decide_eq_false_iff_not]; omega

theorem scan_text {a : Int} {r : List UInt8} (h : rtB a = true) (hr : ∀ x, r[0]? = some x → isD 10 x = false) :
    scanV (32 :: 9 :: (textB a ++ r)) = a ∧ scanN (32 :: 9 :: (textB a ++ r)) = (textB a).length + 2 ∧ scanE (32 :: 9 :: (textB a ++ r)) = 0 := by
  have h1 := rtB_lo h
  have h2 := rtB_hi h
  have w1 : isWs 32 = true := by decide
  have w2 : isWs 9 = true := by decide
  unfold textB
  rw [if_pos h]
  split
  next g =>
    have hl : rest1 (32 :: 9 :: (126 :: Lib.decDigits a.natAbs ++ r)) = 126 :: (Lib.decDigits a.natAbs ++ r) := by
      unfold rest1
      rw [List.dropWhile_cons, if_pos w1, List.dropWhile_cons, if_pos w2, List.cons_append, List.dropWhile_cons, if_neg (by decide)]
    have hs : scSign (rest1 (32 :: 9 :: (126 :: Lib.decDigits a.natAbs ++ r))) = true := by rw [hl]; unfold scSign; rw [starts_cons]; rfl
    have h2' : rest2 (32 :: 9 :: (126 :: Lib.decDigits a.natAbs ++ r)) = Lib.decDigits a.natAbs ++ r := by unfold rest2 scSkip; rw [hs, hl]; rfl
    have hd : scD (32 :: 9 :: (126 :: Lib.decDigits a.natAbs ++ r)) = Lib.decDigits a.natAbs := by unfold scD; rw [h2']; exact lead_behind (all_dec _) hr
    have s := sgn_t1 (m := (a.natAbs : Int)) (by omega) (by omega)
    obtain ⟨e1, e2, e3⟩ := scan_some (l := 32 :: 9 :: (126 :: Lib.decDigits a.natAbs ++ r)) (by rw [hd]; exact dec_ne _)
    rw [e1, e2, e3, hd, hs, h2', num_dec, s.1, s.2]
    refine ⟨by omega, ?_, rfl⟩
    simp; omega
  next g =>
    cases hdec : Lib.decDigits a.toNat with
    | nil => exact absurd hdec (dec_ne _)
    | cons x d =>
      have hx := dec_head hdec
      have hl : rest1 (32 :: 9 :: (x :: d ++ r)) = x :: (d ++ r) := by
        unfold rest1
        rw [List.dropWhile_cons, if_pos w1, List.dropWhile_cons, if_pos w2, List.cons_append, List.dropWhile_cons, if_neg (by rw [ws_no (by omega)]; decide)]
      have st : ∀ c : UInt8, c.toNat < 48 ∨ 57 < c.toNat → starts (x :: (d ++ r)) c = false := by
        intro c hc; rw [starts_cons, beq_eq_false_iff_ne]; intro e; rw [e] at hc; omega
      have hs : scSign (rest1 (32 :: 9 :: (x :: d ++ r))) = false := by rw [hl]; unfold scSign; rw [st 126 (by decide), st 45 (by decide)]; rfl
      have h2' : rest2 (32 :: 9 :: (x :: d ++ r)) = x :: d ++ r := by unfold rest2 scSkip; rw [hs, hl, st 43 (by decide)]; rfl
      have hd : scD (32 :: 9 :: (x :: d ++ r)) = x :: d := by unfold scD; rw [h2']; exact lead_behind (by rw [← hdec]; exact all_dec _) hr
      have s := sgn_f1 (m := (a.toNat : Int)) (by omega) (by omega)
      obtain ⟨e1, e2, e3⟩ := scan_some (l := 32 :: 9 :: (x :: d ++ r)) (by rw [hd]; simp)
      rw [e1, e2, e3, hd, hs, h2', ← hdec, num_dec, s.1, s.2]
      refine ⟨by omega, ?_, rfl⟩
      rw [hdec]; simp; omega
end Go.Proofs.YtkjdigojajcgkaaGreatDoor.Fx
