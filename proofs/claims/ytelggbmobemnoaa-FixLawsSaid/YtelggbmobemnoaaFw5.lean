/- Walks of layer 1: products. -/
import Derived.Test.YtelggbmobemnoaaFw3
import Derived.Test.YtelggbmobemnoaaShelf
namespace Go.Proofs.Ytelggbmobemnoaa
open Go.RowKit
open Fx
set_option linter.unusedVariables false

set_option maxHeartbeats 400000 in
theorem amount_any (n : Int) (w : World) (hn : rtB n = true) :
    Calls Try.prog 41 #[.int .i64 n] w fun e w' => e = .returned (.int .u64 (amt n)) ∧ w = w' := by
  have h1 := rtB_lo hn
  have h2 := rtB_hi hn
  by_cases g : n < 0
  · have ha : Hid (amt n = -n) := amt_neg g
    have hw : Hid (IntKind.u64.wrap (-IntKind.u64.wrap n) = -n) := by show _ = _; rw [IntKind.wrap_u64, IntKind.wrap_u64]; omega
    go_enter Try.func41, Try.ntmps41
    go_wp2
    go_ret
    exact ⟨ret_int (by rw [ha.out, hw.out]), rfl⟩
  · have ha : Hid (amt n = n) := amt_pos (by omega)
    go_enter Try.func41, Try.ntmps41
    go_wp2
    go_ret
    exact ⟨ret_int ha.out.symm, rfl⟩

/-- What the double product of the two amounts comes to. -/
def Mul64Is (a b hi lo : Int) : Prop :=
  ∀ W : World, Calls Try.prog 40 #[.int .u64 (amt a), .int .u64 (amt b)] W fun e w' => e = .returned (.tuple #[.int .u64 hi, .int .u64 lo]) ∧ W = w'

theorem mul64_is {a b : Int} (ha : rtB a = true) (hb : rtB b = true) : ∃ hi lo : Int, Mul64Is a b hi lo ∧ 0 ≤ hi ∧ hi ≤ 4611686018427387904 ∧ 0 ≤ lo ∧ lo ≤ 18446744073709551615 ∧ amt a * amt b = hi * 18446744073709551616 + lo := by
  have a1 := amt_nn a
  have a2 := amt_le ha
  have b1 := amt_nn b
  have b2 := amt_le hb
  have p2 := amt_mul_le ha hb
  obtain ⟨n, hn⟩ := Int.eq_ofNat_of_zero_le a1
  obtain ⟨m, hm⟩ := Int.eq_ofNat_of_zero_le b1
  rw [hn, hm, ← Int.natCast_mul] at p2
  refine ⟨((n * m / 18446744073709551616 : Nat) : Int), ((n * m % 18446744073709551616 : Nat) : Int), fun W => ?_, ?_, ?_, ?_, ?_, ?_⟩
  · rw [hn, hm]
    exact (Try.bits_Mul64 n m (by omega) (by omega) W).mono fun e w' ⟨he, hw⟩ => ⟨he, hw.symm⟩
  all_goals first | omega | (rw [hn, hm, ← Int.natCast_mul]; omega)

set_option maxHeartbeats 400000 in
theorem mul_o1 (a b hi lo : Int) (w : World) (s1 s2 : Bool) (ht : twoE a b = 0) (ha : rtB a = true) (hb : rtB b = true) (h64 : Mul64Is a b hi lo) (g1 : decide (a < 0) = s1) (g2 : decide (b < 0) = s2)
    (l0 : 0 ≤ lo) (l1 : lo ≤ 18446744073709551615) (k1 : (hi != 0) = true) :
    Calls Try.prog 20 #[.int .i64 a, .int .i64 b] w fun e w' => e = .returned (.tuple #[.int .i64 0, .int .i64 10]) ∧ w = w' := by
  go_enter Try.func20, Try.ntmps20
  go_wp2_with (first | (go_at_call 39; refine (two_any _ _ _).mono ?_; rintro e w' ⟨rfl, rfl⟩) | (go_at_call 41; refine (amount_any _ _ (by assumption)).mono ?_; rintro e w' ⟨rfl, rfl⟩) | (go_at_call 40; refine (h64 _).mono ?_; rintro e w' ⟨rfl, rfl⟩))
  go_ret2
  exact ⟨rfl, rfl⟩

set_option maxHeartbeats 400000 in
theorem mul_o2 (a b hi lo : Int) (w : World) (s1 s2 : Bool) (ht : twoE a b = 0) (ha : rtB a = true) (hb : rtB b = true) (h64 : Mul64Is a b hi lo) (g1 : decide (a < 0) = s1) (g2 : decide (b < 0) = s2)
    (l0 : 0 ≤ lo) (l1 : lo ≤ 18446744073709551615) (h0 : hi = 0) (k1 : 4611686018427387904 < lo) :
    Calls Try.prog 20 #[.int .i64 a, .int .i64 b] w fun e w' => e = .returned (.tuple #[.int .i64 0, .int .i64 10]) ∧ w = w' := by
  subst h0
  go_enter Try.func20, Try.ntmps20
  go_wp2_with (first | (go_at_call 39; refine (two_any _ _ _).mono ?_; rintro e w' ⟨rfl, rfl⟩) | (go_at_call 41; refine (amount_any _ _ (by assumption)).mono ?_; rintro e w' ⟨rfl, rfl⟩) | (go_at_call 40; refine (h64 _).mono ?_; rintro e w' ⟨rfl, rfl⟩))
  go_ret2
  exact ⟨rfl, rfl⟩

set_option maxHeartbeats 400000 in
theorem mul_o3 (a b hi lo : Int) (w : World) (s1 s2 : Bool) (ht : twoE a b = 0) (ha : rtB a = true) (hb : rtB b = true) (h64 : Mul64Is a b hi lo) (g1 : decide (a < 0) = s1) (g2 : decide (b < 0) = s2)
    (l0 : 0 ≤ lo) (l1 : lo ≤ 18446744073709551615) (h0 : hi = 0) (h1 : lo = 4611686018427387904) (hs : s1 = s2) :
    Calls Try.prog 20 #[.int .i64 a, .int .i64 b] w fun e w' => e = .returned (.tuple #[.int .i64 0, .int .i64 10]) ∧ w = w' := by
  subst h0 h1 hs
  clear l0 l1
  cases s1
  all_goals
    go_enter Try.func20, Try.ntmps20
    go_wp2_with (first | (go_at_call 39; refine (two_any _ _ _).mono ?_; rintro e w' ⟨rfl, rfl⟩) | (go_at_call 41; refine (amount_any _ _ (by assumption)).mono ?_; rintro e w' ⟨rfl, rfl⟩) | (go_at_call 40; refine (h64 _).mono ?_; rintro e w' ⟨rfl, rfl⟩))
    go_ret2
    exact ⟨rfl, rfl⟩

set_option maxHeartbeats 400000 in
theorem mul_b (a b hi lo : Int) (w : World) (s1 s2 : Bool) (ht : twoE a b = 0) (ha : rtB a = true) (hb : rtB b = true) (h64 : Mul64Is a b hi lo) (g1 : decide (a < 0) = s1) (g2 : decide (b < 0) = s2)
    (l0 : 0 ≤ lo) (l1 : lo ≤ 18446744073709551615) (h0 : hi = 0) (h1 : lo ≤ 4611686018427387904) (hs : s1 = !s2) :
    Calls Try.prog 20 #[.int .i64 a, .int .i64 b] w fun e w' => e = .returned (.tuple #[.int .i64 (-lo), .int .i64 0]) ∧ w = w' := by
  subst h0 hs
  by_cases k : lo = 4611686018427387904
  · subst k
    clear l0 l1 h1
    cases s2
    all_goals
      go_enter Try.func20, Try.ntmps20
      go_wp2_with (first | (go_at_call 39; refine (two_any _ _ _).mono ?_; rintro e w' ⟨rfl, rfl⟩) | (go_at_call 41; refine (amount_any _ _ (by assumption)).mono ?_; rintro e w' ⟨rfl, rfl⟩) | (go_at_call 40; refine (h64 _).mono ?_; rintro e w' ⟨rfl, rfl⟩))
      go_ret2
      exact ⟨rfl, rfl⟩
  · have k' : (lo == 4611686018427387904) = false := by simp [k]
    clear k
    cases s2
    all_goals
      go_enter Try.func20, Try.ntmps20
      go_wp2_with (first | (go_at_call 39; refine (two_any _ _ _).mono ?_; rintro e w' ⟨rfl, rfl⟩) | (go_at_call 41; refine (amount_any _ _ (by assumption)).mono ?_; rintro e w' ⟨rfl, rfl⟩) | (go_at_call 40; refine (h64 _).mono ?_; rintro e w' ⟨rfl, rfl⟩))
      go_ret2
      exact ⟨rfl, rfl⟩

set_option maxHeartbeats 400000 in
theorem mul_p (a b hi lo : Int) (w : World) (s1 s2 : Bool) (ht : twoE a b = 0) (ha : rtB a = true) (hb : rtB b = true) (h64 : Mul64Is a b hi lo) (g1 : decide (a < 0) = s1) (g2 : decide (b < 0) = s2)
    (l0 : 0 ≤ lo) (l1 : lo ≤ 18446744073709551615) (h0 : hi = 0) (h1 : lo ≤ 4611686018427387903) (hs : s1 = s2) :
    Calls Try.prog 20 #[.int .i64 a, .int .i64 b] w fun e w' => e = .returned (.tuple #[.int .i64 lo, .int .i64 0]) ∧ w = w' := by
  subst h0 hs
  have k' : (lo == 4611686018427387904) = false := by simp; omega
  cases s1
  all_goals
    go_enter Try.func20, Try.ntmps20
    go_wp2_with (first | (go_at_call 39; refine (two_any _ _ _).mono ?_; rintro e w' ⟨rfl, rfl⟩) | (go_at_call 41; refine (amount_any _ _ (by assumption)).mono ?_; rintro e w' ⟨rfl, rfl⟩) | (go_at_call 40; refine (h64 _).mono ?_; rintro e w' ⟨rfl, rfl⟩))
    go_ret2
    exact ⟨rfl, rfl⟩

theorem mul_any (a b : Int) (w : World) :
    Calls Try.prog 20 #[.int .i64 a, .int .i64 b] w fun e w' => e = .returned (.tuple #[.int .i64 (mulV a b), .int .i64 (mulE a b)]) ∧ w = w' := by
  rcases two_cases a b with ⟨ht, ha, hb⟩ | ⟨ht, ha⟩
  · obtain ⟨hi, lo, h64, h0, h1, l0, l1, hp⟩ := mul64_is ha hb
    have hq := mul_sgn ht
    have p0 := amt_mul_nn a b
    rw [hp] at p0 hq
    have fin : ∀ {v e : Int} {r : Ending}, (r = .returned (.tuple #[.int .i64 v, .int .i64 e])) → v = mulV a b → e = mulE a b → r = .returned (.tuple #[.int .i64 (mulV a b), .int .i64 (mulE a b)]) := fun h h1 h2 => by rw [h, h1, h2]
    by_cases hz : hi = 0
    · rw [hz, Int.zero_mul, Int.zero_add] at hq
      by_cases g : 4611686018427387904 < lo
      · have q := sgn_over g (decide (a < 0) != decide (b < 0))
        exact (mul_o2 a b hi lo w _ _ ht ha hb h64 rfl rfl l0 l1 hz g).mono fun e w' ⟨he, hw⟩ => ⟨fin he (by rw [← hq.1, q.1]) (by rw [← hq.2, q.2]), hw⟩
      · by_cases hs : decide (a < 0) = decide (b < 0)
        · have hs' : (decide (a < 0) != decide (b < 0)) = false := by rw [hs]; simp
          rw [hs'] at hq
          by_cases he : lo = 4611686018427387904
          · have q := sgn_f2 (m := lo) (by omega)
            exact (mul_o3 a b hi lo w _ _ ht ha hb h64 rfl rfl l0 l1 hz he hs).mono fun e w' ⟨he, hw⟩ => ⟨fin he (by rw [← hq.1, q.1]) (by rw [← hq.2, q.2]), hw⟩
          · have q := sgn_f1 (m := lo) (by omega) (by omega)
            exact (mul_p a b hi lo w _ _ ht ha hb h64 rfl rfl l0 l1 hz (by omega) hs).mono fun e w' ⟨he, hw⟩ => ⟨fin he (by rw [← hq.1, q.1]) (by rw [← hq.2, q.2]), hw⟩
        · have hs' : (decide (a < 0) != decide (b < 0)) = true := by simpa using hs
          have hs2 : decide (a < 0) = !decide (b < 0) := by revert hs; cases decide (a < 0) <;> cases decide (b < 0) <;> simp
          rw [hs'] at hq
          have q := sgn_t1 (m := lo) (by omega) (by omega)
          exact (mul_b a b hi lo w _ _ ht ha hb h64 rfl rfl l0 l1 hz (by omega) hs2).mono fun e w' ⟨he, hw⟩ => ⟨fin he (by rw [← hq.1, q.1]) (by rw [← hq.2, q.2]), hw⟩
    · have q := sgn_over (m := hi * 18446744073709551616 + lo) (by omega) (decide (a < 0) != decide (b < 0))
      exact (mul_o1 a b hi lo w _ _ ht ha hb h64 rfl rfl l0 l1 (by simp [hz])).mono fun e w' ⟨he, hw⟩ => ⟨fin he (by rw [← hq.1, q.1]) (by rw [← hq.2, q.2]), hw⟩
  · go_enter Try.func20, Try.ntmps20
    go_wp2_with (go_at_call 39; refine (two_any _ _ _).mono ?_; rintro e w' ⟨rfl, rfl⟩)
    go_ret2
    exact ⟨ret_pair (by simp [mulV, ht]) (by simp [mulE, ht]), rfl⟩

set_option maxHeartbeats 400000 in
theorem rmul_any (a b : Int) (w : World) :
    Calls Try.prog 23 #[.int .i64 a, .int .i64 b] w fun e w' => e = .returned (.tuple #[.int .i64 (mulV a b), .int .i64 (mulE a b)]) ∧ w = w' := by
  cases ha : rtB a <;> cases hb : rtB b
  rotate_right
  · have ht : twoE a b = 0 := by simp [twoE, ha, hb]
    have hq := mul_sgn ht
    clear ht
    have p0 := amt_mul_nn a b
    have a1 := amt_nn a
    have a2 := amt_le ha
    have b1 := amt_nn b
    have b2 := amt_le hb
    by_cases hx : amt a = 0
    · have k : (amt a == 0) = true := by simp [hx]
      rw [hx, Int.zero_mul] at hq
      have q := sgn_zero (decide (a < 0) != decide (b < 0))
      rw [hq.1, hq.2] at q
      have HQ := Lib.hid (And.intro q.1.symm q.2.symm)
      clear hq q hx p0
      go_enter Try.func23, Try.ntmps23
      go_wp2_with (first | (go_at_call 29; refine (rright_any _ _).mono ?_; rintro e w' ⟨rfl, rfl⟩) | (go_at_call 37; refine (ramount_any _ _ (by assumption)).mono ?_; rintro e w' ⟨rfl, rfl⟩) | (go_at_call 38; refine (rsigned_any _ _ _ (by omega) (by omega)).mono ?_; rintro e w' ⟨rfl, rfl⟩))
      go_ret2
      exact ⟨ret_pair HQ.out.1 HQ.out.2, rfl⟩
    · have kx : (amt a == 0) = false := by simp [hx]
      by_cases hy : amt b = 0
      · have k : (amt b == 0) = true := by simp [hy]
        rw [hy, Int.mul_zero] at hq
        have q := sgn_zero (decide (a < 0) != decide (b < 0))
        rw [hq.1, hq.2] at q
        have HQ := Lib.hid (And.intro q.1.symm q.2.symm)
        clear hq q hy p0
        go_enter Try.func23, Try.ntmps23
        go_wp2_with (first | (go_at_call 29; refine (rright_any _ _).mono ?_; rintro e w' ⟨rfl, rfl⟩) | (go_at_call 37; refine (ramount_any _ _ (by assumption)).mono ?_; rintro e w' ⟨rfl, rfl⟩) | (go_at_call 38; refine (rsigned_any _ _ _ (by omega) (by omega)).mono ?_; rintro e w' ⟨rfl, rfl⟩))
        go_ret2
        exact ⟨ret_pair HQ.out.1 HQ.out.2, rfl⟩
      · have ky : (amt b == 0) = false := by simp [hy]
        have y1 : 1 ≤ amt b := by omega
        by_cases hg : 4611686018427387904 < amt a * amt b
        · have k : decide (4611686018427387904 / amt b < amt a) = true := by rw [decide_eq_true_eq, mul_test y1]; exact hg
          have q := sgn_over hg (decide (a < 0) != decide (b < 0))
          rw [hq.1, hq.2] at q
          have HQ := Lib.hid (And.intro q.1.symm q.2.symm)
          clear hq q hg p0
          go_enter Try.func23, Try.ntmps23
          go_wp2_with (first | (go_at_call 29; refine (rright_any _ _).mono ?_; rintro e w' ⟨rfl, rfl⟩) | (go_at_call 37; refine (ramount_any _ _ (by assumption)).mono ?_; rintro e w' ⟨rfl, rfl⟩) | (go_at_call 38; refine (rsigned_any _ _ _ (by omega) (by omega)).mono ?_; rintro e w' ⟨rfl, rfl⟩))
          go_ret2
          exact ⟨ret_pair HQ.out.1 HQ.out.2, rfl⟩
        · have k : decide (4611686018427387904 / amt b < amt a) = false := by rw [decide_eq_false_iff_not, mul_test y1]; exact hg
          cases s1 : decide (a < 0) <;> cases s2 : decide (b < 0)
          all_goals
            rw [s1, s2] at hq
            have HQ := Lib.hid hq
            clear hq
            go_enter Try.func23, Try.ntmps23
            go_wp2_with (first | (go_at_call 29; refine (rright_any _ _).mono ?_; rintro e w' ⟨rfl, rfl⟩) | (go_at_call 37; refine (ramount_any _ _ (by assumption)).mono ?_; rintro e w' ⟨rfl, rfl⟩) | (go_at_call 38; refine (rsigned_any _ _ _ (by omega) (by omega)).mono ?_; rintro e w' ⟨rfl, rfl⟩))
            go_ret2
            exact ⟨ret_pair HQ.out.1 HQ.out.2, rfl⟩
  all_goals
    go_enter Try.func23, Try.ntmps23
    go_wp2_with (go_at_call 29; refine (rright_any _ _).mono ?_; rintro e w' ⟨rfl, rfl⟩)
    go_ret2
    exact ⟨ret_pair (by simp [mulV, twoE, ha, hb]) (by simp [mulE, twoE, ha, hb]), rfl⟩
end Go.Proofs.Ytelggbmobemnoaa
