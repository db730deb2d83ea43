/- Walks of layer 1: the reference's divisions. -/
import Derived.Test.YtelggbmobemnoaaFw2
namespace Go.Proofs.Ytelggbmobemnoaa
open Go.RowKit
open Fx

set_option maxHeartbeats 400000 in
theorem ramount_any (n : Int) (w : World) (hn : rtB n = true) :
    Calls Try.prog 37 #[.int .i64 n] w fun e w' => e = .returned (.int .u64 (amt n)) ∧ w = w' := by
  have h1 := rtB_lo hn
  have h2 := rtB_hi hn
  by_cases g : n < 0
  · have ha : Hid (amt n = -n) := amt_neg g
    go_enter Try.func37, Try.ntmps37
    go_wp2
    go_ret
    exact ⟨ret_int ha.out.symm, rfl⟩
  · have ha : Hid (amt n = n) := amt_pos (by omega)
    go_enter Try.func37, Try.ntmps37
    go_wp2
    go_ret
    exact ⟨ret_int ha.out.symm, rfl⟩

set_option maxHeartbeats 400000 in
theorem rsigned_t (m : Int) (w : World) (h0 : 0 ≤ m) (h1 : m ≤ 18446744073709551615) :
    Calls Try.prog 38 #[.int .u64 m, .bool true] w fun e w' => e = .returned (.tuple #[.int .i64 (sgnV m true), .int .i64 (sgnE m true)]) ∧ w = w' := by
  by_cases g : m ≤ 4611686018427387904
  · have hs : Hid (sgnV m true = -m ∧ sgnE m true = 0) := sgn_t1 h0 g
    have k : decide (m ≤ 4611686018427387904) = true := decide_eq_true g
    go_enter Try.func38, Try.ntmps38
    go_wp2
    go_ret2
    exact ⟨ret_pair hs.out.1.symm hs.out.2.symm, rfl⟩
  · have hs : Hid (sgnV m true = 0 ∧ sgnE m true = 10) := sgn_t2 (by omega)
    have k : decide (m ≤ 4611686018427387904) = false := decide_eq_false g
    go_enter Try.func38, Try.ntmps38
    go_wp2
    go_ret2
    exact ⟨ret_pair hs.out.1.symm hs.out.2.symm, rfl⟩

set_option maxHeartbeats 400000 in
theorem rsigned_f (m : Int) (w : World) (h0 : 0 ≤ m) (h1 : m ≤ 18446744073709551615) :
    Calls Try.prog 38 #[.int .u64 m, .bool false] w fun e w' => e = .returned (.tuple #[.int .i64 (sgnV m false), .int .i64 (sgnE m false)]) ∧ w = w' := by
  by_cases g : m ≤ 4611686018427387903
  · have hs : Hid (sgnV m false = m ∧ sgnE m false = 0) := sgn_f1 h0 g
    have k : decide (m ≤ 4611686018427387903) = true := decide_eq_true g
    go_enter Try.func38, Try.ntmps38
    go_wp2
    go_ret2
    exact ⟨ret_pair hs.out.1.symm hs.out.2.symm, rfl⟩
  · have hs : Hid (sgnV m false = 0 ∧ sgnE m false = 10) := sgn_f2 (by omega)
    have k : decide (m ≤ 4611686018427387903) = false := decide_eq_false g
    go_enter Try.func38, Try.ntmps38
    go_wp2
    go_ret2
    exact ⟨ret_pair hs.out.1.symm hs.out.2.symm, rfl⟩

theorem rsigned_any (m : Int) (s : Bool) (w : World) (h0 : 0 ≤ m) (h1 : m ≤ 18446744073709551615) :
    Calls Try.prog 38 #[.int .u64 m, .bool s] w fun e w' => e = .returned (.tuple #[.int .i64 (sgnV m s), .int .i64 (sgnE m s)]) ∧ w = w' := by
  cases s
  · exact rsigned_f m w h0 h1
  · exact rsigned_t m w h0 h1

set_option maxHeartbeats 400000 in
theorem rquot_any (a b : Int) (w : World) :
    Calls Try.prog 17 #[.int .i64 a, .int .i64 b] w fun e w' => e = .returned (.tuple #[.int .i64 (quotV a b), .int .i64 (quotE a b)]) ∧ w = w' := by
  rcases fxask_cases a b with ⟨hk, ha, hb, h0⟩ | ⟨hk, ht, rfl⟩ | ⟨hk, ht⟩
  · have hq := quot_sgn2 hk
    have ⟨b1, b2⟩ := div_amt_bd ha h0
    have b3 := amt_1 h0
    have b4 := amt_nn a
    have b5 := amt_le ha
    cases s1 : decide (a < 0) <;> cases s2 : decide (b < 0)
    all_goals
      rw [s1, s2] at hq
      have HQ := Lib.hid hq
      clear hq
      go_enter Try.func17, Try.ntmps17
      go_wp2_with (first | (go_at_call 36; refine (rasked_any _ _ _).mono ?_; rintro e w' ⟨rfl, rfl⟩) | (go_at_call 37; refine (ramount_any _ _ (by assumption)).mono ?_; rintro e w' ⟨rfl, rfl⟩) | (go_at_call 38; refine (rsigned_any _ _ _ (by omega) (by omega)).mono ?_; rintro e w' ⟨rfl, rfl⟩))
      go_ret2
      exact ⟨ret_pair HQ.out.1 HQ.out.2, rfl⟩
  all_goals
    go_enter Try.func17, Try.ntmps17
    go_wp2_with (first | (go_at_call 36; refine (rasked_any _ _ _).mono ?_; rintro e w' ⟨rfl, rfl⟩))
    go_ret2
    exact ⟨ret_pair (by simp [quotV, hk]) (by simp [quotE, hk]), rfl⟩

set_option maxHeartbeats 400000 in
theorem rrem_any (a b : Int) (w : World) :
    Calls Try.prog 19 #[.int .i64 a, .int .i64 b] w fun e w' => e = .returned (.tuple #[.int .i64 (remV a b), .int .i64 (askE a b)]) ∧ w = w' := by
  rcases fxask_cases a b with ⟨hk, ha, hb, h0⟩ | ⟨hk, ht, rfl⟩ | ⟨hk, ht⟩
  · have hq := rem_sgn2 hk hb h0
    have ⟨b1, b2⟩ := mod_amt_bd a h0
    have b3 := amt_1 h0
    have b4 := amt_nn a
    have b5 := amt_le ha
    have b6 := amt_le hb
    cases s1 : decide (a < 0)
    all_goals
      rw [s1] at hq
      have HQ := Lib.hid hq
      clear hq
      go_enter Try.func19, Try.ntmps19
      go_wp2_with (first | (go_at_call 36; refine (rasked_any _ _ _).mono ?_; rintro e w' ⟨rfl, rfl⟩) | (go_at_call 37; refine (ramount_any _ _ (by assumption)).mono ?_; rintro e w' ⟨rfl, rfl⟩) | (go_at_call 38; refine (rsigned_any _ _ _ (by omega) (by omega)).mono ?_; rintro e w' ⟨rfl, rfl⟩))
      go_ret2
      exact ⟨ret_pair HQ.out.1 (by rw [HQ.out.2, hk]), rfl⟩
  all_goals
    go_enter Try.func19, Try.ntmps19
    go_wp2_with (first | (go_at_call 36; refine (rasked_any _ _ _).mono ?_; rintro e w' ⟨rfl, rfl⟩))
    go_ret2
    exact ⟨ret_pair (by simp [remV, hk]) (by simp [hk]), rfl⟩

set_option maxHeartbeats 400000 in
theorem rmod_any (a b : Int) (w : World) :
    Calls Try.prog 15 #[.int .i64 a, .int .i64 b] w fun e w' => e = .returned (.tuple #[.int .i64 (modV a b), .int .i64 (askE a b)]) ∧ w = w' := by
  rcases fxask_cases a b with ⟨hk, ha, hb, h0⟩ | ⟨hk, ht, rfl⟩ | ⟨hk, ht⟩
  · have hq := modV_rem hk
    have ⟨b1, b2⟩ := remV_bd hk hb h0
    have b3 := rtB_lo hb
    have b4 := rtB_hi hb
    cases s0 : (remV a b == 0) <;> cases s1 : decide (remV a b < 0) <;> cases s2 : decide (b < 0)
    all_goals
      rw [s0, s1, s2] at hq
      simp at hq
      have HQ := Lib.hid hq
      clear hq
      go_enter Try.func15, Try.ntmps15
      go_wp2_with (first | (go_at_call 19; refine (rrem_any _ _ _).mono ?_; rintro e w' ⟨rfl, rfl⟩))
      go_ret2
      exact ⟨ret_pair HQ.out.symm hk.symm, rfl⟩
  all_goals
    go_enter Try.func15, Try.ntmps15
    go_wp2_with (first | (go_at_call 19; refine (rrem_any _ _ _).mono ?_; rintro e w' ⟨rfl, rfl⟩))
    go_ret2
    exact ⟨ret_pair (by simp [modV, remV, hk]) (by simp [hk]), rfl⟩

set_option maxHeartbeats 400000 in
theorem rdiv_any (a b : Int) (w : World) :
    Calls Try.prog 13 #[.int .i64 a, .int .i64 b] w fun e w' => e = .returned (.tuple #[.int .i64 (divV a b), .int .i64 (divE a b)]) ∧ w = w' := by
  rcases fxask_cases a b with ⟨hk, ha, hb, h0⟩ | ⟨hk, ht, rfl⟩ | ⟨hk, ht⟩
  · have ⟨b1, b2⟩ := modV_bd ha hb h0 hk
    have b3 := amt_1 h0
    have b4 := amt_nn a
    have b5 := amt_le ha
    have b6 := amt_le hb
    have ⟨b7, b8⟩ := div_amt_bd ha h0
    have ⟨b9, b10⟩ := up_bd ha hb h0
    by_cases hm : modV a b = 0
    · have s0 : (modV a b != 0) = false := by simp [hm]
      have hq := div_sgn2 h0 hk (.inl hm)
      clear hm
      cases s1 : decide (a < 0) <;> cases s2 : decide (b < 0)
      all_goals
        rw [s1, s2] at hq
        have HQ := Lib.hid hq
        clear hq
        go_enter Try.func13, Try.ntmps13
        go_wp2_with (first | (go_at_call 36; refine (rasked_any _ _ _).mono ?_; rintro e w' ⟨rfl, rfl⟩) | (go_at_call 15; refine (rmod_any _ _ _).mono ?_; rintro e w' ⟨rfl, rfl⟩) | (go_at_call 37; refine (ramount_any _ _ (by assumption)).mono ?_; rintro e w' ⟨rfl, rfl⟩) | (go_at_call 38; refine (rsigned_any _ _ _ (by omega) (by omega)).mono ?_; rintro e w' ⟨rfl, rfl⟩))
        go_ret2
        exact ⟨ret_pair HQ.out.1 HQ.out.2, rfl⟩
    · have s0 : (modV a b != 0) = true := by simp [hm]
      by_cases hs : (decide (a < 0) != decide (b < 0)) = true
      · have HQ := Lib.hid (div_sgn1 h0 hk hm hs)
        clear hm
        have hs2 : (decide (a < 0) = true ∧ decide (b < 0) = false) ∨ (decide (a < 0) = false ∧ decide (b < 0) = true) := by revert hs; cases decide (a < 0) <;> cases decide (b < 0) <;> simp
        clear hs
        rcases hs2 with ⟨s1, s2⟩ | ⟨s1, s2⟩
        all_goals
          go_enter Try.func13, Try.ntmps13
          go_wp2_with (first | (go_at_call 36; refine (rasked_any _ _ _).mono ?_; rintro e w' ⟨rfl, rfl⟩) | (go_at_call 15; refine (rmod_any _ _ _).mono ?_; rintro e w' ⟨rfl, rfl⟩) | (go_at_call 37; refine (ramount_any _ _ (by assumption)).mono ?_; rintro e w' ⟨rfl, rfl⟩) | (go_at_call 38; refine (rsigned_any _ _ _ (by omega) (by omega)).mono ?_; rintro e w' ⟨rfl, rfl⟩))
          go_ret2
          exact ⟨ret_pair HQ.out.1 HQ.out.2, rfl⟩
      · have hs' : (decide (a < 0) != decide (b < 0)) = false := by simpa using hs
        have hq := div_sgn2 h0 hk (.inr hs')
        clear hm hs
        have hs2 : (decide (a < 0) = true ∧ decide (b < 0) = true) ∨ (decide (a < 0) = false ∧ decide (b < 0) = false) := by revert hs'; cases decide (a < 0) <;> cases decide (b < 0) <;> simp
        clear hs'
        rcases hs2 with ⟨s1, s2⟩ | ⟨s1, s2⟩
        all_goals
          rw [s1, s2] at hq
          have HQ := Lib.hid hq
          clear hq
          go_enter Try.func13, Try.ntmps13
          go_wp2_with (first | (go_at_call 36; refine (rasked_any _ _ _).mono ?_; rintro e w' ⟨rfl, rfl⟩) | (go_at_call 15; refine (rmod_any _ _ _).mono ?_; rintro e w' ⟨rfl, rfl⟩) | (go_at_call 37; refine (ramount_any _ _ (by assumption)).mono ?_; rintro e w' ⟨rfl, rfl⟩) | (go_at_call 38; refine (rsigned_any _ _ _ (by omega) (by omega)).mono ?_; rintro e w' ⟨rfl, rfl⟩))
          go_ret2
          exact ⟨ret_pair HQ.out.1 HQ.out.2, rfl⟩
  all_goals
    go_enter Try.func13, Try.ntmps13
    go_wp2_with (first | (go_at_call 36; refine (rasked_any _ _ _).mono ?_; rintro e w' ⟨rfl, rfl⟩))
    go_ret2
    exact ⟨ret_pair (by simp [divV, hk]) (by simp [divE, hk]), rfl⟩
end Go.Proofs.Ytelggbmobemnoaa
