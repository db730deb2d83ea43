/- The laws FixReckons and FixLaws, walked. -/
import Derived.Test.YtelggbmobemnoaaFl1
import Derived.Test.YtelggbmobemnoaaFx2
namespace Go.Proofs.Ytelggbmobemnoaa
open Go.RowKit
open Fx
set_option linter.unusedVariables false

set_option maxHeartbeats 400000 in
theorem fixReckons_walk (a b : Int) (w : World) :
    Calls Try.prog 7 #[.int .i64 a, .int .i64 b] w fun e w' => e = .returned (.bool true) ∧ Below w.heap.size w w' := by
  have ⟨b1, b2⟩ := subE_bd a b
  have ⟨b3, b4⟩ := mulE_bd a b
  have ⟨b5, b6⟩ := subE_bd 0 a
  have ⟨b7, b8⟩ := absE_bd a
  go_enter Try.func7, Try.ntmps7
  go_wp2_with (first | (go_at_call 21; refine (sub_any _ _ _).mono ?_; rintro e w' ⟨rfl, rfl⟩) | (go_at_call 22; refine (rsub_any _ _ _).mono ?_; rintro e w' ⟨rfl, rfl⟩) | (go_at_call 20; refine (mul_any _ _ _).mono ?_; rintro e w' ⟨rfl, rfl⟩) | (go_at_call 23; refine (rmul_any _ _ _).mono ?_; rintro e w' ⟨rfl, rfl⟩) | (go_at_call 24; refine (neg_any _ _).mono ?_; rintro e w' ⟨rfl, rfl⟩) | (go_at_call 25; refine (rneg_any _ _).mono ?_; rintro e w' ⟨rfl, rfl⟩) | (go_at_call 26; refine (abs_any _ _).mono ?_; rintro e w1 ⟨rfl, hb1⟩) | (go_at_call 27; refine (rabs_any _ _).mono ?_; rintro e w' ⟨rfl, rfl⟩) | (go_at_call 28; refine (right_any _ _).mono ?_; rintro e w' ⟨rfl, rfl⟩) | (go_at_call 29; refine (rright_any _ _).mono ?_; rintro e w' ⟨rfl, rfl⟩) | (go_at_call 11; refine (alive_any _).mono ?_; rintro e w2 ⟨rfl, hb2⟩))
  go_ret
  exact ⟨rfl, hb1.trans (hb2.mono hb1.size)⟩

theorem add_2 (a b : Int) (w : World) (n : Nat) (hn : n = w.heap.size) : Calls Try.prog 9 #[.slice (some ⟨n, 0, none⟩) 2 2] (w.alloc (.cells #[.int .i64 a, .int .i64 b] 2)) fun e w' => e = .returned (.tuple #[.int .i64 (plusV a b), .int .i64 (plusE a b)]) ∧ w.alloc (.cells #[.int .i64 a, .int .i64 b] 2) = w' := by
  subst hn
  exact (add_any _ [a, b] 2 _ (intsAt_new .i64 w [a, b] 2 (by simp [maxLen]))).mono fun e w' ⟨he, hw⟩ => ⟨he.trans (ret_pair (add_pair a b).1 (add_pair a b).2), hw⟩

set_option maxHeartbeats 400000 in
theorem laws_no (a b c : Int) (w : World) (he : (plusE a b != 0) = true) :
    Calls Try.prog 6 #[.int .i64 a, .int .i64 b, .int .i64 c] w fun e w' => e = .returned (.bool true) ∧ Below w.heap.size w w' := by
  have ⟨c1, c2⟩ := plus_comm a b
  have ⟨d1, d2⟩ := mul_comm' a b
  go_enter Try.func6, Try.ntmps6
  go_wp2_with (first | (go_at_call 9; refine (add_2 _ _ _ _ (by simp)).mono ?_; rintro e w' ⟨rfl, rfl⟩) | (go_at_call 21; refine (sub_any _ _ _).mono ?_; rintro e w' ⟨rfl, rfl⟩) | (go_at_call 20; refine (mul_any _ _ _).mono ?_; rintro e w' ⟨rfl, rfl⟩) | (go_at_call 11; refine (alive_any _).mono ?_; rintro e w2 ⟨rfl, hb2⟩))
  go_ret
  exact ⟨rfl, ((((Below.refl _ _).alloc (Nat.le_refl _) _).alloc (by simp) _).trans (hb2.mono (by simp; omega)))⟩

set_option maxHeartbeats 400000 in
theorem laws_j (a b c : Int) (w : World) (he : plusE a b = 0) (s1 : subV (plusV a b) b = a) (s2 : subE (plusV a b) b = 0) (hj : (mulE a c != 0) = true) :
    Calls Try.prog 6 #[.int .i64 a, .int .i64 b, .int .i64 c] w fun e w' => e = .returned (.bool true) ∧ Below w.heap.size w w' := by
  have ⟨c1, c2⟩ := plus_comm a b
  have ⟨d1, d2⟩ := mul_comm' a b
  go_enter Try.func6, Try.ntmps6
  go_wp2_with (first | (go_at_call 9; refine (add_2 _ _ _ _ (by simp)).mono ?_; rintro e w' ⟨rfl, rfl⟩) | (go_at_call 21; refine (sub_any _ _ _).mono ?_; rintro e w' ⟨rfl, rfl⟩) | (go_at_call 20; refine (mul_any _ _ _).mono ?_; rintro e w' ⟨rfl, rfl⟩) | (go_at_call 11; refine (alive_any _).mono ?_; rintro e w2 ⟨rfl, hb2⟩))
  go_ret
  exact ⟨rfl, ((((Below.refl _ _).alloc (Nat.le_refl _) _).alloc (by simp) _).trans (hb2.mono (by simp; omega)))⟩

set_option maxHeartbeats 400000 in
theorem laws_k (a b c : Int) (w : World) (he : plusE a b = 0) (s1 : subV (plusV a b) b = a) (s2 : subE (plusV a b) b = 0) (hj : mulE a c = 0) (hk : (mulE b c != 0) = true) :
    Calls Try.prog 6 #[.int .i64 a, .int .i64 b, .int .i64 c] w fun e w' => e = .returned (.bool true) ∧ Below w.heap.size w w' := by
  have ⟨c1, c2⟩ := plus_comm a b
  have ⟨d1, d2⟩ := mul_comm' a b
  go_enter Try.func6, Try.ntmps6
  go_wp2_with (first | (go_at_call 9; refine (add_2 _ _ _ _ (by simp)).mono ?_; rintro e w' ⟨rfl, rfl⟩) | (go_at_call 21; refine (sub_any _ _ _).mono ?_; rintro e w' ⟨rfl, rfl⟩) | (go_at_call 20; refine (mul_any _ _ _).mono ?_; rintro e w' ⟨rfl, rfl⟩) | (go_at_call 11; refine (alive_any _).mono ?_; rintro e w2 ⟨rfl, hb2⟩))
  go_ret
  exact ⟨rfl, ((((Below.refl _ _).alloc (Nat.le_refl _) _).alloc (by simp) _).trans (hb2.mono (by simp; omega)))⟩

set_option maxHeartbeats 400000 in
theorem laws_l (a b c : Int) (w : World) (he : plusE a b = 0) (s1 : subV (plusV a b) b = a) (s2 : subE (plusV a b) b = 0) (hj : mulE a c = 0) (hk : mulE b c = 0) (hl : (mulE (plusV a b) c != 0) = true) :
    Calls Try.prog 6 #[.int .i64 a, .int .i64 b, .int .i64 c] w fun e w' => e = .returned (.bool true) ∧ Below w.heap.size w w' := by
  have ⟨c1, c2⟩ := plus_comm a b
  have ⟨d1, d2⟩ := mul_comm' a b
  go_enter Try.func6, Try.ntmps6
  go_wp2_with (first | (go_at_call 9; refine (add_2 _ _ _ _ (by simp)).mono ?_; rintro e w' ⟨rfl, rfl⟩) | (go_at_call 21; refine (sub_any _ _ _).mono ?_; rintro e w' ⟨rfl, rfl⟩) | (go_at_call 20; refine (mul_any _ _ _).mono ?_; rintro e w' ⟨rfl, rfl⟩) | (go_at_call 11; refine (alive_any _).mono ?_; rintro e w2 ⟨rfl, hb2⟩))
  go_ret
  exact ⟨rfl, ((((Below.refl _ _).alloc (Nat.le_refl _) _).alloc (by simp) _).trans (hb2.mono (by simp; omega)))⟩

set_option maxHeartbeats 400000 in
theorem laws_m (a b c : Int) (w : World) (he : plusE a b = 0) (s1 : subV (plusV a b) b = a) (s2 : subE (plusV a b) b = 0) (hj : mulE a c = 0) (hk : mulE b c = 0) (hl : mulE (plusV a b) c = 0) (h1 : plusV (mulV a c) (mulV b c) = mulV (plusV a b) c) (h2 : plusE (mulV a c) (mulV b c) = 0) :
    Calls Try.prog 6 #[.int .i64 a, .int .i64 b, .int .i64 c] w fun e w' => e = .returned (.bool true) ∧ Below w.heap.size w w' := by
  have ⟨c1, c2⟩ := plus_comm a b
  have ⟨d1, d2⟩ := mul_comm' a b
  go_enter Try.func6, Try.ntmps6
  go_wp2_with (first | (go_at_call 9; refine (add_2 _ _ _ _ (by simp)).mono ?_; rintro e w' ⟨rfl, rfl⟩) | (go_at_call 21; refine (sub_any _ _ _).mono ?_; rintro e w' ⟨rfl, rfl⟩) | (go_at_call 20; refine (mul_any _ _ _).mono ?_; rintro e w' ⟨rfl, rfl⟩) | (go_at_call 11; refine (alive_any _).mono ?_; rintro e w2 ⟨rfl, hb2⟩))
  go_ret
  exact ⟨rfl, ((((Below.refl _ _).alloc (Nat.le_refl _) _).alloc (by simp) _).trans (hb2.mono (by simp; omega))).alloc (by have := hb2.size; simp at this; omega) _⟩

theorem fixLaws_walk (a b c : Int) (w : World) :
    Calls Try.prog 6 #[.int .i64 a, .int .i64 b, .int .i64 c] w fun e w' => e = .returned (.bool true) ∧ Below w.heap.size w w' := by
  have y : ∀ {x : Int}, x ≠ 0 → (x != 0) = true := fun h => by simp [h]
  by_cases he : plusE a b = 0
  · obtain ⟨_, s1, s2⟩ := plus_ok he
    by_cases hj : mulE a c = 0
    · by_cases hk : mulE b c = 0
      · by_cases hl : mulE (plusV a b) c = 0
        · have h := distr he hj hk hl
          exact laws_m a b c w he s1 s2 hj hk hl h.1 h.2
        · exact laws_l a b c w he s1 s2 hj hk (y hl)
      · exact laws_k a b c w he s1 s2 hj (y hk)
    · exact laws_j a b c w he s1 s2 (y hj)
  · exact laws_no a b c w (y he)

end Go.Proofs.Ytelggbmobemnoaa
