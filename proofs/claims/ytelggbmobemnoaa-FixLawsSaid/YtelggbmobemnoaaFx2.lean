/- Plain laws of layer 1: quotient, divisor and rest. -/
import Derived.Test.YtelggbmobemnoaaFx
namespace Go.Proofs.Ytelggbmobemnoaa.Fx
theorem flr_sign {a b : Int} (h0 : b ≠ 0) : (0 < b → 0 ≤ flrR a b ∧ flrR a b < b) ∧ (b < 0 → b < flrR a b ∧ flrR a b ≤ 0) := by
  have h := tmod_bd' a h0
  constructor
  · intro hb
    rw [amt_pos (by omega)] at h
    rw [flrR_alt]
    by_cases h1 : a.tmod b = 0
    · simp [h1]; omega
    · by_cases h2 : a.tmod b < 0
      · have h3 : ¬ b < 0 := by omega
        simp [h1, h2, h3]; omega
      · have h3 : ¬ b < 0 := by omega
        simp [h2, h3]; omega
  · intro hb
    rw [amt_neg hb] at h
    rw [flrR_alt]
    by_cases h1 : a.tmod b = 0
    · simp [h1]; omega
    · by_cases h2 : a.tmod b < 0
      · simp [h2, hb]; omega
      · simp [h1, h2, hb]; omega
theorem flr_mul (a b : Int) : flrQ a b * b + flrR a b = a := by
  have h := Int.tdiv_mul_add_tmod a b
  unfold flrQ flrR
  split
  · rw [Int.sub_mul, Int.one_mul]; omega
  · exact h
/-- beyond the numbers: one division alone -/
theorem tdiv_over {a b : Int} (ha : rtB a = true) (h0 : b ≠ 0) (h : rtB (a.tdiv b) = false) : a = -4611686018427387904 ∧ b = -1 := by
  have h1 := tdiv_bd ha h0
  have h2 := rtB_no h
  have h3 : a.tdiv b = 4611686018427387904 := by omega
  have h4 := amt_le ha
  have h5 := amt_nn a
  have h6 := amt_1 h0
  rw [tdiv_amt] at h3
  have h7 := div_amt_bd ha h0
  split at h3
  · omega
  · next hs =>
    have h8 := Int.ediv_mul_le (amt a) (by omega : amt b ≠ 0)
    have h9 : amt b = 1 := by
      by_cases g : amt b = 1
      · exact g
      · have := Int.mul_le_mul_of_nonneg_left (by omega : 2 ≤ amt b) h7.1
        rw [h3] at h8 this; omega
    have h10 : amt a = 4611686018427387904 := by rw [h9, Int.ediv_one] at h3; exact h3
    have a1 : a < 0 := by
      by_cases g : a < 0
      · exact g
      · rw [amt_pos (by omega)] at h10; have := rtB_hi ha; omega
    have b1 : b < 0 := by
      by_cases g : b < 0
      · exact g
      · simp [a1, g] at hs
    rw [amt_neg a1] at h10
    rw [amt_neg b1] at h9
    omega
theorem flr_tdiv_small {a b : Int} (ha : rtB a = true) (h0 : b ≠ 0) (h : a.tmod b ≠ 0) : -2305843009213693952 ≤ a.tdiv b ∧ a.tdiv b ≤ 2305843009213693952 := by
  have h6 := amt_1 h0
  have h4 := amt_le ha
  have h7 := div_amt_bd ha h0
  have h8 := Int.ediv_mul_le (amt a) (by omega : amt b ≠ 0)
  have h9 : 2 ≤ amt b := by
    by_cases g : amt b = 1
    · rw [tmod_amt, g, Int.emod_one] at h; simp at h
    · omega
  have := Int.mul_le_mul_of_nonneg_left h9 h7.1
  rw [tdiv_amt]; split <;> omega
theorem out_same {a b : Int} (ha : rtB a = true) (h0 : b ≠ 0) : outE (flrQ a b) = outE (a.tdiv b) := by
  by_cases h : a.tmod b = 0
  · have : flrQ a b = a.tdiv b := by unfold flrQ; rw [if_neg]; rintro ⟨h1, _⟩; exact h1 h
    rw [this]
  · have h1 := flr_tdiv_small ha h0 h
    have h2 : rtB (a.tdiv b) = true := rtB_t (by omega) (by omega)
    have h3 : rtB (flrQ a b) = true := by unfold flrQ; split <;> exact rtB_t (by omega) (by omega)
    rw [outE_t h2, outE_t h3]
theorem divE_quotE (a b : Int) : divE a b = quotE a b := by
  unfold divE quotE
  rcases fxask_cases a b with ⟨hk, ha, hb, h0⟩ | ⟨hk, _⟩ | ⟨hk, _⟩
  · rw [if_pos hk, if_pos hk, out_same ha h0]
  · simp [hk]
  · simp [hk]
/-- all that is to be known of quotients and rests -/
theorem rests {a b : Int} (hk : askE a b = 0) (ha : rtB a = true) (hb : rtB b = true) (h0 : b ≠ 0) :
    (0 < b → 0 ≤ modV a b ∧ modV a b < b) ∧ (b < 0 → b < modV a b ∧ modV a b ≤ 0) ∧ (- amt b < remV a b ∧ remV a b < amt b) ∧ (remV a b < 0 → a < 0) ∧ (0 < remV a b → 0 ≤ a) ∧
    ((quotE a b = 0 ∧ divV a b * b + modV a b = a ∧ quotV a b * b + remV a b = a) ∨ (quotE a b = 10 ∧ b = -1 ∧ modV a b = 0 ∧ remV a b = 0)) := by
  have h1 := flr_sign (a := a) h0
  have h2 := tmod_bd' a h0
  have h3 := tmod_sign a b
  have em : modV a b = flrR a b := if_pos hk
  have er : remV a b = a.tmod b := if_pos hk
  have ed : divV a b = outV (flrQ a b) := if_pos hk
  have eq : quotV a b = outV (a.tdiv b) := if_pos hk
  have ee : quotE a b = outE (a.tdiv b) := if_pos hk
  rw [em, er, ed, eq, ee]
  refine ⟨h1.1, h1.2, h2, h3.1, h3.2, ?_⟩
  cases hr : rtB (a.tdiv b)
  · obtain ⟨rfl, rfl⟩ := tdiv_over ha h0 hr
    exact .inr ⟨by decide, rfl, by decide, by decide⟩
  · have hr2 : rtB (flrQ a b) = true := by
      have := out_same ha h0
      rw [outE_t hr] at this
      cases hf : rtB (flrQ a b)
      · rw [outE_f hf] at this; omega
      · rfl
    rw [outV_t hr, outV_t hr2, outE_t hr]
    exact .inl ⟨rfl, flr_mul a b, Int.tdiv_mul_add_tmod a b⟩
/-- a sum of two -/
def plusV (a b : Int) : Int := if twoE a b = 0 then outV (a + b) else 0
def plusE (a b : Int) : Int := if twoE a b = 0 then outE (a + b) else 1
theorem add_pair (a b : Int) : addV [a, b] = plusV a b ∧ addE [a, b] = plusE a b := by
  cases h : rtB a <;> cases g : rtB b
  · simp [addV, addE, plusV, plusE, twoE, h, g]
  · simp [addV, addE, plusV, plusE, twoE, h, g]
  · simp [addV, addE, plusV, plusE, twoE, h, g]
  · cases k : rtB (a + b) <;> simp [addV, addE, plusV, plusE, twoE, sumS, outV, outE, h, g, k]
theorem two_comm (a b : Int) : twoE a b = twoE b a := by unfold twoE; rw [Bool.and_comm]
theorem plus_comm (a b : Int) : plusV b a = plusV a b ∧ plusE b a = plusE a b := by unfold plusV plusE; rw [two_comm, Int.add_comm]; exact ⟨rfl, rfl⟩
theorem mul_comm' (a b : Int) : mulV b a = mulV a b ∧ mulE b a = mulE a b := by unfold mulV mulE; rw [two_comm, Int.mul_comm]; exact ⟨rfl, rfl⟩
theorem plus_ok {a b : Int} (h : plusE a b = 0) : plusV a b = a + b ∧ subV (plusV a b) b = a ∧ subE (plusV a b) b = 0 := by
  unfold plusE at h
  rcases two_cases a b with ⟨ht, ha, hb⟩ | ⟨ht, _⟩
  · rw [if_pos ht] at h
    have hr : rtB (a + b) = true := by
      cases hr : rtB (a + b)
      · rw [outE_f hr] at h; omega
      · rfl
    have e : plusV a b = a + b := by unfold plusV; rw [if_pos ht, outV_t hr]
    have h3 : twoE (a + b) b = 0 := by simp [twoE, hr, hb]
    have h4 : a + b - b = a := by omega
    rw [e]
    unfold subV subE
    rw [if_pos h3, if_pos h3, h4, outV_t ha, outE_t ha]
    exact ⟨rfl, rfl, rfl⟩
  · rw [ht] at h; simp at h
theorem mul_ok {a b : Int} (h : mulE a b = 0) : mulV a b = a * b ∧ rtB (a * b) = true := by
  unfold mulE at h
  rcases two_cases a b with ⟨ht, ha, hb⟩ | ⟨ht, _⟩
  · rw [if_pos ht] at h
    have hr : rtB (a * b) = true := by
      cases hr : rtB (a * b)
      · rw [outE_f hr] at h; omega
      · rfl
    exact ⟨by unfold mulV; rw [if_pos ht, outV_t hr], hr⟩
  · rw [ht] at h; simp at h
theorem distr {a b c : Int} (h : plusE a b = 0) (h1 : mulE a c = 0) (h2 : mulE b c = 0) (h3 : mulE (plusV a b) c = 0) :
    plusV (mulV a c) (mulV b c) = mulV (plusV a b) c ∧ plusE (mulV a c) (mulV b c) = 0 := by
  have e := plus_ok h
  have m1 := mul_ok h1
  have m2 := mul_ok h2
  have m3 := mul_ok h3
  rw [m1.1, m2.1, m3.1]
  rw [e.1] at m3 ⊢
  rw [Int.add_mul] at m3 ⊢
  have ht : twoE (a * c) (b * c) = 0 := by simp [twoE, m1.2, m2.2]
  unfold plusV plusE
  rw [if_pos ht, if_pos ht, outV_t m3.2, outE_t m3.2]
  exact ⟨rfl, rfl⟩
end Go.Proofs.Ytelggbmobemnoaa.Fx
