/- The laws FixTexts and FixBack, walked. -/
import Derived.Test.YtelggbmobemnoaaDoorFw6
import Derived.Test.YtelggbmobemnoaaDoorFw8
import Derived.Test.YtelggbmobemnoaaDoorFw11
import Derived.Test.YtelggbmobemnoaaDoorFw13
namespace Go.Proofs.YtelggbmobemnoaaDoor
open Go.RowKit
open Fx
set_option linter.unusedVariables false
attribute [local go_sem] ext_mk size_mk toList_mk get_mk take_drop_len take_tail_len ByteArray.mk_append_mk

theorem textE_bd (a : Int) : 0 ≤ textE a ∧ textE a ≤ 1 := by unfold textE; split <;> omega

set_option maxHeartbeats 400000 in
theorem fixTexts_walk (a : Int) (w : World) (h : TextVars w) :
    Calls Tryd.prog 4 #[.int .i64 a] w fun e w' => e = .returned (.bool true) ∧ Below w.heap.size w w' := by
  have ⟨b1, b2⟩ := textE_bd a
  have H := Lib.hid h
  clear h
  go_enter Tryd.func4, Tryd.ntmps4
  go_wp2_with (first | (go_at_call 9; refine (text_any _ _ H.out).mono ?_; rintro e w1 ⟨rfl, hb1⟩) | (go_at_call 10; refine (rtext_any _ _).mono ?_; rintro e w' ⟨rfl, rfl⟩) | (go_at_call 8; refine (alive_any _).mono ?_; rintro e w2 ⟨rfl, hb2⟩))
  go_ret
  exact ⟨rfl, hb1.trans (hb2.mono hb1.size)⟩

theorem constant_text {a : Int} (ha : rtB a = true) (w : World) :
    Calls Tryd.prog 12 #[.string ⟨(textB a).toArray⟩] w fun e w' => e = .returned (.tuple #[.int .i64 a, .int .i64 0]) ∧ Below w.heap.size w w' := by
  have h := constant_any (textB a) w (by have := text_len a; omega)
  rw [(con_text ha).1, (con_text ha).2] at h
  exact h

theorem scan_of_text {a : Int} {r : List UInt8} (ha : rtB a = true) (hr : ∀ x, r[0]? = some x → isD 10 x = false) (hl : r.length ≤ 140737488351232) (w : World) :
    Calls Tryd.prog 6 #[.string ⟨(32 :: 9 :: (textB a ++ r)).toArray⟩] w fun e w' => e = .returned (.tuple #[.int .i64 a, .int .i64 ((textB a).length + 2), .int .i64 0]) ∧ Below w.heap.size w w' := by
  have h := scan_any (32 :: 9 :: (textB a ++ r)) w (by have := text_len a; simp; omega)
  have e := scan_text ha hr
  rw [e.1, e.2.1, e.2.2] at h
  exact h

set_option maxHeartbeats 400000 in
theorem back_nil (a : Int) (w : World) (h : TextVars w) (ha : rtB a = true) :
    Calls Tryd.prog 5 #[.int .i64 a, .string ⟨([] : List UInt8).toArray⟩] w fun e w' => e = .returned (.bool true) ∧ Below w.heap.size w w' := by
  obtain ⟨r, hrn⟩ : ∃ r : List UInt8, r = [] := ⟨_, rfl⟩
  have hr : ∀ x, r[0]? = some x → isD 10 x = false := fun x hx => by rw [hrn] at hx; cases hx
  have hl : r.length ≤ 140737488351232 := by rw [hrn]; simp
  have hz : r.length = 0 := by rw [hrn]; rfl
  rw [← hrn]
  clear hrn
  have H := Lib.hid h
  have ht := text_len a
  have he := (show textE a = 0 by simp [textE, ha])
  have HSC := Lib.hid (fun W : World => scan_of_text (r := r) ha hr hl W)
  clear h hr
  go_enter Tryd.func5, Tryd.ntmps5
  go_wp2_with (first | (go_at_call 9; refine (text_any _ _ H.out).mono ?_; rintro e w1 ⟨rfl, hb1⟩) | (go_at_call 12; refine (constant_text ha _).mono ?_; rintro e w2 ⟨rfl, hb2⟩) | (go_at_call 6; refine (HSC.out _).mono ?_; rintro e w3 ⟨rfl, hb3⟩) | (go_at_call 8; refine (alive_any _).mono ?_; rintro e w4 ⟨rfl, hb4⟩))
  go_ret
  exact ⟨rfl, ((hb1.trans (hb2.mono hb1.size)).trans (hb3.mono (Nat.le_trans hb1.size hb2.size))).trans (hb4.mono (Nat.le_trans hb1.size (Nat.le_trans hb2.size hb3.size)))⟩

set_option maxHeartbeats 400000 in
theorem back_lo (a : Int) (r : List UInt8) (w : World) (h : TextVars w) (ha : rtB a = true) (hl : r.length ≤ 140737488351232) (h0 : 0 < r.length) (hx : decide ((48 : Int) ≤ ((r[0]'h0).toNat : Int)) = false) (hr : ∀ x, r[0]? = some x → isD 10 x = false) :
    Calls Tryd.prog 5 #[.int .i64 a, .string ⟨r.toArray⟩] w fun e w' => e = .returned (.bool true) ∧ Below w.heap.size w w' := by
  have H := Lib.hid h
  have ht := text_len a
  have he := (show textE a = 0 by simp [textE, ha])
  have HSC := Lib.hid (fun W : World => scan_of_text (r := r) ha hr hl W)
  clear h hr
  go_enter Tryd.func5, Tryd.ntmps5
  go_wp2_with (first | (go_at_call 9; refine (text_any _ _ H.out).mono ?_; rintro e w1 ⟨rfl, hb1⟩) | (go_at_call 12; refine (constant_text ha _).mono ?_; rintro e w2 ⟨rfl, hb2⟩) | (go_at_call 6; refine (HSC.out _).mono ?_; rintro e w3 ⟨rfl, hb3⟩) | (go_at_call 8; refine (alive_any _).mono ?_; rintro e w4 ⟨rfl, hb4⟩))
  go_ret
  exact ⟨rfl, ((hb1.trans (hb2.mono hb1.size)).trans (hb3.mono (Nat.le_trans hb1.size hb2.size))).trans (hb4.mono (Nat.le_trans hb1.size (Nat.le_trans hb2.size hb3.size)))⟩

set_option maxHeartbeats 400000 in
theorem back_hi (a : Int) (r : List UInt8) (w : World) (h : TextVars w) (ha : rtB a = true) (hl : r.length ≤ 140737488351232) (h0 : 0 < r.length) (hx : decide ((48 : Int) ≤ ((r[0]'h0).toNat : Int)) = true) (hy : decide (((r[0]'h0).toNat : Int) ≤ (57 : Int)) = false) (hr : ∀ x, r[0]? = some x → isD 10 x = false) :
    Calls Tryd.prog 5 #[.int .i64 a, .string ⟨r.toArray⟩] w fun e w' => e = .returned (.bool true) ∧ Below w.heap.size w w' := by
  have H := Lib.hid h
  have ht := text_len a
  have he := (show textE a = 0 by simp [textE, ha])
  have HSC := Lib.hid (fun W : World => scan_of_text (r := r) ha hr hl W)
  clear h hr
  go_enter Tryd.func5, Tryd.ntmps5
  go_wp2_with (first | (go_at_call 9; refine (text_any _ _ H.out).mono ?_; rintro e w1 ⟨rfl, hb1⟩) | (go_at_call 12; refine (constant_text ha _).mono ?_; rintro e w2 ⟨rfl, hb2⟩) | (go_at_call 6; refine (HSC.out _).mono ?_; rintro e w3 ⟨rfl, hb3⟩) | (go_at_call 8; refine (alive_any _).mono ?_; rintro e w4 ⟨rfl, hb4⟩))
  go_ret
  exact ⟨rfl, ((hb1.trans (hb2.mono hb1.size)).trans (hb3.mono (Nat.le_trans hb1.size hb2.size))).trans (hb4.mono (Nat.le_trans hb1.size (Nat.le_trans hb2.size hb3.size)))⟩

set_option maxHeartbeats 400000 in
theorem back_digit (a : Int) (r : List UInt8) (w : World) (h : TextVars w) (ha : rtB a = true) (h0 : 0 < r.length) (hx : decide ((48 : Int) ≤ ((r[0]'h0).toNat : Int)) = true) (hy : decide (((r[0]'h0).toNat : Int) ≤ (57 : Int)) = true) (hl : r.length ≤ 140737488351232) :
    Calls Tryd.prog 5 #[.int .i64 a, .string ⟨r.toArray⟩] w fun e w' => e = .returned (.bool true) ∧ Below w.heap.size w w' := by
  have H := Lib.hid h
  have he := (show textE a = 0 by simp [textE, ha])
  clear h
  go_enter Tryd.func5, Tryd.ntmps5
  go_wp2_with (first | (go_at_call 9; refine (text_any _ _ H.out).mono ?_; rintro e w1 ⟨rfl, hb1⟩) | (go_at_call 12; refine (constant_text ha _).mono ?_; rintro e w2 ⟨rfl, hb2⟩) | (go_at_call 8; refine (alive_any _).mono ?_; rintro e w4 ⟨rfl, hb4⟩))
  go_ret
  exact ⟨rfl, (hb1.trans (hb2.mono hb1.size)).trans (hb4.mono (Nat.le_trans hb1.size hb2.size))⟩

set_option maxHeartbeats 400000 in
theorem back_err (a : Int) (r : List UInt8) (w : World) (h : TextVars w) (ha : rtB a = false) :
    Calls Tryd.prog 5 #[.int .i64 a, .string ⟨r.toArray⟩] w fun e w' => e = .returned (.bool true) ∧ Below w.heap.size w w' := by
  have H := Lib.hid h
  have he := (show textE a = 1 by simp [textE, ha])
  clear h
  go_enter Tryd.func5, Tryd.ntmps5
  go_wp2_with (first | (go_at_call 9; refine (text_any _ _ H.out).mono ?_; rintro e w1 ⟨rfl, hb1⟩) | (go_at_call 11; refine (right_any _ _).mono ?_; rintro e w' ⟨rfl, rfl⟩) | (go_at_call 8; refine (alive_any _).mono ?_; rintro e w4 ⟨rfl, hb4⟩))
  go_ret
  exact ⟨rfl, hb1.trans (hb4.mono hb1.size)⟩

theorem fixBack_walk (a : Int) (r : List UInt8) (w : World) (h : TextVars w) (hl : r.length ≤ 140737488351232) :
    Calls Tryd.prog 5 #[.int .i64 a, .string ⟨r.toArray⟩] w fun e w' => e = .returned (.bool true) ∧ Below w.heap.size w w' := by
  cases ha : rtB a
  · exact back_err a r w h ha
  · cases hr : r with
    | nil => exact back_nil a w h ha
    | cons x t =>
      rw [← hr]
      have h0 : 0 < r.length := by rw [hr]; simp
      have hx0 : r[0]'h0 = x := by simp [hr]
      have hd := isD10 x
      have hn : ∀ b : Bool, isD 10 x = b → ∀ y, r[0]? = some y → isD 10 y = b := fun b hb y hy => by rw [hr] at hy; cases hy; exact hb
      by_cases g : (48 : Int) ≤ (x.toNat : Int)
      · by_cases g' : (x.toNat : Int) ≤ 57
        · exact back_digit a r w h ha h0 (by rw [hx0]; exact decide_eq_true g) (by rw [hx0]; exact decide_eq_true g') hl
        · exact back_hi a r w h ha hl h0 (by rw [hx0]; exact decide_eq_true g) (by rw [hx0]; exact decide_eq_false g') (hn false (by rw [hd]; exact decide_eq_false (fun h => g' h.2)))
      · exact back_lo a r w h ha hl h0 (by rw [hx0]; exact decide_eq_false g) (hn false (by rw [hd]; exact decide_eq_false (fun h => g h.1)))
end Go.Proofs.YtelggbmobemnoaaDoor
