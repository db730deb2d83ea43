/- Walks of layer 1: Scan, in the program. -/
import Derived.Test.YtelggbmobemnoaaDoorFw7
import Derived.Test.YtelggbmobemnoaaDoorFs
import Derived.Test.YtelggbmobemnoaaDoorShelf
import Derived.Shelf.Strings.SlTrimAscii
namespace Go.Proofs.YtelggbmobemnoaaDoor
open Go.RowKit
open Fx
set_option linter.unusedVariables false
attribute [local go_sem] ext_mk size_mk toList_mk get_mk take_drop_len take_tail_len

theorem trimLeft_ws (l : List UInt8) (w : World) : Calls Tryd.prog 13 #[.string ⟨l.toArray⟩, .string ⟨#[9, 10, 11, 12, 13, 32]⟩] w fun e w' => e = .returned (.string ⟨(rest1 l).toArray⟩) ∧ Below w.heap.size w w' := by
  have h := Any.strings_TrimLeft_laid Tryd.lays161 (by kernel_rfl) ⟨l.toArray⟩ ⟨[9, 10, 11, 12, 13, 32].toArray⟩ w (by decide) (by
    intro j b hj
    have hm := List.mem_of_getElem? hj
    simp at hm
    rcases hm with rfl | rfl | rfl | rfl | rfl | rfl <;> decide)
  rw [show Lib.trimLeftS (⟨l.toArray⟩ : ByteArray).data.toList (⟨[9, 10, 11, 12, 13, 32].toArray⟩ : ByteArray).data.toList = rest1 l from trim_ws l] at h
  exact h

theorem hasPrefix_l (r : List UInt8) (c : UInt8) (w : World) : Calls Tryd.prog 14 #[.string ⟨r.toArray⟩, .string ⟨#[c]⟩] w fun e w' => e = .returned (.bool (starts r c)) ∧ w = w' :=
  (Tryd.strings_HasPrefix ⟨r.toArray⟩ ⟨#[c]⟩ w).mono fun e w' ⟨he, hw⟩ => ⟨he, hw.symm⟩

set_option maxHeartbeats 400000 in
theorem scanc_tilde (l R : List UInt8) (w : World) (V C : Int) (hl : l.length ≤ 9223372036854775807) (hR : R.length ≤ l.length) (p1 : starts R 126 = true)
    (h1 : Hid (∀ W : World, Calls Tryd.prog 13 #[.string ⟨l.toArray⟩, .string ⟨#[9, 10, 11, 12, 13, 32]⟩] W fun e w' => e = .returned (.string ⟨R.toArray⟩) ∧ Below W.heap.size W w'))
    (h2 : Hid (∀ W : World, Calls Tryd.prog 15 #[.string ⟨(R.tail).toArray⟩, .int .u64 10] W fun e w' => e = .returned (.tuple #[.int .u64 V, .int .i64 C]) ∧ Below W.heap.size W w'))
    (v0 : 0 ≤ V) (v1 : V ≤ 4611686018427387905) (c0 : 0 ≤ C) (c1 : C ≤ ((R.length - 1 : Nat) : Int)) :
    (C = 0 → Calls Tryd.prog 6 #[.string ⟨l.toArray⟩] w fun e w' => e = .returned (.tuple #[.int .i64 0, .int .i64 0, .int .i64 12]) ∧ Below w.heap.size w w') ∧
    (C ≠ 0 → Calls Tryd.prog 6 #[.string ⟨l.toArray⟩] w fun e w' => e = .returned (.tuple #[.int .i64 (sgnV V true), .int .i64 ((l.length : Int) - ((R.length - 1 : Nat) : Int) + C), .int .i64 (sgnE V true)]) ∧ Below w.heap.size w w') := by
  have hr := starts_len p1
  constructor
  · rintro rfl
    go_enter Tryd.func6, Tryd.ntmps6
    go_wp2_with (first | (go_at_call 13; refine (h1.out _).mono ?_; rintro e w1 ⟨rfl, hb1⟩) | (go_at_call 14; refine (hasPrefix_l _ _ _).mono ?_; rintro e w' ⟨rfl, rfl⟩) | (go_at_call 15; refine (h2.out _).mono ?_; rintro e w2 ⟨rfl, hb2⟩))
    go_ret3
    exact ⟨rfl, hb1.trans (hb2.mono hb1.size)⟩
  · intro hC
    have k : (C == 0) = false := by simp [hC]
    clear hC
    go_enter Tryd.func6, Tryd.ntmps6
    go_wp2_with (first | (go_at_call 13; refine (h1.out _).mono ?_; rintro e w1 ⟨rfl, hb1⟩) | (go_at_call 14; refine (hasPrefix_l _ _ _).mono ?_; rintro e w' ⟨rfl, rfl⟩) | (go_at_call 15; refine (h2.out _).mono ?_; rintro e w2 ⟨rfl, hb2⟩) | (go_at_call 16; refine (fsigned_any _ _ _ (by omega) (by omega)).mono ?_; rintro e w' ⟨rfl, rfl⟩))
    go_ret3
    exact ⟨rfl, hb1.trans (hb2.mono hb1.size)⟩

set_option maxHeartbeats 400000 in
theorem scanc_minus (l R : List UInt8) (w : World) (V C : Int) (hl : l.length ≤ 9223372036854775807) (hR : R.length ≤ l.length) (p1 : starts R 126 = false) (p2 : starts R 45 = true)
    (h1 : Hid (∀ W : World, Calls Tryd.prog 13 #[.string ⟨l.toArray⟩, .string ⟨#[9, 10, 11, 12, 13, 32]⟩] W fun e w' => e = .returned (.string ⟨R.toArray⟩) ∧ Below W.heap.size W w'))
    (h2 : Hid (∀ W : World, Calls Tryd.prog 15 #[.string ⟨(R.tail).toArray⟩, .int .u64 10] W fun e w' => e = .returned (.tuple #[.int .u64 V, .int .i64 C]) ∧ Below W.heap.size W w'))
    (v0 : 0 ≤ V) (v1 : V ≤ 4611686018427387905) (c0 : 0 ≤ C) (c1 : C ≤ ((R.length - 1 : Nat) : Int)) :
    (C = 0 → Calls Tryd.prog 6 #[.string ⟨l.toArray⟩] w fun e w' => e = .returned (.tuple #[.int .i64 0, .int .i64 0, .int .i64 12]) ∧ Below w.heap.size w w') ∧
    (C ≠ 0 → Calls Tryd.prog 6 #[.string ⟨l.toArray⟩] w fun e w' => e = .returned (.tuple #[.int .i64 (sgnV V true), .int .i64 ((l.length : Int) - ((R.length - 1 : Nat) : Int) + C), .int .i64 (sgnE V true)]) ∧ Below w.heap.size w w') := by
  have hr := starts_len p2
  constructor
  · rintro rfl
    go_enter Tryd.func6, Tryd.ntmps6
    go_wp2_with (first | (go_at_call 13; refine (h1.out _).mono ?_; rintro e w1 ⟨rfl, hb1⟩) | (go_at_call 14; refine (hasPrefix_l _ _ _).mono ?_; rintro e w' ⟨rfl, rfl⟩) | (go_at_call 15; refine (h2.out _).mono ?_; rintro e w2 ⟨rfl, hb2⟩))
    go_ret3
    exact ⟨rfl, hb1.trans (hb2.mono hb1.size)⟩
  · intro hC
    have k : (C == 0) = false := by simp [hC]
    clear hC
    go_enter Tryd.func6, Tryd.ntmps6
    go_wp2_with (first | (go_at_call 13; refine (h1.out _).mono ?_; rintro e w1 ⟨rfl, hb1⟩) | (go_at_call 14; refine (hasPrefix_l _ _ _).mono ?_; rintro e w' ⟨rfl, rfl⟩) | (go_at_call 15; refine (h2.out _).mono ?_; rintro e w2 ⟨rfl, hb2⟩) | (go_at_call 16; refine (fsigned_any _ _ _ (by omega) (by omega)).mono ?_; rintro e w' ⟨rfl, rfl⟩))
    go_ret3
    exact ⟨rfl, hb1.trans (hb2.mono hb1.size)⟩

set_option maxHeartbeats 400000 in
theorem scanc_plus (l R : List UInt8) (w : World) (V C : Int) (hl : l.length ≤ 9223372036854775807) (hR : R.length ≤ l.length) (p1 : starts R 126 = false) (p2 : starts R 45 = false) (p3 : starts R 43 = true)
    (h1 : Hid (∀ W : World, Calls Tryd.prog 13 #[.string ⟨l.toArray⟩, .string ⟨#[9, 10, 11, 12, 13, 32]⟩] W fun e w' => e = .returned (.string ⟨R.toArray⟩) ∧ Below W.heap.size W w'))
    (h2 : Hid (∀ W : World, Calls Tryd.prog 15 #[.string ⟨(R.tail).toArray⟩, .int .u64 10] W fun e w' => e = .returned (.tuple #[.int .u64 V, .int .i64 C]) ∧ Below W.heap.size W w'))
    (v0 : 0 ≤ V) (v1 : V ≤ 4611686018427387905) (c0 : 0 ≤ C) (c1 : C ≤ ((R.length - 1 : Nat) : Int)) :
    (C = 0 → Calls Tryd.prog 6 #[.string ⟨l.toArray⟩] w fun e w' => e = .returned (.tuple #[.int .i64 0, .int .i64 0, .int .i64 12]) ∧ Below w.heap.size w w') ∧
    (C ≠ 0 → Calls Tryd.prog 6 #[.string ⟨l.toArray⟩] w fun e w' => e = .returned (.tuple #[.int .i64 (sgnV V false), .int .i64 ((l.length : Int) - ((R.length - 1 : Nat) : Int) + C), .int .i64 (sgnE V false)]) ∧ Below w.heap.size w w') := by
  have hr := starts_len p3
  constructor
  · rintro rfl
    go_enter Tryd.func6, Tryd.ntmps6
    go_wp2_with (first | (go_at_call 13; refine (h1.out _).mono ?_; rintro e w1 ⟨rfl, hb1⟩) | (go_at_call 14; refine (hasPrefix_l _ _ _).mono ?_; rintro e w' ⟨rfl, rfl⟩) | (go_at_call 15; refine (h2.out _).mono ?_; rintro e w2 ⟨rfl, hb2⟩))
    go_ret3
    exact ⟨rfl, hb1.trans (hb2.mono hb1.size)⟩
  · intro hC
    have k : (C == 0) = false := by simp [hC]
    clear hC
    go_enter Tryd.func6, Tryd.ntmps6
    go_wp2_with (first | (go_at_call 13; refine (h1.out _).mono ?_; rintro e w1 ⟨rfl, hb1⟩) | (go_at_call 14; refine (hasPrefix_l _ _ _).mono ?_; rintro e w' ⟨rfl, rfl⟩) | (go_at_call 15; refine (h2.out _).mono ?_; rintro e w2 ⟨rfl, hb2⟩) | (go_at_call 16; refine (fsigned_any _ _ _ (by omega) (by omega)).mono ?_; rintro e w' ⟨rfl, rfl⟩))
    go_ret3
    exact ⟨rfl, hb1.trans (hb2.mono hb1.size)⟩

set_option maxHeartbeats 400000 in
theorem scanc_none (l R : List UInt8) (w : World) (V C : Int) (hl : l.length ≤ 9223372036854775807) (hR : R.length ≤ l.length) (p1 : starts R 126 = false) (p2 : starts R 45 = false) (p3 : starts R 43 = false)
    (h1 : Hid (∀ W : World, Calls Tryd.prog 13 #[.string ⟨l.toArray⟩, .string ⟨#[9, 10, 11, 12, 13, 32]⟩] W fun e w' => e = .returned (.string ⟨R.toArray⟩) ∧ Below W.heap.size W w'))
    (h2 : Hid (∀ W : World, Calls Tryd.prog 15 #[.string ⟨(R).toArray⟩, .int .u64 10] W fun e w' => e = .returned (.tuple #[.int .u64 V, .int .i64 C]) ∧ Below W.heap.size W w'))
    (v0 : 0 ≤ V) (v1 : V ≤ 4611686018427387905) (c0 : 0 ≤ C) (c1 : C ≤ (R.length : Int)) :
    (C = 0 → Calls Tryd.prog 6 #[.string ⟨l.toArray⟩] w fun e w' => e = .returned (.tuple #[.int .i64 0, .int .i64 0, .int .i64 12]) ∧ Below w.heap.size w w') ∧
    (C ≠ 0 → Calls Tryd.prog 6 #[.string ⟨l.toArray⟩] w fun e w' => e = .returned (.tuple #[.int .i64 (sgnV V false), .int .i64 ((l.length : Int) - (R.length : Int) + C), .int .i64 (sgnE V false)]) ∧ Below w.heap.size w w') := by
  skip
  constructor
  · rintro rfl
    go_enter Tryd.func6, Tryd.ntmps6
    go_wp2_with (first | (go_at_call 13; refine (h1.out _).mono ?_; rintro e w1 ⟨rfl, hb1⟩) | (go_at_call 14; refine (hasPrefix_l _ _ _).mono ?_; rintro e w' ⟨rfl, rfl⟩) | (go_at_call 15; refine (h2.out _).mono ?_; rintro e w2 ⟨rfl, hb2⟩))
    go_ret3
    exact ⟨rfl, hb1.trans (hb2.mono hb1.size)⟩
  · intro hC
    have k : (C == 0) = false := by simp [hC]
    clear hC
    go_enter Tryd.func6, Tryd.ntmps6
    go_wp2_with (first | (go_at_call 13; refine (h1.out _).mono ?_; rintro e w1 ⟨rfl, hb1⟩) | (go_at_call 14; refine (hasPrefix_l _ _ _).mono ?_; rintro e w' ⟨rfl, rfl⟩) | (go_at_call 15; refine (h2.out _).mono ?_; rintro e w2 ⟨rfl, hb2⟩) | (go_at_call 16; refine (fsigned_any _ _ _ (by omega) (by omega)).mono ?_; rintro e w' ⟨rfl, rfl⟩))
    go_ret3
    exact ⟨rfl, hb1.trans (hb2.mono hb1.size)⟩

theorem scan_any (l : List UInt8) (w : World) (hl : l.length ≤ 9223372036854775807) :
    Calls Tryd.prog 6 #[.string ⟨l.toArray⟩] w fun e w' => e = .returned (.tuple #[.int .i64 (scanV l), .int .i64 (scanN l), .int .i64 (scanE l)]) ∧ Below w.heap.size w w' := by
  have h1 := Lib.hid (trimLeft_ws l)
  have hR := rest1_le l
  have hD := rest2_le l
  have h2 := Lib.hid (fun W : World => digits10 (rest2 l) W (by omega))
  have hn := sat_bd (num_nn (B := 10) (by omega) (lead 10 (rest2 l)))
  have hc := lead_le 10 (rest2 l)
  have hs := sgn_sat (n := numV 10 (lead 10 (rest2 l))) (scSign (rest1 l))
  have fin : ∀ (b : Bool) (T : Int), scSign (rest1 l) = b → T = ((rest2 l).length : Int) →
      (((lead 10 (rest2 l)).length : Int) = 0 → Calls Tryd.prog 6 #[.string ⟨l.toArray⟩] w fun e w' => e = .returned (.tuple #[.int .i64 0, .int .i64 0, .int .i64 12]) ∧ Below w.heap.size w w') ∧
      (((lead 10 (rest2 l)).length : Int) ≠ 0 → Calls Tryd.prog 6 #[.string ⟨l.toArray⟩] w fun e w' => e = .returned (.tuple #[.int .i64 (sgnV (satN (numV 10 (lead 10 (rest2 l)))) b), .int .i64 ((l.length : Int) - T + (lead 10 (rest2 l)).length), .int .i64 (sgnE (satN (numV 10 (lead 10 (rest2 l)))) b)]) ∧ Below w.heap.size w w') →
      Calls Tryd.prog 6 #[.string ⟨l.toArray⟩] w fun e w' => e = .returned (.tuple #[.int .i64 (scanV l), .int .i64 (scanN l), .int .i64 (scanE l)]) ∧ Below w.heap.size w w' := by
    intro b T hb hT ⟨c1, c2⟩
    by_cases h0 : lead 10 (rest2 l) = []
    · have := scan_none (l := l) h0
      rw [this.1, this.2.1, this.2.2]
      exact c1 (by rw [h0]; rfl)
    · have := scan_some (l := l) h0
      rw [this.1, this.2.1, this.2.2]
      unfold scD
      rw [← hs.1, ← hs.2, hb, ← hT]
      exact c2 (by have := List.length_pos_iff.2 h0; omega)
  cases p1 : starts (rest1 l) 126
  · cases p2 : starts (rest1 l) 45
    · cases p3 : starts (rest1 l) 43
      · have e : rest2 l = rest1 l := by unfold rest2 scSkip scSign; rw [p1, p2, p3]; rfl
        rw [e] at h2 hn hc fin
        exact fin false _ (by unfold scSign; rw [p1, p2]; rfl) rfl (scanc_none l (rest1 l) w _ _ hl hR p1 p2 p3 h1 h2 hn.1 hn.2 (by omega) (by omega))
      · have e : rest2 l = (rest1 l).tail := by unfold rest2 scSkip scSign; rw [p1, p2, p3]; simp
        have hlen : (rest2 l).length = (rest1 l).length - 1 := by rw [e]; simp
        rw [e] at h2 hn hc fin hlen
        exact fin false _ (by unfold scSign; rw [p1, p2]; rfl) (by rw [hlen]) (scanc_plus l (rest1 l) w _ _ hl hR p1 p2 p3 h1 h2 hn.1 hn.2 (by omega) (by omega))
    · have e : rest2 l = (rest1 l).tail := by unfold rest2 scSkip scSign; rw [p1, p2]; simp
      have hlen : (rest2 l).length = (rest1 l).length - 1 := by rw [e]; simp
      rw [e] at h2 hn hc fin hlen
      exact fin true _ (by unfold scSign; rw [p1, p2]; rfl) (by rw [hlen]) (scanc_minus l (rest1 l) w _ _ hl hR p1 p2 h1 h2 hn.1 hn.2 (by omega) (by omega))
  · have e : rest2 l = (rest1 l).tail := by unfold rest2 scSkip scSign; rw [p1]; simp
    have hlen : (rest2 l).length = (rest1 l).length - 1 := by rw [e]; simp
    rw [e] at h2 hn hc fin hlen
    exact fin true _ (by unfold scSign; rw [p1]; rfl) (by rw [hlen]) (scanc_tilde l (rest1 l) w _ _ hl hR p1 h1 h2 hn.1 hn.2 (by omega) (by omega))
end Go.Proofs.YtelggbmobemnoaaDoor
