/- Walks of layer 1: constants, in the program. -/
import Derived.Test.YtkjdigojajcgkaaGreatDoorFw7
import Derived.Test.YtkjdigojajcgkaaGreatDoorShelf
import Derived.Deep.RegionWith
namespace Go.Proofs.YtkjdigojajcgkaaGreatDoor
open Go.RowKit
open Fx
set_option linter.unusedVariables false
attribute [local go_sem] ext_mk size_mk toList_mk get_mk take_drop_len take_tail_len

theorem cutPrefix_l (l p : List UInt8) (w : World) : Calls Tryz.prog 46 #[.string ⟨l.toArray⟩, .string ⟨p.toArray⟩] w fun e w' => e = .returned (.tuple #[.string ⟨(Lib.trimPrefix l p).toArray⟩, .bool (Lib.hasPrefix l p)]) ∧ w = w' :=
  (Tryz.strings_CutPrefix ⟨l.toArray⟩ ⟨p.toArray⟩ w).mono fun e w' ⟨he, hw⟩ => ⟨he, hw.symm⟩

theorem cut_sign (l : List UInt8) (w : World) : Calls Tryz.prog 46 #[.string ⟨l.toArray⟩, .string ⟨#[126]⟩] w fun e w' => e = .returned (.tuple #[.string ⟨(conRest l).toArray⟩, .bool (conSign l)]) ∧ w = w' := cutPrefix_l l [126] w

theorem cut_hex {r : List UInt8} (h : conHex r = true) (w : World) : Calls Tryz.prog 46 #[.string ⟨r.toArray⟩, .string ⟨#[48, 120]⟩] w fun e w' => e = .returned (.tuple #[.string ⟨(r.drop 2).toArray⟩, .bool true]) ∧ w = w' := by
  have := cutPrefix_l r [48, 120] w
  unfold conHex at h
  rw [h] at this
  rw [show Lib.trimPrefix r [48, 120] = r.drop 2 from by unfold Lib.trimPrefix; rw [if_pos h]; rfl] at this
  exact this

theorem cut_dec {r : List UInt8} (h : conHex r = false) (w : World) : Calls Tryz.prog 46 #[.string ⟨r.toArray⟩, .string ⟨#[48, 120]⟩] w fun e w' => e = .returned (.tuple #[.string ⟨r.toArray⟩, .bool false]) ∧ w = w' := by
  have := cutPrefix_l r [48, 120] w
  unfold conHex at h
  rw [h] at this
  rw [show Lib.trimPrefix r [48, 120] = r from by unfold Lib.trimPrefix; rw [h]; rfl] at this
  exact this

theorem conRest_le (l : List UInt8) : (conRest l).length ≤ l.length := Lib.trimPrefix_le _ _

def CutIs (l p r : List UInt8) (b : Bool) : Prop := ∀ W : World, Calls Tryz.prog 46 #[.string ⟨l.toArray⟩, .string ⟨p.toArray⟩] W fun e w' => e = .returned (.tuple #[.string ⟨r.toArray⟩, .bool b]) ∧ W = w'

def DigIs (B : Int) (d : List UInt8) (V : Int) (C : Nat) : Prop := ∀ W : World, Calls Tryz.prog 73 #[.string ⟨d.toArray⟩, .int .u64 B] W fun e w' => e = .returned (.tuple #[.int .u64 V, .int .i64 C]) ∧ Below W.heap.size W w'

set_option maxHeartbeats 400000 in
theorem core_hex_ok (l R D : List UInt8) (w : World) (b : Bool) (V : Int) (C : Nat) (h1 : Hid (CutIs l [126] R b)) (h2 : Hid (CutIs R [48, 120] D true)) (h3 : Hid (DigIs 16 D V C)) (v0 : 0 ≤ V) (v1 : V ≤ 4611686018427387905) (k1 : ((C : Int) == 0) = false) (k2 : decide (C < D.length) = false) :
    Calls Tryz.prog 47 #[.string ⟨l.toArray⟩] w fun e w' => e = .returned (.tuple #[.int .i64 (sgnV V b), .int .i64 (sgnE V b)]) ∧ Below w.heap.size w w' := by
  go_enter Tryz.func47, Tryz.ntmps47
  go_wp2_with fail
  refine (h1.out _).mono ?_
  rintro e w' ⟨rfl, rfl⟩
  go_wp2_with fail
  refine (h2.out _).mono ?_
  rintro e w' ⟨rfl, rfl⟩
  go_wp2_with fail
  refine (h3.out _).mono ?_
  rintro e w1 ⟨rfl, hb⟩
  go_wp2_with (go_at_call 74; refine (fsigned_any _ _ _ (by omega) (by omega)).mono ?_; rintro e w' ⟨rfl, rfl⟩)
  go_ret2
  exact ⟨rfl, hb⟩

set_option maxHeartbeats 400000 in
theorem core_hex_0 (l R D : List UInt8) (w : World) (b : Bool) (V : Int) (C : Nat) (h1 : Hid (CutIs l [126] R b)) (h2 : Hid (CutIs R [48, 120] D true)) (h3 : Hid (DigIs 16 D V C)) (v0 : 0 ≤ V) (v1 : V ≤ 4611686018427387905) (k1 : ((C : Int) == 0) = true) :
    Calls Tryz.prog 47 #[.string ⟨l.toArray⟩] w fun e w' => e = .returned (.tuple #[.int .i64 0, .int .i64 12]) ∧ Below w.heap.size w w' := by
  go_enter Tryz.func47, Tryz.ntmps47
  go_wp2_with fail
  refine (h1.out _).mono ?_
  rintro e w' ⟨rfl, rfl⟩
  go_wp2_with fail
  refine (h2.out _).mono ?_
  rintro e w' ⟨rfl, rfl⟩
  go_wp2_with fail
  refine (h3.out _).mono ?_
  rintro e w1 ⟨rfl, hb⟩
  go_wp2_with (go_at_call 74; refine (fsigned_any _ _ _ (by omega) (by omega)).mono ?_; rintro e w' ⟨rfl, rfl⟩)
  go_ret2
  exact ⟨rfl, hb⟩

set_option maxHeartbeats 400000 in
theorem core_hex_no (l R D : List UInt8) (w : World) (b : Bool) (V : Int) (C : Nat) (h1 : Hid (CutIs l [126] R b)) (h2 : Hid (CutIs R [48, 120] D true)) (h3 : Hid (DigIs 16 D V C)) (v0 : 0 ≤ V) (v1 : V ≤ 4611686018427387905) (k1 : ((C : Int) == 0) = false) (k2 : decide (C < D.length) = true) :
    Calls Tryz.prog 47 #[.string ⟨l.toArray⟩] w fun e w' => e = .returned (.tuple #[.int .i64 0, .int .i64 12]) ∧ Below w.heap.size w w' := by
  go_enter Tryz.func47, Tryz.ntmps47
  go_wp2_with fail
  refine (h1.out _).mono ?_
  rintro e w' ⟨rfl, rfl⟩
  go_wp2_with fail
  refine (h2.out _).mono ?_
  rintro e w' ⟨rfl, rfl⟩
  go_wp2_with fail
  refine (h3.out _).mono ?_
  rintro e w1 ⟨rfl, hb⟩
  go_wp2_with (go_at_call 74; refine (fsigned_any _ _ _ (by omega) (by omega)).mono ?_; rintro e w' ⟨rfl, rfl⟩)
  go_ret2
  exact ⟨rfl, hb⟩

set_option maxHeartbeats 400000 in
theorem core_dec_ok (l R D : List UInt8) (w : World) (b : Bool) (V : Int) (C : Nat) (h1 : Hid (CutIs l [126] R b)) (h2 : Hid (CutIs R [48, 120] R false)) (h3 : Hid (DigIs 10 R V C)) (v0 : 0 ≤ V) (v1 : V ≤ 4611686018427387905) (k1 : ((C : Int) == 0) = false) (k2 : decide (C < R.length) = false) :
    Calls Tryz.prog 47 #[.string ⟨l.toArray⟩] w fun e w' => e = .returned (.tuple #[.int .i64 (sgnV V b), .int .i64 (sgnE V b)]) ∧ Below w.heap.size w w' := by
  go_enter Tryz.func47, Tryz.ntmps47
  go_wp2_with fail
  refine (h1.out _).mono ?_
  rintro e w' ⟨rfl, rfl⟩
  go_wp2_with fail
  refine (h2.out _).mono ?_
  rintro e w' ⟨rfl, rfl⟩
  go_wp2_with fail
  refine (h3.out _).mono ?_
  rintro e w1 ⟨rfl, hb⟩
  go_wp2_with (go_at_call 74; refine (fsigned_any _ _ _ (by omega) (by omega)).mono ?_; rintro e w' ⟨rfl, rfl⟩)
  go_ret2
  exact ⟨rfl, hb⟩

set_option maxHeartbeats 400000 in
theorem core_dec_0 (l R D : List UInt8) (w : World) (b : Bool) (V : Int) (C : Nat) (h1 : Hid (CutIs l [126] R b)) (h2 : Hid (CutIs R [48, 120] R false)) (h3 : Hid (DigIs 10 R V C)) (v0 : 0 ≤ V) (v1 : V ≤ 4611686018427387905) (k1 : ((C : Int) == 0) = true) :
    Calls Tryz.prog 47 #[.string ⟨l.toArray⟩] w fun e w' => e = .returned (.tuple #[.int .i64 0, .int .i64 12]) ∧ Below w.heap.size w w' := by
  go_enter Tryz.func47, Tryz.ntmps47
  go_wp2_with fail
  refine (h1.out _).mono ?_
  rintro e w' ⟨rfl, rfl⟩
  go_wp2_with fail
  refine (h2.out _).mono ?_
  rintro e w' ⟨rfl, rfl⟩
  go_wp2_with fail
  refine (h3.out _).mono ?_
  rintro e w1 ⟨rfl, hb⟩
  go_wp2_with (go_at_call 74; refine (fsigned_any _ _ _ (by omega) (by omega)).mono ?_; rintro e w' ⟨rfl, rfl⟩)
  go_ret2
  exact ⟨rfl, hb⟩

set_option maxHeartbeats 400000 in
theorem core_dec_no (l R D : List UInt8) (w : World) (b : Bool) (V : Int) (C : Nat) (h1 : Hid (CutIs l [126] R b)) (h2 : Hid (CutIs R [48, 120] R false)) (h3 : Hid (DigIs 10 R V C)) (v0 : 0 ≤ V) (v1 : V ≤ 4611686018427387905) (k1 : ((C : Int) == 0) = false) (k2 : decide (C < R.length) = true) :
    Calls Tryz.prog 47 #[.string ⟨l.toArray⟩] w fun e w' => e = .returned (.tuple #[.int .i64 0, .int .i64 12]) ∧ Below w.heap.size w w' := by
  go_enter Tryz.func47, Tryz.ntmps47
  go_wp2_with fail
  refine (h1.out _).mono ?_
  rintro e w' ⟨rfl, rfl⟩
  go_wp2_with fail
  refine (h2.out _).mono ?_
  rintro e w' ⟨rfl, rfl⟩
  go_wp2_with fail
  refine (h3.out _).mono ?_
  rintro e w1 ⟨rfl, hb⟩
  go_wp2_with (go_at_call 74; refine (fsigned_any _ _ _ (by omega) (by omega)).mono ?_; rintro e w' ⟨rfl, rfl⟩)
  go_ret2
  exact ⟨rfl, hb⟩

theorem constant_any (l : List UInt8) (w : World) (hl : l.length ≤ 9223372036854775807) :
    Calls Tryz.prog 47 #[.string ⟨l.toArray⟩] w fun e w' => e = .returned (.tuple #[.int .i64 (conV l), .int .i64 (conE l)]) ∧ Below w.heap.size w w' := by
  have hr := conRest_le l
  have h1 : CutIs l [126] (conRest l) (conSign l) := cut_sign l
  cases hx : conHex (conRest l)
  · have h2 : CutIs (conRest l) [48, 120] (conRest l) false := cut_dec hx
    cases hk : conOk 10 (conRest l)
    · have he : conV l = 0 ∧ conE l = 12 := by
        constructor
        · unfold conV; simp [hx, hk]
        · unfold conE; simp [hx, hk]
      have h3 : DigIs 10 (conRest l) (satN (numV 10 (lead 10 (conRest l)))) (lead 10 (conRest l)).length := fun W => digits10 (conRest l) W (by omega)
      have hn := sat_bd (num_nn (B := 10) (by omega) (lead 10 (conRest l)))
      rw [he.1, he.2]
      rcases dig_no hk with hz | ⟨hlt, hz⟩
      · exact core_dec_0 l _ (conRest l) w _ _ _ h1 h2 h3 hn.1 hn.2 hz
      · exact core_dec_no l _ (conRest l) w _ _ _ h1 h2 h3 hn.1 hn.2 hz (decide_eq_true hlt)
    · have he : conV l = sgnV (numV 10 (conRest l)) (conSign l) ∧ conE l = sgnE (numV 10 (conRest l)) (conSign l) := by
        constructor
        · unfold conV; simp [hx, hk]
        · unfold conE; simp [hx, hk]
      obtain ⟨hd, hz⟩ := dig_ok hk
      have hs := sgn_sat (n := numV 10 (conRest l)) (conSign l)
      have h3 : DigIs 10 (conRest l) (satN (numV 10 (conRest l))) ((conRest l)).length := fun W => by have := digits10 (conRest l) W (by omega); rw [hd] at this; exact this
      have hn := sat_bd (num_nn (B := 10) (by omega) (conRest l))
      rw [he.1, he.2, ← hs.1, ← hs.2]
      exact core_dec_ok l _ (conRest l) w _ _ _ h1 h2 h3 hn.1 hn.2 hz (by simp)
  · have h2 : CutIs (conRest l) [48, 120] ((conRest l).drop 2) true := cut_hex hx
    cases hk : conOk 16 ((conRest l).drop 2)
    · have he : conV l = 0 ∧ conE l = 12 := by
        constructor
        · unfold conV; simp [hx, hk]
        · unfold conE; simp [hx, hk]
      have h3 : DigIs 16 ((conRest l).drop 2) (satN (numV 16 (lead 16 ((conRest l).drop 2)))) (lead 16 ((conRest l).drop 2)).length := fun W => digits16 ((conRest l).drop 2) W (by simp; omega)
      have hn := sat_bd (num_nn (B := 16) (by omega) (lead 16 ((conRest l).drop 2)))
      rw [he.1, he.2]
      rcases dig_no hk with hz | ⟨hlt, hz⟩
      · exact core_hex_0 l _ ((conRest l).drop 2) w _ _ _ h1 h2 h3 hn.1 hn.2 hz
      · exact core_hex_no l _ ((conRest l).drop 2) w _ _ _ h1 h2 h3 hn.1 hn.2 hz (decide_eq_true hlt)
    · have he : conV l = sgnV (numV 16 ((conRest l).drop 2)) (conSign l) ∧ conE l = sgnE (numV 16 ((conRest l).drop 2)) (conSign l) := by
        constructor
        · unfold conV; simp [hx, hk]
        · unfold conE; simp [hx, hk]
      obtain ⟨hd, hz⟩ := dig_ok hk
      have hs := sgn_sat (n := numV 16 ((conRest l).drop 2)) (conSign l)
      have h3 : DigIs 16 ((conRest l).drop 2) (satN (numV 16 ((conRest l).drop 2))) (((conRest l).drop 2)).length := fun W => by have := digits16 ((conRest l).drop 2) W (by simp; omega); rw [hd] at this; exact this
      have hn := sat_bd (num_nn (B := 16) (by omega) ((conRest l).drop 2))
      rw [he.1, he.2, ← hs.1, ← hs.2]
      exact core_hex_ok l _ ((conRest l).drop 2) w _ _ _ h1 h2 h3 hn.1 hn.2 hz (by simp)
end Go.Proofs.YtkjdigojajcgkaaGreatDoor
