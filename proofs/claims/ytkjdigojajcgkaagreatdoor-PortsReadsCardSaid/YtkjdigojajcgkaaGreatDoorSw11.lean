/- Walks of layer 3: a constant read, in the reference. -/
import Derived.Test.YtkjdigojajcgkaaGreatDoorSw9
import Derived.Test.YtkjdigojajcgkaaGreatDoorSw8
import Derived.Test.YtkjdigojajcgkaaGreatDoorBy
import Derived.Test.YtkjdigojajcgkaaGreatDoorAp
namespace Go.Proofs.YtkjdigojajcgkaaGreatDoor
open Go.RowKit
open St
set_option linter.unusedVariables false
attribute [local go_sem] ext_mk size_mk toList_mk get_mk take_drop_len take_tail_len ByteArray.mk_append_mk

set_option maxHeartbeats 4000000 in
set_option maxRecDepth 100000 in
theorem sref_read_any (l : List UInt8) (w : World) (hl : l.length ≤ 140737488351232) :
    Calls Tryz.prog 28 #[.string ⟨l.toArray⟩] w fun e w' => e = .returned (.tuple #[.string ⟨(readB l).toArray⟩, .int .i64 (readN l), .int .i64 (readE l)]) ∧ Below w.heap.size w w' := by
  go_enter Tryz.func28, Tryz.ntmps28
  go_wp2_with fail
  go_loopw [5, 6] (fun vb vi wr => ∃ (k : Nat) (acc : List UInt8), vi = .int .i64 k ∧ k ≤ l.length ∧ acc.length ≤ k ∧ OwnB wr w.heap.size vb acc ∧ Below w.heap.size w wr ∧ Hid (rdAll l = rest l k acc)) (fun _ vi _ => l.length - (intOf vi).toNat)
  case atStart => exact ⟨0, [], rfl, by omega, by simp, OwnB.nil _ _, Below.refl _ _, Lib.hid (rest_start l)⟩
  case round =>
    obtain ⟨k, acc, rfl, hk, hacc, hown, hbw, HR⟩ := hrel
    have hsz := hbw.size
    by_cases hlt : k < l.length
    · obtain ⟨x, hxl⟩ : ∃ x, l[k] = x := ⟨_, rfl⟩
      have hx : l[k]? = some x := by rw [List.getElem?_eq_getElem hlt, hxl]
      have HX := Lib.hid hx
      clear hx
      by_cases b1 : (x.toNat : Int) < 32
      · have hbad := bad_of (c := x) (.inl b1)
        have HE := Lib.hid (read_bad (HR.out.trans (rest_bad HX.out hbad)))
        clear hbad
        go_wp2
        go_ret3
        exact ⟨ret_read HE.out.1.symm HE.out.2.1.symm HE.out.2.2.symm, hbw⟩
      have c1 : decide ((x.toNat : Int) < 32) = false := decide_eq_false b1
      by_cases b2 : 126 < (x.toNat : Int)
      · have hbad := bad_of (c := x) (.inr (.inl b2))
        have HE := Lib.hid (read_bad (HR.out.trans (rest_bad HX.out hbad)))
        clear hbad
        go_wp2
        go_ret3
        exact ⟨ret_read HE.out.1.symm HE.out.2.1.symm HE.out.2.2.symm, hbw⟩
      have c2 : decide (126 < (x.toNat : Int)) = false := decide_eq_false b2
      by_cases b3 : (x.toNat : Int) = 34
      · have hbad := bad_of (c := x) (.inr (.inr b3))
        have k3 : ((x.toNat : Int) == 34) = true := by simp; omega
        clear b3
        have HE := Lib.hid (read_bad (HR.out.trans (rest_bad HX.out hbad)))
        clear hbad
        go_wp2
        go_ret3
        exact ⟨ret_read HE.out.1.symm HE.out.2.1.symm HE.out.2.2.symm, hbw⟩
      have c3 : ((x.toNat : Int) == 34) = false := by simp; omega
      have hgood := bad_not (c := x) (by omega)
      clear b3
      by_cases h92 : x = 92
      · subst h92
        have hs := fun W => resc_any l (k + 1) W (by omega) (by omega)
        rw [show (((k + 1 : Nat)) : Int) = (k : Int) + 1 by omega] at hs
        cases hesc : esc (l.drop (k + 1)) with
        | none =>
          have HE := Lib.hid (read_bad (HR.out.trans (rest_no HX.out hesc)))
          have hv := vn_none hesc
          rw [hv.1, hv.2] at hs
          have HS := Lib.hid hs
          clear hs hesc hgood hv
          go_wp2_with (go_at_call 49; refine (HS.out _).mono ?_; rintro e w1 ⟨rfl, rfl⟩)
          go_ret3
          exact ⟨ret_read HE.out.1.symm HE.out.2.1.symm HE.out.2.2.symm, hbw⟩
        | some p =>
          obtain ⟨t, n⟩ := p
          have hel := esc_len hesc
          have HR2 := Lib.hid (HR.out.trans (rest_esc HX.out hesc))
          rw [List.length_drop] at hel
          obtain ⟨n1, n2, t1⟩ := hel
          have kn : ((n : Int) == 0) = false := by simp; omega
          rcases (by cases t with | nil => exact .inl rfl | cons b t => cases t with | nil => exact .inr ⟨b, rfl⟩ | cons c t => simp at t1 : t = [] ∨ ∃ b, t = [b]) with rfl | ⟨b, rfl⟩
          · have hv := vn_gap hesc
            rw [hv.1, hv.2] at hs
            have HS := Lib.hid hs
            clear hs hesc hgood hv
            go_wp2_with (go_at_call 49; refine (HS.out _).mono ?_; rintro e w1 ⟨rfl, rfl⟩)
            go_roundw
            case rel => exact ⟨k + 1 + n, acc, (by first | rfl | (congr 1; omega)), by omega, by omega, hown, hbw, by simpa using HR2⟩
            case measure => simp [intOf]; omega
          · have hv := vn_some (v := b.toNat) (by rw [ofNat_toNat']; exact hesc) (by have := b.toNat_lt; omega)
            rw [hv.1, hv.2] at hs
            have HS := Lib.hid hs
            have hb256 := nbd b
            clear hs hesc hgood hv
            go_wp2_with (first | (go_at_call 49; refine (HS.out _).mono ?_; rintro e w1 ⟨rfl, rfl⟩) | (at_builtin; refine app_one hown rfl _ _ rfl b _ rfl rfl (by omega) hsz ?_; intro v' w1 hown1 hb1))
            go_roundw
            case rel => exact ⟨k + 1 + n, acc ++ [b], (by first | rfl | (congr 1; omega)), by omega, by simp; omega, hown1, hbw.trans hb1, HR2⟩
            case measure => simp [intOf]; omega
      · have HR2 := Lib.hid (HR.out.trans (rest_plain HX.out hgood h92))
        have m92 : ((x.toNat : Int) == 92) = false := nbeq (y := 92) h92
        go_wp2_with (at_builtin; refine app_one hown rfl _ _ rfl x _ rfl rfl (by omega) hsz ?_; intro v' w1 hown1 hb1)
        go_roundw
        case rel => exact ⟨k + 1, acc ++ [x], by go_num, by omega, by simp; omega, hown1, hbw.trans hb1, HR2⟩
        case measure => simp [intOf]; omega
    · obtain rfl : k = l.length := by omega
      have HF := Lib.hid (HR.out.trans (rest_end (Nat.le_refl _)))
      have hcv := conv_own hown
      by_cases ho : 65536 < acc.length
      · have HE := Lib.hid (read_long HF.out ho)
        rcases hown.2 with ⟨rfl, h0⟩ | ⟨g, cap, cur, rfl, _⟩
        · omega
        go_wp2_with fail
        go_ret3
        exact ⟨ret_read HE.out.1.symm HE.out.2.1.symm HE.out.2.2.symm, hbw⟩
      · have HE := Lib.hid (read_fine HF.out (by omega))
        rcases hown.2 with ⟨rfl, h0⟩ | ⟨g, cap, cur, rfl, _⟩
        · go_wp2_with fail
          go_ret3
          exact ⟨ret_read HE.out.1.symm HE.out.2.1.symm HE.out.2.2.symm, hbw⟩
        · go_wp2_with fail
          go_ret3
          exact ⟨ret_read HE.out.1.symm HE.out.2.1.symm HE.out.2.2.symm, hbw⟩
end Go.Proofs.YtkjdigojajcgkaaGreatDoor
