/- Walks of layer 3: a constant read. -/
import Derived.Test.YtkjdigojajcgkaaGreatDoorSw7
import Derived.Test.YtkjdigojajcgkaaGreatDoorSr
import Derived.Test.YtkjdigojajcgkaaGreatDoorBd
import Derived.OwnWalk
namespace Go.Proofs.YtkjdigojajcgkaaGreatDoor
open Go.RowKit
open St
set_option linter.unusedVariables false
attribute [local go_sem] ext_mk size_mk toList_mk get_mk take_drop_len take_tail_len ByteArray.mk_append_mk

theorem ret_read {b c : List UInt8} {n m e f : Int} (h1 : b = c) (h2 : n = m) (h3 : e = f) : Ending.returned (.tuple #[.string ⟨b.toArray⟩, .int .i64 n, .int .i64 e]) = .returned (.tuple #[.string ⟨c.toArray⟩, .int .i64 m, .int .i64 f]) := by rw [h1, h2, h3]

theorem drop_tail (l : List UInt8) (k : Nat) : (l.drop k).tail = l.drop (k + 1) := by rw [List.tail_drop]

theorem rest_acc_le {l acc x : List UInt8} {k : Nat} (h : rest l k acc = (x, none)) : acc.length ≤ x.length := by
  unfold rest at h
  obtain ⟨y, h1, _⟩ := rd_acc _ _ _ 0 _ [] _ h
  rw [h1, List.length_append]; omega

set_option maxHeartbeats 4000000 in
set_option maxRecDepth 100000 in
theorem sread_any (l : List UInt8) (w : World) (he : ErrAt w) (hl : l.length ≤ 9223372036854770000) (hb : l.length ≤ 140737488351232 ∨ ∃ x, rdAll l = (x, none) ∧ x.length ≤ 65536) :
    Calls Tryz.prog 76 #[.string ⟨l.toArray⟩] w fun e w' => e = .returned (.tuple #[.string ⟨(readB l).toArray⟩, .int .i64 (readN l), .int .i64 (readE l)]) ∧ Below w.heap.size w w' := by
  have HErr := Lib.hid he
  have HBd := Lib.hid hb
  clear he hb
  go_enter Tryz.func76, Tryz.ntmps76
  go_wp2_with fail
  go_loopw [6] (fun vi wr => ∃ (k : Nat) (acc : List UInt8), vi = .int .i64 k ∧ k ≤ l.length ∧ acc.length ≤ k ∧ Bld w.heap.size w.heap.size acc wr ∧ Below w.heap.size w wr ∧ Hid (rdAll l = rest l k acc)) (fun vi _ => l.length - (intOf vi).toNat)
  case atStart => exact ⟨0, [], rfl, by omega, by simp, Bld.fresh w, (Below.refl _ _).alloc (Nat.le_refl _) _, Lib.hid (rest_start l)⟩
  case round =>
    obtain ⟨k, acc, rfl, hk, hacc, hbld, hbw, HR⟩ := hrel
    have hsz := hbw.size
    by_cases hlt : k < l.length
    · have hA : acc.length ≤ 140737488351231 := by
        rcases HBd.out with h | ⟨x, hx, h⟩
        · omega
        · have := rest_acc_le (HR.out.symm.trans hx); omega
      obtain ⟨x, hxl⟩ : ∃ x, l[k] = x := ⟨_, rfl⟩
      have hx : l[k]? = some x := by rw [List.getElem?_eq_getElem hlt, hxl]
      have HX := Lib.hid hx
      clear hx
      by_cases b1 : (x.toNat : Int) < 32
      · have hbad := bad_of (c := x) (.inl b1)
        have HE := Lib.hid (read_bad (HR.out.trans (rest_bad HX.out hbad)))
        clear hbad
        go_wp2
        go_ret3
        exact ⟨ret_read HE.out.1.symm HE.out.2.1.symm HE.out.2.2.symm, hbw⟩
      have c1 : decide ((x.toNat : Int) < 32) = false := decide_eq_false b1
      by_cases b2 : 126 < (x.toNat : Int)
      · have hbad := bad_of (c := x) (.inr (.inl b2))
        have HE := Lib.hid (read_bad (HR.out.trans (rest_bad HX.out hbad)))
        clear hbad
        go_wp2
        go_ret3
        exact ⟨ret_read HE.out.1.symm HE.out.2.1.symm HE.out.2.2.symm, hbw⟩
      have c2 : decide (126 < (x.toNat : Int)) = false := decide_eq_false b2
      by_cases b3 : (x.toNat : Int) = 34
      · have hbad := bad_of (c := x) (.inr (.inr b3))
        have k3 : ((x.toNat : Int) == 34) = true := by simp; omega
        clear b3
        have HE := Lib.hid (read_bad (HR.out.trans (rest_bad HX.out hbad)))
        clear hbad
        go_wp2
        go_ret3
        exact ⟨ret_read HE.out.1.symm HE.out.2.1.symm HE.out.2.2.symm, hbw⟩
      have c3 : ((x.toNat : Int) == 34) = false := by simp; omega
      have hgood := bad_not (c := x) (by omega)
      clear b3
      by_cases h92 : x = 92
      · subst h92
        have hs := said_any (l.drop k)
        cases hesc : esc (l.drop (k + 1)) with
        | none =>
          have hse := said_none (l := l.drop k) (by rw [drop_tail]; exact hesc)
          have HE := Lib.hid (read_bad (HR.out.trans (rest_no HX.out hesc)))
          rw [hse.1, hse.2] at hs
          have HS := Lib.hid hs
          clear hs hse hesc hgood
          go_wp2_with (go_at_call 93; refine (HS.out _ (HErr.out.below hbw) (by rw [List.length_drop]; omega)).mono ?_; rintro e w1 ⟨rfl, hb1⟩)
          go_ret3
          exact ⟨ret_read HE.out.1.symm HE.out.2.1.symm HE.out.2.2.symm, hbw.trans (hb1.mono hsz)⟩
        | some p =>
          obtain ⟨t, n⟩ := p
          have hse := said_some (l := l.drop k) (by rw [drop_tail]; exact hesc)
          have hel := esc_len hesc
          have HR2 := Lib.hid (HR.out.trans (rest_esc HX.out hesc))
          rw [hse.1, hse.2] at hs
          have HS := Lib.hid hs
          rw [List.length_drop] at hel
          obtain ⟨n1, n2, t1⟩ := hel
          clear hs hse hesc hgood
          have kn : ((n : Int) + 1 == 0) = false := by simp; omega
          go_wp2_with (go_at_call 93; refine (HS.out _ (HErr.out.below hbw) (by rw [List.length_drop]; omega)).mono ?_; rintro e w1 ⟨rfl, hb1⟩)
          have hsz1 := hb1.size
          have hbld1 : Bld w.heap.size w.heap.size acc w1 := hbld.below hb1
          have hbw1 := hbw.trans (hb1.mono hsz)
          go_wp2_with (go_at_call 36; refine (ws_any _ _ acc t _ hbld1 (by omega) (by omega)).mono ?_; rintro e w2 ⟨⟨v2, rfl⟩, hb2, hw2⟩)
          go_roundw
          case rel => exact ⟨k + 1 + n, acc ++ t, (by first | rfl | (congr 1; omega)), by omega, by simp; omega, hb2, hbw1.trans hw2, HR2⟩
          case measure => simp [intOf]; omega
      · have HR2 := Lib.hid (HR.out.trans (rest_plain HX.out hgood h92))
        have m92 : ((x.toNat : Int) == 92) = false := nbeq (y := 92) h92
        go_wp2_with (go_at_call 92; refine (wb_any _ _ acc x _ hbld (by omega) hsz).mono ?_; rintro e w1 ⟨rfl, hb1, hw1⟩)
        go_roundw
        case rel => exact ⟨k + 1, acc ++ [x], by go_num, by omega, by simp; omega, hb1, hbw.trans hw1, HR2⟩
        case measure => simp [intOf]; omega
    · obtain rfl : k = l.length := by omega
      have HF := Lib.hid (HR.out.trans (rest_end (Nat.le_refl _)))
      by_cases ho : 65536 < acc.length
      · have HE := Lib.hid (read_long HF.out ho)
        go_wp2_with (go_at_call 41; refine (wlen_any _ _ acc _ hbld).mono ?_; rintro e w' ⟨rfl, rfl⟩)
        go_ret3
        exact ⟨ret_read HE.out.1.symm HE.out.2.1.symm HE.out.2.2.symm, hbw⟩
      · have HE := Lib.hid (read_fine HF.out (by omega))
        go_wp2_with (first | (go_at_call 41; refine (wlen_any _ _ acc _ hbld).mono ?_; rintro e w' ⟨rfl, rfl⟩) | (go_at_call 38; refine (wstr_any _ _ acc _ hbld hsz).mono ?_; rintro e w1 ⟨rfl, hb1, hw1⟩))
        go_ret3
        exact ⟨ret_read HE.out.1.symm HE.out.2.1.symm HE.out.2.2.symm, hbw.trans hw1⟩
end Go.Proofs.YtkjdigojajcgkaaGreatDoor
