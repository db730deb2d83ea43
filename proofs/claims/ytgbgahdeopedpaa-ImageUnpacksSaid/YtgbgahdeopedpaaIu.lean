/- Walks of layer 24: the check sum, on both sides. -/
import Derived.Test.YtgbgahdeopedpaaIt
namespace Go.Proofs.Ytgbgahdeopedpaa
open Go.RowKit
open Im
set_option linter.unusedVariables false

/-- At this address lie these bytes. -/
def BysAt (w : World) (a : Option Addr) (l : List UInt8) : Prop :=
  l.length ≤ maxLen ∧ (l = [] ∨ ∃ b off, a = some ⟨b, off, none⟩ ∧ b < w.heap.size ∧ ∀ i, i < l.length → w.cell? ⟨b, off + i, none⟩ = some (.int .u8 ((l.getD i 0).toNat : Int)))

theorem BysAt.below {w w' : World} {a : Option Addr} {l : List UInt8} (h : BysAt w a l) (hb : Below w.heap.size w w') : BysAt w' a l := by
  obtain ⟨hm, h | ⟨b, off, ha, hlt, hc⟩⟩ := h
  · exact ⟨hm, .inl h⟩
  · exact ⟨hm, .inr ⟨b, off, ha, Nat.lt_of_lt_of_le hlt hb.size, fun i hi => by rw [hb.cell (p := ⟨b, off + i, none⟩) hlt]; exact hc i hi⟩⟩

theorem bys_cell {w : World} {a : Option Addr} {l : List UInt8} (h : BysAt w a l) {k : Nat} (hk : k < l.length) : ∃ b off, a = some ⟨b, off, none⟩ ∧ b < w.heap.size ∧ w.cell? ⟨b, off + k, none⟩ = some (.int .u8 ((l[k]).toNat : Int)) := by
  rcases h.2 with h | ⟨b, off, ha, hb, hc⟩
  · rw [h] at hk; simp at hk
  · exact ⟨b, off, ha, hb, by have := hc k hk; simpa [List.getD, hk] using this⟩

theorem crc_next {l : List UInt8} {k : Nat} (h : k < l.length) : crc (l.take (k + 1)) = byT (crc (l.take k)) (l[k]).toNat := by
  rw [List.take_succ_eq_append_getElem h, crc_snoc]

theorem xor_all (x : Nat) (h : x < 4294967296) : 4294967295 ^^^ x = 4294967295 - x := by
  apply Nat.eq_of_testBit_eq
  intro i
  rw [Nat.testBit_xor, show (4294967295 : Nat) - x = 2 ^ 32 - (x + 1) by omega, Nat.testBit_two_pow_sub_succ (by omega), show (4294967295 : Nat) = 2 ^ 32 - 1 from rfl, Nat.testBit_two_pow_sub_one]
  by_cases hi : i < 32
  · simp [hi]
  · have : x.testBit i = false := Nat.testBit_lt_two_pow (Nat.lt_of_lt_of_le h (Nat.pow_le_pow_right (n := 2) (by decide) (show 32 ≤ i by omega)))
    simp [hi, this]

theorem u32_flip (x : Nat) (h : x < 4294967296) : bits .xor .u32 (IntKind.u32.max) (x : Int) = ((4294967295 - x : Nat) : Int) := by
  have := u32_xor_nat 4294967295 x (by decide) h
  rw [xor_all x h] at this
  exact this

set_option maxHeartbeats 2000000 in
set_option maxRecDepth 100000 in
theorem sum_any (a : Option Addr) (l : List UInt8) (cap : Nat) (w : World) (h : BysAt w a l) :
    Calls Try.prog 10 #[.slice a l.length cap] w fun e w' => e = .returned (.int .u32 ((sumL l : Nat) : Int)) ∧ Below w.heap.size w w' := by
  have HA := Lib.hid h
  have hm : l.length ≤ 9223372036854775807 := by have := h.1; unfold maxLen at this; omega
  clear h
  obtain ⟨hz, hi⟩ := zero_of_info (P := Try.prog) info53
  rw [← tabP_zero] at hz
  have hi' : (Try.prog.info? 53).map (·.size) = some (tabP 256).size := by rw [tabP_size]; exact hi
  have hs0 : (tabP 0).size = (tabP 256).size := by rw [tabP_size, tabP_size]
  go_enter Try.func10, Try.ntmps10
  go_wp2_with (go_at_call 21; refine (table_any _).mono ?_; rintro e w1 ⟨rfl, hb1⟩)
  have hsc := run_storeCells_new (P := Try.prog) w1 53 (tabP 0) (tabP 256) hi' hs0 (tabP_one 256)
  simp only [hsc, Result.andThen]
  rw [Oper.upon_skip]
  go_at_K
  clear hz hi hi' hs0 hsc
  have hb2 : Below w.heap.size w (w1.alloc (.cells (tabP 256) 53)) := hb1.alloc hb1.size _
  go_wp2
  go_loopw [4, 10] (fun vx vi wr => ∃ k : Nat, vi = .int .i64 k ∧ k ≤ l.length ∧ vx = .int .u32 ((crc (l.take k) : Nat) : Int) ∧ wr = w1.alloc (.cells (tabP 256) 53)) (fun _ vi _ => l.length - (intOf vi).toNat)
  case atStart => exact ⟨0, rfl, by omega, rfl, rfl⟩
  case round =>
    obtain ⟨k, rfl, hk, rfl, rfl⟩ := hrel
    have hX := crc_lt (l.take k)
    by_cases hlt : k < l.length
    · obtain ⟨b, off, rfl, hbl, hcell⟩ := bys_cell (HA.out.below hb2) hlt
      have hn := crc_next hlt
      obtain ⟨X, hXe⟩ : ∃ X, crc (l.take k) = X := ⟨_, rfl⟩
      obtain ⟨c, hce⟩ : ∃ c, (l[k]).toNat = c := ⟨_, rfl⟩
      have hc : c < 256 := by rw [← hce]; exact (l[k]).toNat_lt
      rw [hXe] at hX hn
      rw [hXe]
      rw [hce] at hn hcell
      have b1 : bits .xor .u8 ((X : Int) % 256) (c : Int) = ((X % 256 ^^^ c : Nat) : Int) := u8_xor_nat (X % 256) c (by omega) hc
      have hi1 : X % 256 ^^^ c < 256 := Nat.xor_lt_two_pow (n := 8) (by omega) hc
      obtain ⟨j, hj⟩ : ∃ j, X % 256 ^^^ c = j := ⟨_, rfl⟩
      rw [hj] at b1 hi1
      have hg := tabP_get 256 j hi1
      rw [if_pos hi1] at hg
      have hT := stK_lt (x := j) (by omega) 8
      obtain ⟨T, hTe⟩ : ∃ T, stK 8 j = T := ⟨_, rfl⟩
      rw [hTe] at hg hT
      have b2 : bits .xor .u32 ((X : Int) / 256) (T : Int) = ((X / 256 ^^^ T : Nat) : Int) := u32_xor_nat (X / 256) T (by omega) hT
      have hjs : j < (tabP 256).size := by rw [tabP_size]; exact hi1
      have hg2 : (tabP 256)[j]'hjs = .int .u32 (T : Int) := (Array.getElem?_eq_some_iff.1 hg).2
      have HN := Lib.hid (show crc (l.take (k + 1)) = X / 256 ^^^ T by rw [hn]; unfold byT; rw [hj, hTe])
      clear hn hXe hce hj hTe
      go_wp2
      go_roundw
      case rel => exact ⟨k + 1, by go_num, by have := hlt; omega, by rw [HN.out], trivial⟩
      case measure => simp [intOf]; omega
    · obtain rfl : k = l.length := by omega
      rw [List.take_length] at hX ⊢
      have HS := Lib.hid (show sumL l = 4294967295 - crc l from rfl)
      obtain ⟨X, hXe⟩ : ∃ X, crc l = X := ⟨_, rfl⟩
      rw [hXe] at hX HS ⊢
      go_wp2
      go_ret
      exact ⟨by rw [HS.out]; exact congrArg (fun z => Ending.returned (Value.int .u32 z)) (u32_flip X hX), hb2⟩

theorem bys_at {w : World} {a : Option Addr} {l : List UInt8} (h : BysAt w a l) {k : Nat} (hk : k < l.length) : ∃ b off, a = some ⟨b, off, none⟩ ∧ w.cell? ⟨b, off + k, none⟩ = some (.int .u8 ((l[k]).toNat : Int)) := by
  obtain ⟨b, off, ha, _, hc⟩ := bys_cell h hk
  exact ⟨b, off, ha, hc⟩

theorem bits_crc {l : List UInt8} {k : Nat} (h : k < l.length) : crc (l.take (k + 1)) = bitsR (l[k]).toNat 8 (crc (l.take k)) := by
  rw [crc_next h, bits_byte _ _ (l[k]).toNat_lt]

set_option maxHeartbeats 2000000 in
set_option maxRecDepth 100000 in
theorem rsum_any (a : Option Addr) (l : List UInt8) (cap : Nat) (w : World) (h : BysAt w a l) :
    Calls Try.prog 11 #[.slice a l.length cap] w fun e w' => e = .returned (.int .u32 ((sumL l : Nat) : Int)) ∧ Below w.heap.size w w' := by
  have HA := Lib.hid h
  have hm : l.length ≤ 9223372036854775807 := by have := h.1; unfold maxLen at this; omega
  clear h
  go_enter Try.func11, Try.ntmps11
  go_wp2
  go_loopw [3, 4] (fun vx vi wr => ∃ k : Nat, vi = .int .i64 k ∧ k ≤ l.length ∧ vx = .int .u32 ((crc (l.take k) : Nat) : Int) ∧ wr = w) (fun _ vi _ => l.length - (intOf vi).toNat)
  case atStart => exact ⟨0, rfl, by omega, rfl, rfl⟩
  case round =>
    obtain ⟨k, rfl, hk, rfl, rfl⟩ := hrel
    have hX := crc_lt (l.take k)
    by_cases hlt : k < l.length
    · obtain ⟨b, off, rfl, hcell⟩ := bys_at HA.out hlt
      have hn := bits_crc hlt
      obtain ⟨X, hXe⟩ : ∃ X, crc (l.take k) = X := ⟨_, rfl⟩
      obtain ⟨c, hce⟩ : ∃ c, (l[k]).toNat = c := ⟨_, rfl⟩
      have hc : c < 256 := by rw [← hce]; exact (l[k]).toNat_lt
      rw [hXe] at hX hn
      rw [hXe]
      rw [hce] at hn hcell
      have HN := Lib.hid hn
      clear hn hXe hce
      go_wp2
      go_loopw [3, 5] (fun vy vj wq => ∃ j : Nat, vj = .int .i64 j ∧ j ≤ 8 ∧ vy = .int .u32 ((bitsR c j X : Nat) : Int) ∧ wq = wr) (fun _ vj _ => 8 - (intOf vj).toNat)
      case atStart => exact ⟨0, rfl, by decide, rfl, rfl⟩
      case round =>
        obtain ⟨j, rfl, hj, rfl, rfl⟩ := hrel
        have hY := bitsR_lt (c := c) hX j
        by_cases hlj : j < 8
        · have hn : bitsR c (j + 1) X = bitR (bitsR c j X) (c / 2 ^ j % 2) := rfl
          obtain ⟨Y, hYe⟩ : ∃ Y, bitsR c j X = Y := ⟨_, rfl⟩
          rw [hYe] at hn hY
          rw [hYe]
          have HN2 := Lib.hid hn
          clear hn hYe
          have b1 : bits .and .u32 (Y : Int) 1 = (Y : Int) % 2 := by have := u32_and_nat Y 1 hY (by decide); rw [nat_mask1] at this; exact this
          have bx : bits .xor .u32 ((Y : Int) / 2) 3988292384 = ((Y / 2 ^^^ 3988292384 : Nat) : Int) := u32_xor_nat (Y / 2) 3988292384 (by omega) (by decide)
          rcases (by omega : j = 0 ∨ j = 1 ∨ j = 2 ∨ j = 3 ∨ j = 4 ∨ j = 5 ∨ j = 6 ∨ j = 7) with rfl | rfl | rfl | rfl | rfl | rfl | rfl | rfl
          ·
            have b2 : bits .and .u32 (c : Int) 1 = (c : Int) % 2 := by have := u32_and_nat c 1 (by omega) (by decide); rw [nat_mask1] at this; exact this
            by_cases hd : (Y : Int) % 2 = (c : Int) % 2
            · have k1 : ((Y : Int) % 2 == (c : Int) % 2) = true := by rw [beq_iff_eq]; exact hd
              have k2 : ((Y : Int) % 2 != (c : Int) % 2) = false := by simp [bne, k1]
              have HV := Lib.hid (show bitR Y (c / 1 % 2) = Y / 2 by unfold bitR; rw [if_neg (by omega)])
              clear hd
              go_wp2
              go_roundw
              case rel => exact ⟨_, by go_num, by decide, by rw [HN2.out]; exact congrArg (fun z : Nat => Value.int .u32 (z : Int)) HV.out.symm, trivial⟩
              case measure => simp [intOf]
            · have k1 : ((Y : Int) % 2 == (c : Int) % 2) = false := by rw [beq_eq_false_iff_ne]; exact hd
              have k2 : ((Y : Int) % 2 != (c : Int) % 2) = true := by simp [bne, k1]
              have HV := Lib.hid (show bitR Y (c / 1 % 2) = Y / 2 ^^^ 3988292384 by unfold bitR; rw [if_pos (by omega)])
              clear hd
              go_wp2
              go_roundw
              case rel => exact ⟨_, by go_num, by decide, by rw [HN2.out]; exact congrArg (fun z : Nat => Value.int .u32 (z : Int)) HV.out.symm, trivial⟩
              case measure => simp [intOf]
          ·
            have b2 : bits .and .u32 ((c : Int) / 2) 1 = ((c : Int) / 2) % 2 := by have := u32_and_nat (c / 2) 1 (by omega) (by decide); rw [nat_mask1] at this; exact this
            by_cases hd : (Y : Int) % 2 = ((c : Int) / 2) % 2
            · have k1 : ((Y : Int) % 2 == ((c : Int) / 2) % 2) = true := by rw [beq_iff_eq]; exact hd
              have k2 : ((Y : Int) % 2 != ((c : Int) / 2) % 2) = false := by simp [bne, k1]
              have HV := Lib.hid (show bitR Y (c / 2 % 2) = Y / 2 by unfold bitR; rw [if_neg (by omega)])
              clear hd
              go_wp2
              go_roundw
              case rel => exact ⟨_, by go_num, by decide, by rw [HN2.out]; exact congrArg (fun z : Nat => Value.int .u32 (z : Int)) HV.out.symm, trivial⟩
              case measure => simp [intOf]
            · have k1 : ((Y : Int) % 2 == ((c : Int) / 2) % 2) = false := by rw [beq_eq_false_iff_ne]; exact hd
              have k2 : ((Y : Int) % 2 != ((c : Int) / 2) % 2) = true := by simp [bne, k1]
              have HV := Lib.hid (show bitR Y (c / 2 % 2) = Y / 2 ^^^ 3988292384 by unfold bitR; rw [if_pos (by omega)])
              clear hd
              go_wp2
              go_roundw
              case rel => exact ⟨_, by go_num, by decide, by rw [HN2.out]; exact congrArg (fun z : Nat => Value.int .u32 (z : Int)) HV.out.symm, trivial⟩
              case measure => simp [intOf]
          ·
            have b2 : bits .and .u32 ((c : Int) / 4) 1 = ((c : Int) / 4) % 2 := by have := u32_and_nat (c / 4) 1 (by omega) (by decide); rw [nat_mask1] at this; exact this
            by_cases hd : (Y : Int) % 2 = ((c : Int) / 4) % 2
            · have k1 : ((Y : Int) % 2 == ((c : Int) / 4) % 2) = true := by rw [beq_iff_eq]; exact hd
              have k2 : ((Y : Int) % 2 != ((c : Int) / 4) % 2) = false := by simp [bne, k1]
              have HV := Lib.hid (show bitR Y (c / 4 % 2) = Y / 2 by unfold bitR; rw [if_neg (by omega)])
              clear hd
              go_wp2
              go_roundw
              case rel => exact ⟨_, by go_num, by decide, by rw [HN2.out]; exact congrArg (fun z : Nat => Value.int .u32 (z : Int)) HV.out.symm, trivial⟩
              case measure => simp [intOf]
            · have k1 : ((Y : Int) % 2 == ((c : Int) / 4) % 2) = false := by rw [beq_eq_false_iff_ne]; exact hd
              have k2 : ((Y : Int) % 2 != ((c : Int) / 4) % 2) = true := by simp [bne, k1]
              have HV := Lib.hid (show bitR Y (c / 4 % 2) = Y / 2 ^^^ 3988292384 by unfold bitR; rw [if_pos (by omega)])
              clear hd
              go_wp2
              go_roundw
              case rel => exact ⟨_, by go_num, by decide, by rw [HN2.out]; exact congrArg (fun z : Nat => Value.int .u32 (z : Int)) HV.out.symm, trivial⟩
              case measure => simp [intOf]
          ·
            have b2 : bits .and .u32 ((c : Int) / 8) 1 = ((c : Int) / 8) % 2 := by have := u32_and_nat (c / 8) 1 (by omega) (by decide); rw [nat_mask1] at this; exact this
            by_cases hd : (Y : Int) % 2 = ((c : Int) / 8) % 2
            · have k1 : ((Y : Int) % 2 == ((c : Int) / 8) % 2) = true := by rw [beq_iff_eq]; exact hd
              have k2 : ((Y : Int) % 2 != ((c : Int) / 8) % 2) = false := by simp [bne, k1]
              have HV := Lib.hid (show bitR Y (c / 8 % 2) = Y / 2 by unfold bitR; rw [if_neg (by omega)])
              clear hd
              go_wp2
              go_roundw
              case rel => exact ⟨_, by go_num, by decide, by rw [HN2.out]; exact congrArg (fun z : Nat => Value.int .u32 (z : Int)) HV.out.symm, trivial⟩
              case measure => simp [intOf]
            · have k1 : ((Y : Int) % 2 == ((c : Int) / 8) % 2) = false := by rw [beq_eq_false_iff_ne]; exact hd
              have k2 : ((Y : Int) % 2 != ((c : Int) / 8) % 2) = true := by simp [bne, k1]
              have HV := Lib.hid (show bitR Y (c / 8 % 2) = Y / 2 ^^^ 3988292384 by unfold bitR; rw [if_pos (by omega)])
              clear hd
              go_wp2
              go_roundw
              case rel => exact ⟨_, by go_num, by decide, by rw [HN2.out]; exact congrArg (fun z : Nat => Value.int .u32 (z : Int)) HV.out.symm, trivial⟩
              case measure => simp [intOf]
          ·
            have b2 : bits .and .u32 ((c : Int) / 16) 1 = ((c : Int) / 16) % 2 := by have := u32_and_nat (c / 16) 1 (by omega) (by decide); rw [nat_mask1] at this; exact this
            by_cases hd : (Y : Int) % 2 = ((c : Int) / 16) % 2
            · have k1 : ((Y : Int) % 2 == ((c : Int) / 16) % 2) = true := by rw [beq_iff_eq]; exact hd
              have k2 : ((Y : Int) % 2 != ((c : Int) / 16) % 2) = false := by simp [bne, k1]
              have HV := Lib.hid (show bitR Y (c / 16 % 2) = Y / 2 by unfold bitR; rw [if_neg (by omega)])
              clear hd
              go_wp2
              go_roundw
              case rel => exact ⟨_, by go_num, by decide, by rw [HN2.out]; exact congrArg (fun z : Nat => Value.int .u32 (z : Int)) HV.out.symm, trivial⟩
              case measure => simp [intOf]
            · have k1 : ((Y : Int) % 2 == ((c : Int) / 16) % 2) = false := by rw [beq_eq_false_iff_ne]; exact hd
              have k2 : ((Y : Int) % 2 != ((c : Int) / 16) % 2) = true := by simp [bne, k1]
              have HV := Lib.hid (show bitR Y (c / 16 % 2) = Y / 2 ^^^ 3988292384 by unfold bitR; rw [if_pos (by omega)])
              clear hd
              go_wp2
              go_roundw
              case rel => exact ⟨_, by go_num, by decide, by rw [HN2.out]; exact congrArg (fun z : Nat => Value.int .u32 (z : Int)) HV.out.symm, trivial⟩
              case measure => simp [intOf]
          ·
            have b2 : bits .and .u32 ((c : Int) / 32) 1 = ((c : Int) / 32) % 2 := by have := u32_and_nat (c / 32) 1 (by omega) (by decide); rw [nat_mask1] at this; exact this
            by_cases hd : (Y : Int) % 2 = ((c : Int) / 32) % 2
            · have k1 : ((Y : Int) % 2 == ((c : Int) / 32) % 2) = true := by rw [beq_iff_eq]; exact hd
              have k2 : ((Y : Int) % 2 != ((c : Int) / 32) % 2) = false := by simp [bne, k1]
              have HV := Lib.hid (show bitR Y (c / 32 % 2) = Y / 2 by unfold bitR; rw [if_neg (by omega)])
              clear hd
              go_wp2
              go_roundw
              case rel => exact ⟨_, by go_num, by decide, by rw [HN2.out]; exact congrArg (fun z : Nat => Value.int .u32 (z : Int)) HV.out.symm, trivial⟩
              case measure => simp [intOf]
            · have k1 : ((Y : Int) % 2 == ((c : Int) / 32) % 2) = false := by rw [beq_eq_false_iff_ne]; exact hd
              have k2 : ((Y : Int) % 2 != ((c : Int) / 32) % 2) = true := by simp [bne, k1]
              have HV := Lib.hid (show bitR Y (c / 32 % 2) = Y / 2 ^^^ 3988292384 by unfold bitR; rw [if_pos (by omega)])
              clear hd
              go_wp2
              go_roundw
              case rel => exact ⟨_, by go_num, by decide, by rw [HN2.out]; exact congrArg (fun z : Nat => Value.int .u32 (z : Int)) HV.out.symm, trivial⟩
              case measure => simp [intOf]
          ·
            have b2 : bits .and .u32 ((c : Int) / 64) 1 = ((c : Int) / 64) % 2 := by have := u32_and_nat (c / 64) 1 (by omega) (by decide); rw [nat_mask1] at this; exact this
            by_cases hd : (Y : Int) % 2 = ((c : Int) / 64) % 2
            · have k1 : ((Y : Int) % 2 == ((c : Int) / 64) % 2) = true := by rw [beq_iff_eq]; exact hd
              have k2 : ((Y : Int) % 2 != ((c : Int) / 64) % 2) = false := by simp [bne, k1]
              have HV := Lib.hid (show bitR Y (c / 64 % 2) = Y / 2 by unfold bitR; rw [if_neg (by omega)])
              clear hd
              go_wp2
              go_roundw
              case rel => exact ⟨_, by go_num, by decide, by rw [HN2.out]; exact congrArg (fun z : Nat => Value.int .u32 (z : Int)) HV.out.symm, trivial⟩
              case measure => simp [intOf]
            · have k1 : ((Y : Int) % 2 == ((c : Int) / 64) % 2) = false := by rw [beq_eq_false_iff_ne]; exact hd
              have k2 : ((Y : Int) % 2 != ((c : Int) / 64) % 2) = true := by simp [bne, k1]
              have HV := Lib.hid (show bitR Y (c / 64 % 2) = Y / 2 ^^^ 3988292384 by unfold bitR; rw [if_pos (by omega)])
              clear hd
              go_wp2
              go_roundw
              case rel => exact ⟨_, by go_num, by decide, by rw [HN2.out]; exact congrArg (fun z : Nat => Value.int .u32 (z : Int)) HV.out.symm, trivial⟩
              case measure => simp [intOf]
          ·
            have b2 : bits .and .u32 ((c : Int) / 128) 1 = ((c : Int) / 128) % 2 := by have := u32_and_nat (c / 128) 1 (by omega) (by decide); rw [nat_mask1] at this; exact this
            by_cases hd : (Y : Int) % 2 = ((c : Int) / 128) % 2
            · have k1 : ((Y : Int) % 2 == ((c : Int) / 128) % 2) = true := by rw [beq_iff_eq]; exact hd
              have k2 : ((Y : Int) % 2 != ((c : Int) / 128) % 2) = false := by simp [bne, k1]
              have HV := Lib.hid (show bitR Y (c / 128 % 2) = Y / 2 by unfold bitR; rw [if_neg (by omega)])
              clear hd
              go_wp2
              go_roundw
              case rel => exact ⟨_, by go_num, by decide, by rw [HN2.out]; exact congrArg (fun z : Nat => Value.int .u32 (z : Int)) HV.out.symm, trivial⟩
              case measure => simp [intOf]
            · have k1 : ((Y : Int) % 2 == ((c : Int) / 128) % 2) = false := by rw [beq_eq_false_iff_ne]; exact hd
              have k2 : ((Y : Int) % 2 != ((c : Int) / 128) % 2) = true := by simp [bne, k1]
              have HV := Lib.hid (show bitR Y (c / 128 % 2) = Y / 2 ^^^ 3988292384 by unfold bitR; rw [if_pos (by omega)])
              clear hd
              go_wp2
              go_roundw
              case rel => exact ⟨_, by go_num, by decide, by rw [HN2.out]; exact congrArg (fun z : Nat => Value.int .u32 (z : Int)) HV.out.symm, trivial⟩
              case measure => simp [intOf]
        · obtain rfl : j = 8 := by omega
          go_wp2
          go_roundw
          case rel => exact ⟨k + 1, by go_num, by have := hlt; omega, by rw [HN.out], trivial⟩
          case measure => simp [intOf]; omega
    · obtain rfl : k = l.length := by omega
      rw [List.take_length] at hX ⊢
      have HS := Lib.hid (show sumL l = 4294967295 - crc l from rfl)
      obtain ⟨X, hXe⟩ : ∃ X, crc l = X := ⟨_, rfl⟩
      rw [hXe] at hX HS ⊢
      go_wp2
      go_ret
      exact ⟨by rw [HS.out]; exact congrArg (fun z => Ending.returned (Value.int .u32 z)) (u32_flip X hX), Below.refl _ _⟩
end Go.Proofs.Ytgbgahdeopedpaa
