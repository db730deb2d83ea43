/- Walks of layer 1: a number in digits. -/
import Derived.Test.YtkjdigojajcgkaaGreatDoorFw3
import Derived.Test.YtkjdigojajcgkaaGreatDoorFt
import Derived.Test.YtkjdigojajcgkaaGreatDoorShelf
import Derived.Lib.AppendIntMem
import Derived.Laws.Concat
namespace Go.Proofs.YtkjdigojajcgkaaGreatDoor
open Go.RowKit
open Fx
set_option linter.unusedVariables false
attribute [local go_sem] ext_mk size_mk toList_mk get_mk take_drop_len take_tail_len ByteArray.mk_append_mk

/-- What the program's Text reads of the library's variables. -/
def TextVars (w : World) : Prop := (∃ m, w.cell? ⟨0, 0, none⟩ = some (.int .i64 m)) ∧ Lib.TabIs Tryz.prog w "internal/strconv.uint64pow10" .u64 Lib.pow10Tab ∧ 0 < w.heap.size

theorem replace_l (l : List UInt8) (w : World) (hl : l.length ≤ 100) (hm : ∃ m, w.cell? ⟨0, 0, none⟩ = some (.int .i64 m)) :
    Calls Tryz.prog 62 #[.string ⟨l.toArray⟩, .string ⟨#[45]⟩, .string ⟨#[126]⟩, .int .i64 1] w fun e w' => e = .returned (.string ⟨(Lib.replace l [45] [126] 1).toArray⟩) ∧ Below w.heap.size w w' := by
  obtain ⟨m, hm⟩ := hm
  have hc : Lib.countB ⟨l.toArray⟩ ⟨#[45]⟩ ≤ 100 := by
    have := Lib.count_one 45 l
    have h2 := List.count_le_length (a := (45 : UInt8)) (l := l)
    unfold Lib.countB
    show Lib.count l [45] ≤ 100
    omega
  refine Tryz.strings_Replace ⟨l.toArray⟩ ⟨#[45]⟩ ⟨#[126]⟩ 1 m w (by rw [size_mk]; omega) hm (by decide) ?_
  rw [size_mk]
  have : (⟨#[126]⟩ : ByteArray).size = 1 := rfl
  rw [this]; omega

theorem formatInt_l (a : Int) (w : World) (ha : rtB a = true) (h : TextVars w) :
    Calls Tryz.prog 63 #[.int .i64 a, .int .i64 10] w fun e w' => e = .returned (.string ⟨(Lib.itoa a).toArray⟩) ∧ Below w.heap.size w w' ∧ ∃ m, w'.cell? ⟨0, 0, none⟩ = some (.int .i64 m) := by
  have h1 := rtB_lo ha
  have h2 := rtB_hi ha
  obtain ⟨⟨m, hm⟩, ht, hz⟩ := h
  refine (Tryz.strconv_FormatInt_10 a (by omega) (by omega) w ht).mono fun e w' ⟨he, k, os, hw⟩ => ?_
  subst hw
  have hb := Lib.below_grow w.heap.size w (Nat.le_refl _) k os
  exact ⟨he, hb, m, by rw [hb.cell (p := ⟨0, 0, none⟩) hz]; exact hm⟩


set_option maxHeartbeats 400000 in
theorem text_any (a : Int) (w : World) (h : TextVars w) :
    Calls Tryz.prog 37 #[.int .i64 a] w fun e w' => e = .returned (.tuple #[.string ⟨(textB a).toArray⟩, .int .i64 (textE a)]) ∧ Below w.heap.size w w' := by
  have H := Lib.hid h
  clear h
  cases ha : rtB a
  · go_enter Tryz.func37, Tryz.ntmps37
    go_wp2_with (go_at_call 61; refine (right_any _ _).mono ?_; rintro e w' ⟨rfl, rfl⟩)
    go_ret2
    exact ⟨ret_text (by simp [textB, ha]) (by simp [textE, ha]), Below.refl _ _⟩
  · have hl := itoa_len a ha
    go_enter Tryz.func37, Tryz.ntmps37
    go_wp2_with (first | (go_at_call 61; refine (right_any _ _).mono ?_; rintro e w' ⟨rfl, rfl⟩) | (go_at_call 63; refine (formatInt_l _ _ ha H.out).mono ?_; rintro e w1 ⟨rfl, hb1, hm1⟩))
    refine (replace_l _ _ (by omega) hm1).mono ?_
    rintro e w2 ⟨rfl, hb2⟩
    go_wp2_with fail
    go_ret2
    exact ⟨ret_text (replace_itoa a ha) (by simp [textE, ha]), hb1.trans (hb2.mono hb1.size)⟩

theorem digit_piece : ∀ i : Fin 10, (List.drop i.val ([48, 49, 50, 51, 52, 53, 54, 55, 56, 57] : List UInt8)).take 1 = [UInt8.ofNat (48 + i.val)] := by decide

set_option maxHeartbeats 400000 in
theorem rdigits_any (N : Nat) (w : World) (hN : N ≤ 9223372036854775807) :
    Calls Tryz.prog 55 #[.int .u64 N] w fun e w' => e = .returned (.string ⟨(Lib.decDigits N).toArray⟩) ∧ w = w' := by
  go_enter Tryz.func55, Tryz.ntmps55
  go_wp2_with fail
  go_loop [0, 3] (fun n s => ∃ (m : Nat) (t : List UInt8), m ≤ N ∧ n = .int .u64 m ∧ s = .string ⟨t.toArray⟩ ∧ Lib.decDigits N = Lib.decDigits m ++ t) (fun n _ => (intOf n).toNat)
  case atStart => exact ⟨N, [], Nat.le_refl _, rfl, rfl, by simp⟩
  case round =>
    obtain ⟨m, t, hm, rfl, rfl, ht⟩ := hrel
    have htl : t.length ≤ 20 := by
      have := congrArg List.length ht
      have h2 := dec_len N (by omega)
      rw [List.length_append] at this; omega
    have HT := Lib.hid ht
    clear ht
    by_cases hlt : m < 10
    · have HP := Lib.hid (digit_piece ⟨m, hlt⟩)
      have HD := Lib.hid (Lib.decDigits_one hlt)
      go_wp2_with fail
      go_ret
      exact ⟨ret_str (by rw [HT.out, HD.out]; exact congrArg (· ++ t) HP.out), rfl⟩
    · have HP := Lib.hid (digit_piece ⟨m % 10, Nat.mod_lt _ (by omega)⟩)
      have HD := Lib.hid (show Lib.decDigits m = Lib.decDigits (m / 10) ++ [UInt8.ofNat (48 + m % 10)] by rw [Lib.decDigits, dif_neg hlt])
      go_wp2_with fail
      go_round
      case rel => exact ⟨m / 10, [UInt8.ofNat (48 + m % 10)] ++ t, by omega, by go_num, congrArg (fun l : List UInt8 => Value.string ⟨(l ++ t).toArray⟩) HP.out, by rw [HT.out, HD.out, List.append_assoc]⟩
      case measure => simp [intOf]; omega

theorem rdigits_amt (n : Int) (w : World) (h0 : 0 ≤ n) (h1 : n ≤ 4611686018427387904) :
    Calls Tryz.prog 55 #[.int .u64 n] w fun e w' => e = .returned (.string ⟨(Lib.decDigits n.toNat).toArray⟩) ∧ w = w' := by
  obtain ⟨N, rfl⟩ := Int.eq_ofNat_of_zero_le h0
  exact rdigits_any N w (by omega)

set_option maxHeartbeats 400000 in
theorem rtext_any (a : Int) (w : World) :
    Calls Tryz.prog 31 #[.int .i64 a] w fun e w' => e = .returned (.tuple #[.string ⟨(textB a).toArray⟩, .int .i64 (textE a)]) ∧ w = w' := by
  cases ha : rtB a
  · go_enter Tryz.func31, Tryz.ntmps31
    go_wp2_with (go_at_call 54; refine (rright_any _ _).mono ?_; rintro e w' ⟨rfl, rfl⟩)
    go_ret2
    exact ⟨ret_text (by simp [textB, ha]) (by simp [textE, ha]), rfl⟩
  · have a1 := rtB_lo ha
    have a2 := rtB_hi ha
    have n0 := amt_nn a
    have n1 := amt_le ha
    have hd := dec_len (amt a).toNat (by omega)
    by_cases g : a < 0
    · have HT := Lib.hid (show textB a = 126 :: Lib.decDigits (amt a).toNat by unfold textB; rw [if_pos ha, if_pos g, amt_neg g]; congr 2; omega)
      go_enter Tryz.func31, Tryz.ntmps31
      go_wp2_with (first | (go_at_call 54; refine (rright_any _ _).mono ?_; rintro e w' ⟨rfl, rfl⟩) | (go_at_call 56; refine (ramount_any _ _ ha).mono ?_; rintro e w' ⟨rfl, rfl⟩) | (go_at_call 55; refine (rdigits_amt _ _ n0 n1).mono ?_; rintro e w' ⟨rfl, rfl⟩))
      go_ret2
      exact ⟨ret_text HT.out.symm (by simp [textE, ha]), rfl⟩
    · have HT := Lib.hid (show textB a = Lib.decDigits (amt a).toNat by unfold textB; rw [if_pos ha, if_neg g, amt_pos (by omega)])
      go_enter Tryz.func31, Tryz.ntmps31
      go_wp2_with (first | (go_at_call 54; refine (rright_any _ _).mono ?_; rintro e w' ⟨rfl, rfl⟩) | (go_at_call 56; refine (ramount_any _ _ ha).mono ?_; rintro e w' ⟨rfl, rfl⟩) | (go_at_call 55; refine (rdigits_amt _ _ n0 n1).mono ?_; rintro e w' ⟨rfl, rfl⟩))
      go_ret2
      exact ⟨ret_text HT.out.symm (by simp [textE, ha]), rfl⟩
end Go.Proofs.YtkjdigojajcgkaaGreatDoor
