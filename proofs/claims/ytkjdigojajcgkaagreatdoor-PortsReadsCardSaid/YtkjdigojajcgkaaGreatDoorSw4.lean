/- Walks of layer 3: numbers of few digits, base 10 and 16, as the library reads them. -/
import Derived.Test.YtkjdigojajcgkaaGreatDoorSw1
import Derived.Lib.ConvBytes
import Derived.Lib.AtoiErrMem
import Derived.Laws.Closers25
import Derived.Laws.Closers25b
import Derived.BigCall
import Derived.BigGuard
namespace Go.Proofs.YtkjdigojajcgkaaGreatDoor
open Go.RowKit
open St
set_option linter.unusedVariables false
attribute [local go_sem] ext_mk size_mk toList_mk get_mk take_drop_len take_tail_len ByteArray.mk_append_mk

/-- a letter made small -/
def lowC (n : Nat) : Int := bits .or .u8 (n : Int) 32

theorem low_fin : ∀ n : Fin 256, (48 ≤ n.val ∧ n.val ≤ 57) ∨ (97 ≤ lowC n.val ∧ lowC n.val ≤ 122 ∧ (lowC n.val ≤ 102 → dig n.val = lowC n.val - 87) ∧ (103 ≤ lowC n.val → dig n.val = 16)) ∨ (lowC n.val < 97 ∧ dig n.val = 16) ∨ (122 < lowC n.val ∧ dig n.val = 16) := by decide +kernel

theorem low_bd : ∀ n : Fin 256, 0 ≤ lowC n.val ∧ lowC n.val ≤ 255 := by decide +kernel

theorem low_any (x : UInt8) (w : World) : Calls Tryz.prog 115 #[.int .u8 (x.toNat : Int)] w fun e w' => e = .returned (.int .u8 (lowC x.toNat)) ∧ w = w' :=
  (Tryz.internal_strconv_lower (x.toNat : Int) w).mono fun e w' ⟨he, hw⟩ => ⟨he, hw.symm⟩

theorem low95 (w : World) : Calls Tryz.prog 115 #[.int .u8 95] w fun e w' => e = .returned (.int .u8 127) ∧ w = w' := low_any 95 w

theorem numV_snoc (B : Int) (l : List UInt8) (x : UInt8) : numV B (l ++ [x]) = numV B l * B + bdig x := by unfold numV; rw [List.foldl_append]; rfl

theorem num_fold {B : Int} (hB : 0 ≤ B ∧ B ≤ 16) (l : List UInt8) : ∀ a : Int, 0 ≤ a → l.all (isD B) = true → 0 ≤ l.foldl (fun n b => n * B + bdig b) a ∧ l.foldl (fun n b => n * B + bdig b) a + 1 ≤ (a + 1) * 16 ^ l.length := by
  induction l with
  | nil => intro a ha _; simp; exact ha
  | cons x l ih =>
    intro a ha h
    rw [List.all_cons, Bool.and_eq_true] at h
    have h3 := isD_lt h.1
    have h4 := bdig_nn x
    have h5 : a * B ≤ a * 16 := Int.mul_le_mul_of_nonneg_left hB.2 ha
    have h6 : 0 ≤ a * B := Int.mul_nonneg ha hB.1
    have h7 := ih (a * B + bdig x) (by omega) h.2
    refine ⟨h7.1, Int.le_trans h7.2 ?_⟩
    rw [List.length_cons, Int.pow_succ, Int.mul_comm (16 ^ l.length) 16, ← Int.mul_assoc]
    refine Int.mul_le_mul_of_nonneg_right (by omega) (Int.pow_nonneg (by decide))

theorem numV_bd {B : Int} (hB : 0 ≤ B ∧ B ≤ 16) (l : List UInt8) (h : l.all (isD B) = true) : 0 ≤ numV B l ∧ numV B l ≤ 16 ^ l.length - 1 := by
  have := num_fold hB l 0 (by decide) h
  unfold numV
  omega

/-- what the library's number is -/
def puV (B : Int) (l : List UInt8) : Int := if l.all (isD B) = true then numV B l else 0

def puEr (B : Int) (l : List UInt8) : Value := if l.all (isD B) = true then .nilIface else .iface 147 (.int .i64 2)

theorem pu_no {B : Int} {l : List UInt8} {k : Nat} {x : UInt8} (h : l[k]? = some x) (hx : isD B x = false) : l.all (isD B) = false := by
  rw [List.all_eq_false]
  exact ⟨x, List.mem_of_getElem? h, by simp [hx]⟩

theorem ret_pu {k : IntKind} {a b : Int} {x y : Value} (h : a = b) (g : x = y) : Ending.returned (.tuple #[.int k a, x]) = .returned (.tuple #[.int k b, y]) := by rw [h, g]

set_option maxHeartbeats 4000000 in
set_option maxRecDepth 100000 in
theorem ipu10 (l : List UInt8) (hne : 0 < l.length) (hl : l.length ≤ 4) (w : World) :
    Calls Tryz.prog 113 #[.string ⟨l.toArray⟩, .int .i64 10, .int .i64 16] w fun e w' => e = .returned (.tuple #[.int .u64 (puV 10 l), puEr 10 l]) ∧ Below w.heap.size w w' := by
  have hemp : l.isEmpty = false := by cases l with | nil => simp at hne | cons => rfl
  have hcv := Lib.run_convert_string_bytes (P := Tryz.prog) w 9 66 5 ⟨l.toArray⟩ (u := .string) Tryz.underlying9 Tryz.underlying66 Tryz.underlying5
  have hbw : Below w.heap.size w (Lib.bytesWorld w 5 ⟨l.toArray⟩) := Lib.bytesWorld_below w 5 ⟨l.toArray⟩
  have hB : ∀ j x, l[j]? = some x → (Lib.bytesWorld w 5 ⟨l.toArray⟩).cell? ⟨w.heap.size, j, none⟩ = some (.int .u8 (x.toNat : Int)) := fun j x hj => by
    obtain ⟨h1, h2⟩ := List.getElem?_eq_some_iff.1 hj
    rw [Lib.bytesWorld_cell w 5 ⟨l.toArray⟩ j (by rw [size_mk]; exact h1)]
    simp [List.getD, hj]
  rw [size_mk] at hcv
  obtain ⟨W1, hW1⟩ : ∃ W1, W1 = Lib.bytesWorld w 5 ⟨l.toArray⟩ := ⟨_, rfl⟩
  rw [← hW1] at hcv hB hbw
  clear hW1
  have HB := Lib.hid hB
  clear hB
  have hmv : IntKind.u64.wrap (IntKind.u64.wrap 65536 - 1) = 65535 := by
    rw [IntKind.wrap_u64, IntKind.wrap_u64]
    decide
  go_enter Tryz.func113, Tryz.ntmps113
  go_wp2
  go_loop [12, 13, 101] (fun vu vn vi => ∃ (k : Nat) (a : Int), vu = .bool false ∧ vn = .int .u64 a ∧ vi = .int .i64 k ∧ k ≤ l.length ∧ Hid (a = numV 10 (l.take k) ∧ (l.take k).all (isD 10) = true))
    (fun _ _ vi => l.length - (intOf vi).toNat)
  case atStart => exact ⟨0, 0, rfl, rfl, rfl, by omega, rfl, rfl⟩
  case round =>
    obtain ⟨k, a, rfl, rfl, rfl, hk, hh⟩ := hrel
    have hbd := numV_bd (B := 10) (by omega) (l.take k) hh.out.2
    rw [← hh.out.1, List.length_take, Nat.min_eq_left hk] at hbd
    by_cases hkn : k < l.length
    · have ha : 0 ≤ a ∧ a ≤ 4095 := by
        have : (16 : Int) ^ k ≤ 16 ^ 3 := by
          have h3 : k ≤ 3 := by omega
          rcases (by omega : k = 0 ∨ k = 1 ∨ k = 2 ∨ k = 3) with rfl | rfl | rfl | rfl <;> decide
        have h4 : (16 : Int) ^ 3 = 4096 := by decide
        omega
      obtain ⟨a0, a1⟩ := ha
      clear hbd
      obtain ⟨x, hx⟩ : ∃ x, l[k]? = some x := ⟨l[k], by simp [hkn]⟩
      have hc := HB.out k x hx
      have hc256 : x.toNat < 256 := x.toNat_lt
      have HX := Lib.hid hx
      clear hx
      by_cases hdig : 48 ≤ x.toNat ∧ x.toNat ≤ 57
      · obtain ⟨hd0, hd1⟩ := hdig
        have hd : bdig x = (x.toNat : Int) - 48 := by unfold bdig dig; rw [if_pos (by omega)]
        have HN : Hid (a * 10 + ((x.toNat : Int) - 48) = numV 10 (l.take (k + 1)) ∧ (l.take (k + 1)).all (isD 10) = true) := Lib.hid ⟨by rw [take_snoc HX.out, numV_snoc, hd, hh.out.1], by
          have h2 : isD 10 x = true := decide_eq_true (by omega)
          rw [take_snoc HX.out, List.all_append, hh.out.2]; simp [h2]⟩
        clear hh hd
        go_wp2
        refine ⟨⟨k + 1, a * 10 + ((x.toNat : Int) - 48), rfl, (by first | rfl | (congr 1; omega)), (by first | rfl | (congr 1; omega)), by omega, HN⟩, by simp [intOf]; omega⟩
      · have hlow := low_fin ⟨x.toNat, hc256⟩
        have hlb := low_bd ⟨x.toNat, hc256⟩
        have HL := Lib.hid (fun W => low_any x W)
        simp only at hlow hlb
        obtain ⟨v, hv⟩ : ∃ v, lowC x.toNat = v := ⟨_, rfl⟩
        rw [hv] at hlow hlb HL
        obtain ⟨hv0, hv1⟩ := hlb
        by_cases h95 : x.toNat = 95
        · have hx95 : x = 95 := UInt8.toNat.inj h95
          have HF := Lib.hid (pu_no (B := 10) HX.out (by rw [hx95]; decide))
          replace hc : W1.cell? { block := w.heap.size, off := k } = some (Value.int IntKind.u8 95) := by rw [hc, h95]; rfl
          clear hlow HX HL hx95 hh hdig h95
          go_wp2_with (go_at_call 115; refine (low95 _).mono ?_; rintro e w' ⟨rfl, rfl⟩)
          all_goals go_ret2
          all_goals exact ⟨ret_pu (by unfold puV; rw [HF.out]; rfl) (by unfold puEr; rw [HF.out]; rfl), hbw⟩
        have n95 : decide ((x.toNat : Int) = 95) = false := decide_eq_false (by omega)
        have m95 : ((x.toNat : Int) == 95) = false := by simp; omega
        rcases hlow with h | ⟨g0, g1, g2, g3⟩ | ⟨g0, g1⟩ | ⟨g0, g1⟩
        · exact absurd h hdig
        · by_cases hb : v - 87 < 10
          ·
            omega
          · have HF := Lib.hid (pu_no (B := 10) HX.out (decide_eq_false (by unfold bdig; by_cases h : v ≤ 102; (rw [g2 h]; omega); (rw [g3 (by omega)]; omega))))
            clear g2 g3 hh
            go_wp2_with (go_at_call 115; refine (HL.out _).mono ?_; rintro e w' ⟨rfl, rfl⟩)
            all_goals go_ret2
            all_goals exact ⟨ret_pu (by unfold puV; rw [HF.out]; rfl) (by unfold puEr; rw [HF.out]; rfl), hbw⟩
        · have HF := Lib.hid (pu_no (B := 10) HX.out (decide_eq_false (by unfold bdig; rw [g1]; omega)))
          clear g1 hh
          go_wp2_with (go_at_call 115; refine (HL.out _).mono ?_; rintro e w' ⟨rfl, rfl⟩)
          all_goals go_ret2
          all_goals exact ⟨ret_pu (by unfold puV; rw [HF.out]; rfl) (by unfold puEr; rw [HF.out]; rfl), hbw⟩
        · have HF := Lib.hid (pu_no (B := 10) HX.out (decide_eq_false (by unfold bdig; rw [g1]; omega)))
          clear g1 hh
          go_wp2_with (go_at_call 115; refine (HL.out _).mono ?_; rintro e w' ⟨rfl, rfl⟩)
          all_goals go_ret2
          all_goals exact ⟨ret_pu (by unfold puV; rw [HF.out]; rfl) (by unfold puEr; rw [HF.out]; rfl), hbw⟩
    · obtain rfl : k = l.length := by omega
      have h1 := hh.out.1
      have h2 := hh.out.2
      rw [List.take_length] at h1 h2
      have HF := Lib.hid h2
      have HV := Lib.hid h1
      clear h1 h2 hh hbd
      go_wp2
      go_ret2
      exact ⟨ret_pu (by unfold puV; rw [HF.out, if_pos rfl, HV.out]) (by unfold puEr; rw [HF.out]; rfl), hbw⟩

set_option maxHeartbeats 4000000 in
set_option maxRecDepth 100000 in
theorem ipu16 (l : List UInt8) (hne : 0 < l.length) (hl : l.length ≤ 4) (w : World) :
    Calls Tryz.prog 113 #[.string ⟨l.toArray⟩, .int .i64 16, .int .i64 16] w fun e w' => e = .returned (.tuple #[.int .u64 (puV 16 l), puEr 16 l]) ∧ Below w.heap.size w w' := by
  have hemp : l.isEmpty = false := by cases l with | nil => simp at hne | cons => rfl
  have hcv := Lib.run_convert_string_bytes (P := Tryz.prog) w 9 66 5 ⟨l.toArray⟩ (u := .string) Tryz.underlying9 Tryz.underlying66 Tryz.underlying5
  have hbw : Below w.heap.size w (Lib.bytesWorld w 5 ⟨l.toArray⟩) := Lib.bytesWorld_below w 5 ⟨l.toArray⟩
  have hB : ∀ j x, l[j]? = some x → (Lib.bytesWorld w 5 ⟨l.toArray⟩).cell? ⟨w.heap.size, j, none⟩ = some (.int .u8 (x.toNat : Int)) := fun j x hj => by
    obtain ⟨h1, h2⟩ := List.getElem?_eq_some_iff.1 hj
    rw [Lib.bytesWorld_cell w 5 ⟨l.toArray⟩ j (by rw [size_mk]; exact h1)]
    simp [List.getD, hj]
  rw [size_mk] at hcv
  obtain ⟨W1, hW1⟩ : ∃ W1, W1 = Lib.bytesWorld w 5 ⟨l.toArray⟩ := ⟨_, rfl⟩
  rw [← hW1] at hcv hB hbw
  clear hW1
  have HB := Lib.hid hB
  clear hB
  have hmv : IntKind.u64.wrap (IntKind.u64.wrap 65536 - 1) = 65535 := by
    rw [IntKind.wrap_u64, IntKind.wrap_u64]
    decide
  go_enter Tryz.func113, Tryz.ntmps113
  go_wp2
  go_loop [12, 13, 101] (fun vu vn vi => ∃ (k : Nat) (a : Int), vu = .bool false ∧ vn = .int .u64 a ∧ vi = .int .i64 k ∧ k ≤ l.length ∧ Hid (a = numV 16 (l.take k) ∧ (l.take k).all (isD 16) = true))
    (fun _ _ vi => l.length - (intOf vi).toNat)
  case atStart => exact ⟨0, 0, rfl, rfl, rfl, by omega, rfl, rfl⟩
  case round =>
    obtain ⟨k, a, rfl, rfl, rfl, hk, hh⟩ := hrel
    have hbd := numV_bd (B := 16) (by omega) (l.take k) hh.out.2
    rw [← hh.out.1, List.length_take, Nat.min_eq_left hk] at hbd
    by_cases hkn : k < l.length
    · have ha : 0 ≤ a ∧ a ≤ 4095 := by
        have : (16 : Int) ^ k ≤ 16 ^ 3 := by
          have h3 : k ≤ 3 := by omega
          rcases (by omega : k = 0 ∨ k = 1 ∨ k = 2 ∨ k = 3) with rfl | rfl | rfl | rfl <;> decide
        have h4 : (16 : Int) ^ 3 = 4096 := by decide
        omega
      obtain ⟨a0, a1⟩ := ha
      clear hbd
      obtain ⟨x, hx⟩ : ∃ x, l[k]? = some x := ⟨l[k], by simp [hkn]⟩
      have hc := HB.out k x hx
      have hc256 : x.toNat < 256 := x.toNat_lt
      have HX := Lib.hid hx
      clear hx
      by_cases hdig : 48 ≤ x.toNat ∧ x.toNat ≤ 57
      · obtain ⟨hd0, hd1⟩ := hdig
        have hd : bdig x = (x.toNat : Int) - 48 := by unfold bdig dig; rw [if_pos (by omega)]
        have HN : Hid (a * 16 + ((x.toNat : Int) - 48) = numV 16 (l.take (k + 1)) ∧ (l.take (k + 1)).all (isD 16) = true) := Lib.hid ⟨by rw [take_snoc HX.out, numV_snoc, hd, hh.out.1], by
          have h2 : isD 16 x = true := decide_eq_true (by omega)
          rw [take_snoc HX.out, List.all_append, hh.out.2]; simp [h2]⟩
        clear hh hd
        go_wp2
        refine ⟨⟨k + 1, a * 16 + ((x.toNat : Int) - 48), rfl, (by first | rfl | (congr 1; omega)), (by first | rfl | (congr 1; omega)), by omega, HN⟩, by simp [intOf]; omega⟩
      · have hlow := low_fin ⟨x.toNat, hc256⟩
        have hlb := low_bd ⟨x.toNat, hc256⟩
        have HL := Lib.hid (fun W => low_any x W)
        simp only at hlow hlb
        obtain ⟨v, hv⟩ : ∃ v, lowC x.toNat = v := ⟨_, rfl⟩
        rw [hv] at hlow hlb HL
        obtain ⟨hv0, hv1⟩ := hlb
        by_cases h95 : x.toNat = 95
        · have hx95 : x = 95 := UInt8.toNat.inj h95
          have HF := Lib.hid (pu_no (B := 16) HX.out (by rw [hx95]; decide))
          replace hc : W1.cell? { block := w.heap.size, off := k } = some (Value.int IntKind.u8 95) := by rw [hc, h95]; rfl
          clear hlow HX HL hx95 hh hdig h95
          go_wp2_with (go_at_call 115; refine (low95 _).mono ?_; rintro e w' ⟨rfl, rfl⟩)
          all_goals go_ret2
          all_goals exact ⟨ret_pu (by unfold puV; rw [HF.out]; rfl) (by unfold puEr; rw [HF.out]; rfl), hbw⟩
        have n95 : decide ((x.toNat : Int) = 95) = false := decide_eq_false (by omega)
        have m95 : ((x.toNat : Int) == 95) = false := by simp; omega
        rcases hlow with h | ⟨g0, g1, g2, g3⟩ | ⟨g0, g1⟩ | ⟨g0, g1⟩
        · exact absurd h hdig
        · by_cases hb : v - 87 < 16
          ·
            have hd : bdig x = v - 87 := g2 (by omega)
            have HN : Hid (a * 16 + (v - 87) = numV 16 (l.take (k + 1)) ∧ (l.take (k + 1)).all (isD 16) = true) := Lib.hid ⟨by rw [take_snoc HX.out, numV_snoc, hd, hh.out.1], by
              have h2 : isD 16 x = true := decide_eq_true (by omega)
              rw [take_snoc HX.out, List.all_append, hh.out.2]; simp [h2]⟩
            clear hh hd g2 g3
            go_wp2_with (go_at_call 115; refine (HL.out _).mono ?_; rintro e w' ⟨rfl, rfl⟩)
            all_goals refine ⟨⟨k + 1, a * 16 + (v - 87), rfl, (by first | rfl | (congr 1; omega)), (by first | rfl | (congr 1; omega)), by omega, HN⟩, by simp [intOf]; omega⟩
          · have HF := Lib.hid (pu_no (B := 16) HX.out (decide_eq_false (by unfold bdig; by_cases h : v ≤ 102; (rw [g2 h]; omega); (rw [g3 (by omega)]; omega))))
            clear g2 g3 hh
            go_wp2_with (go_at_call 115; refine (HL.out _).mono ?_; rintro e w' ⟨rfl, rfl⟩)
            all_goals go_ret2
            all_goals exact ⟨ret_pu (by unfold puV; rw [HF.out]; rfl) (by unfold puEr; rw [HF.out]; rfl), hbw⟩
        · have HF := Lib.hid (pu_no (B := 16) HX.out (decide_eq_false (by unfold bdig; rw [g1]; omega)))
          clear g1 hh
          go_wp2_with (go_at_call 115; refine (HL.out _).mono ?_; rintro e w' ⟨rfl, rfl⟩)
          all_goals go_ret2
          all_goals exact ⟨ret_pu (by unfold puV; rw [HF.out]; rfl) (by unfold puEr; rw [HF.out]; rfl), hbw⟩
        · have HF := Lib.hid (pu_no (B := 16) HX.out (decide_eq_false (by unfold bdig; rw [g1]; omega)))
          clear g1 hh
          go_wp2_with (go_at_call 115; refine (HL.out _).mono ?_; rintro e w' ⟨rfl, rfl⟩)
          all_goals go_ret2
          all_goals exact ⟨ret_pu (by unfold puV; rw [HF.out]; rfl) (by unfold puEr; rw [HF.out]; rfl), hbw⟩
    · obtain rfl : k = l.length := by omega
      have h1 := hh.out.1
      have h2 := hh.out.2
      rw [List.take_length] at h1 h2
      have HF := Lib.hid h2
      have HV := Lib.hid h1
      clear h1 h2 hh hbd
      go_wp2
      go_ret2
      exact ⟨ret_pu (by unfold puV; rw [HF.out, if_pos rfl, HV.out]) (by unfold puEr; rw [HF.out]; rfl), hbw⟩
end Go.Proofs.YtkjdigojajcgkaaGreatDoor
