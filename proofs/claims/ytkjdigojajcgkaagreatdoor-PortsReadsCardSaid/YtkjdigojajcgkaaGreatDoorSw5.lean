/- Walks of layer 3: the byte that so many digits spell; blanks. -/
import Derived.Test.YtkjdigojajcgkaaGreatDoorSw4
namespace Go.Proofs.YtkjdigojajcgkaaGreatDoor
open Go.RowKit
open St
set_option linter.unusedVariables false
attribute [local go_sem] ext_mk size_mk toList_mk get_mk take_drop_len take_tail_len ByteArray.mk_append_mk

/-- Where the library's error lies, something that is an error lies. -/
def ErrAt (w : World) : Prop := 6 < w.heap.size ∧ ∃ ev, w.cell? ⟨6, 0, none⟩ = some ev ∧ (ev = .nilIface ∨ ∃ te pe, ev = .iface te pe)

theorem ErrAt.below {w w' : World} (h : ErrAt w) (hb : Below w.heap.size w w') : ErrAt w' := by
  obtain ⟨h1, ev, hv, he⟩ := h
  exact ⟨Nat.lt_of_lt_of_le h1 hb.size, ev, by rw [hb.cell (p := ⟨6, 0, none⟩) h1]; exact hv, he⟩

set_option maxHeartbeats 800000 in
theorem pu10_ok (l : List UInt8) (hne : 0 < l.length) (hl : l.length ≤ 4) (hall : l.all (isD 10) = true) (w : World) :
    Calls Tryz.prog 110 #[.string ⟨l.toArray⟩, .int .i64 10, .int .i64 16] w fun e w' => e = .returned (.tuple #[.int .u64 (numV 10 l), .nilIface]) ∧ Below w.heap.size w w' := by
  have h := ipu10 l hne hl w
  rw [show puV 10 l = numV 10 l by unfold puV; rw [if_pos hall], show puEr 10 l = .nilIface by unfold puEr; rw [if_pos hall]] at h
  have HI := Lib.hid h
  clear h
  go_enter Tryz.func110, Tryz.ntmps110
  go_wp2_with (go_at_call 113; refine (HI.out).mono ?_; rintro e w1 ⟨rfl, hb1⟩)
  go_ret2
  exact ⟨rfl, hb1⟩

set_option maxHeartbeats 800000 in
theorem pu10_bad (l : List UInt8) (hne : 0 < l.length) (hl : l.length ≤ 4) (hall : l.all (isD 10) = false) (w : World) (he : ErrAt w) :
    Calls Tryz.prog 110 #[.string ⟨l.toArray⟩, .int .i64 10, .int .i64 16] w fun e w' => ∃ N : Nat, e = .returned (.tuple #[.int .u64 0, .iface 149 (.pointer (some ⟨N, 0, none⟩))]) ∧ Below w.heap.size w w' := by
  have h := ipu10 l hne hl w
  rw [show puV 10 l = 0 by unfold puV; rw [hall]; rfl, show puEr 10 l = .iface 147 (.int .i64 2) by unfold puEr; rw [hall]; rfl] at h
  have HI := Lib.hid h
  have ht : ∀ W : World, Below w.heap.size w W → Calls Tryz.prog 114 #[.string ⟨#[80, 97, 114, 115, 101, 85, 105, 110, 116]⟩, .string ⟨l.toArray⟩, .int .i64 10, .int .i64 16, .iface 147 (.int .i64 2)] W fun e w' => ∃ N : Nat, e = .returned (.iface 149 (.pointer (some ⟨N, 0, none⟩))) ∧ Below w.heap.size W w' := fun W hW => by
    obtain ⟨h1, ev, hv, he⟩ := he.below hW
    refine (Tryz.strconv_toError_syntax ⟨#[80, 97, 114, 115, 101, 85, 105, 110, 116]⟩ ⟨l.toArray⟩ 10 16 ev W (by rw [size_mk]; omega) hv he).mono ?_
    rintro e w' ⟨N, h1, _, _, h2⟩
    exact ⟨N, h1, h2.mono hW.size⟩
  have HT := Lib.hid ht
  clear h ht
  go_enter Tryz.func110, Tryz.ntmps110
  go_wp2_with (first | (go_at_call 113; refine (HI.out).mono ?_; rintro e w1 ⟨rfl, hb1⟩) | (go_at_call 114; refine (HT.out _ hb1).mono ?_; rintro e w2 ⟨N, rfl, hb2⟩))
  go_ret2
  exact ⟨_, rfl, hb1.trans hb2⟩

set_option maxHeartbeats 800000 in
theorem pu16_ok (l : List UInt8) (hne : 0 < l.length) (hl : l.length ≤ 4) (hall : l.all (isD 16) = true) (w : World) :
    Calls Tryz.prog 110 #[.string ⟨l.toArray⟩, .int .i64 16, .int .i64 16] w fun e w' => e = .returned (.tuple #[.int .u64 (numV 16 l), .nilIface]) ∧ Below w.heap.size w w' := by
  have h := ipu16 l hne hl w
  rw [show puV 16 l = numV 16 l by unfold puV; rw [if_pos hall], show puEr 16 l = .nilIface by unfold puEr; rw [if_pos hall]] at h
  have HI := Lib.hid h
  clear h
  go_enter Tryz.func110, Tryz.ntmps110
  go_wp2_with (go_at_call 113; refine (HI.out).mono ?_; rintro e w1 ⟨rfl, hb1⟩)
  go_ret2
  exact ⟨rfl, hb1⟩

set_option maxHeartbeats 800000 in
theorem pu16_bad (l : List UInt8) (hne : 0 < l.length) (hl : l.length ≤ 4) (hall : l.all (isD 16) = false) (w : World) (he : ErrAt w) :
    Calls Tryz.prog 110 #[.string ⟨l.toArray⟩, .int .i64 16, .int .i64 16] w fun e w' => ∃ N : Nat, e = .returned (.tuple #[.int .u64 0, .iface 149 (.pointer (some ⟨N, 0, none⟩))]) ∧ Below w.heap.size w w' := by
  have h := ipu16 l hne hl w
  rw [show puV 16 l = 0 by unfold puV; rw [hall]; rfl, show puEr 16 l = .iface 147 (.int .i64 2) by unfold puEr; rw [hall]; rfl] at h
  have HI := Lib.hid h
  have ht : ∀ W : World, Below w.heap.size w W → Calls Tryz.prog 114 #[.string ⟨#[80, 97, 114, 115, 101, 85, 105, 110, 116]⟩, .string ⟨l.toArray⟩, .int .i64 16, .int .i64 16, .iface 147 (.int .i64 2)] W fun e w' => ∃ N : Nat, e = .returned (.iface 149 (.pointer (some ⟨N, 0, none⟩))) ∧ Below w.heap.size W w' := fun W hW => by
    obtain ⟨h1, ev, hv, he⟩ := he.below hW
    refine (Tryz.strconv_toError_syntax ⟨#[80, 97, 114, 115, 101, 85, 105, 110, 116]⟩ ⟨l.toArray⟩ 16 16 ev W (by rw [size_mk]; omega) hv he).mono ?_
    rintro e w' ⟨N, h1, _, _, h2⟩
    exact ⟨N, h1, h2.mono hW.size⟩
  have HT := Lib.hid ht
  clear h ht
  go_enter Tryz.func110, Tryz.ntmps110
  go_wp2_with (first | (go_at_call 113; refine (HI.out).mono ?_; rintro e w1 ⟨rfl, hb1⟩) | (go_at_call 114; refine (HT.out _ hb1).mono ?_; rintro e w2 ⟨N, rfl, hb2⟩))
  go_ret2
  exact ⟨_, rfl, hb1.trans hb2⟩

theorem numN_short {B : Int} {n : Nat} {r : List UInt8} (h : r.length < n) : numN B n r = none := by unfold numN; rw [if_neg (by omega)]

theorem numN_bad {B : Int} {n : Nat} {r : List UInt8} (h : (r.take n).all (isD B) = false) : numN B n r = none := by unfold numN; rw [if_neg (by rw [h]; simp)]

theorem numN_big {B : Int} {n : Nat} {r : List UInt8} (h : 255 < numV B (r.take n)) : numN B n r = none := by unfold numN; rw [if_neg (by omega)]

theorem numN_good {B : Int} {n : Nat} {r : List UInt8} (h : n ≤ r.length) (ha : (r.take n).all (isD B) = true) (hv : numV B (r.take n) ≤ 255) : numN B n r = some (numV B (r.take n)).toNat := by unfold numN; rw [if_pos ⟨h, ha, hv⟩]

/-- what 'number' hands back -/
def NumR (o : Option Nat) (e : Ending) : Prop := ∃ b : Int, e = .returned (.tuple #[.int .u8 b, .bool o.isSome]) ∧ ∀ v, o = some v → b = v

theorem NumR.none {o : Option Nat} {b : Int} {c : Bool} (h : o = none) (hc : c = false) : NumR o (.returned (.tuple #[.int .u8 b, .bool c])) := by subst h; subst hc; exact ⟨b, rfl, fun v hv => by cases hv⟩

set_option maxHeartbeats 2000000 in
set_option maxRecDepth 100000 in
theorem num_u (l : List UInt8) (w : World) (he : ErrAt w) (hl : l.length ≤ 9223372036854775807) :
    Calls Tryz.prog 103 #[.string ⟨l.toArray⟩, .int .i64 2, .int .i64 4, .int .i64 16] w fun e w' => NumR (numN 16 4 (l.drop 2)) e ∧ Below w.heap.size w w' := by
  by_cases hs : l.length < 6
  · have HN := Lib.hid (numN_short (B := 16) (n := 4) (r := (l.drop 2)) (by rw [List.length_drop]; omega))
    go_enter Tryz.func103, Tryz.ntmps103
    go_wp2
    go_ret2
    exact ⟨NumR.none HN.out rfl, Below.refl _ _⟩
  · have hlen : ((l.drop 2).take 4).length = 4 := by rw [List.length_take, List.length_drop]; omega
    have hcv := Lib.run_convert_string_bytes (P := Tryz.prog) w 9 66 5 ⟨((l.drop 2).take 4).toArray⟩ (u := .string) Tryz.underlying9 Tryz.underlying66 Tryz.underlying5
    have hbw : Below w.heap.size w (Lib.bytesWorld w 5 ⟨((l.drop 2).take 4).toArray⟩) := Lib.bytesWorld_below w 5 _
    have hB : ∀ j x, ((l.drop 2).take 4)[j]? = some x → (Lib.bytesWorld w 5 ⟨((l.drop 2).take 4).toArray⟩).cell? ⟨w.heap.size, j, none⟩ = some (.int .u8 (x.toNat : Int)) := fun j x hj => by
      obtain ⟨h1, h2⟩ := List.getElem?_eq_some_iff.1 hj
      rw [Lib.bytesWorld_cell w 5 ⟨((l.drop 2).take 4).toArray⟩ j (by rw [size_mk]; exact h1)]
      rw [List.getD, hj]; rfl
    rw [size_mk, hlen] at hcv
    obtain ⟨W1, hW1⟩ : ∃ W1, W1 = Lib.bytesWorld w 5 ⟨((l.drop 2).take 4).toArray⟩ := ⟨_, rfl⟩
    rw [← hW1] at hcv hB hbw
    clear hW1
    have HB := Lib.hid hB
    clear hB
    have HE := Lib.hid (he.below hbw)
    have HLen := Lib.hid hlen
    clear hlen
    go_enter Tryz.func103, Tryz.ntmps103
    go_wp2
    go_loop [28] (fun vi => ∃ k : Nat, vi = .int .i64 k ∧ k ≤ 4) (fun vi => 4 - (intOf vi).toNat)
    case atStart => exact ⟨0, rfl, by omega⟩
    case round =>
      obtain ⟨k, rfl, hk⟩ := hrel
      by_cases hkn : k < 4
      · obtain ⟨x, hx⟩ : ∃ x, ((l.drop 2).take 4)[k]? = some x := ⟨((l.drop 2).take 4)[k]'(by rw [HLen.out]; exact hkn), by rw [List.getElem?_eq_getElem (by rw [HLen.out]; exact hkn)]⟩
        have hc := HB.out k x hx
        have hc256 : x.toNat < 256 := x.toNat_lt
        have HX := Lib.hid hx
        clear hx
        by_cases h95 : x.toNat = 95
        · have hxn : x = 95 := UInt8.toNat.inj h95
          clear h95
          have HF := Lib.hid (numN_bad (pu_no (B := 16) HX.out (by rw [hxn]; decide)))
          replace hc : W1.cell? { block := w.heap.size, off := k } = some (Value.int IntKind.u8 95) := by rw [hc, hxn]; rfl
          clear hxn HX
          go_wp2
          go_ret2
          exact ⟨NumR.none HF.out rfl, hbw⟩
        · by_cases h43 : x.toNat = 43
          · have hxn : x = 43 := UInt8.toNat.inj h43
            clear h43
            have HF := Lib.hid (numN_bad (pu_no (B := 16) HX.out (by rw [hxn]; decide)))
            replace hc : W1.cell? { block := w.heap.size, off := k } = some (Value.int IntKind.u8 43) := by rw [hc, hxn]; rfl
            clear hxn HX
            go_wp2
            go_ret2
            exact ⟨NumR.none HF.out rfl, hbw⟩
          · by_cases h45 : x.toNat = 45
            · have hxn : x = 45 := UInt8.toNat.inj h45
              clear h45
              have HF := Lib.hid (numN_bad (pu_no (B := 16) HX.out (by rw [hxn]; decide)))
              replace hc : W1.cell? { block := w.heap.size, off := k } = some (Value.int IntKind.u8 45) := by rw [hc, hxn]; rfl
              clear hxn HX
              go_wp2
              go_ret2
              exact ⟨NumR.none HF.out rfl, hbw⟩
            · have n95 : decide ((x.toNat : Int) = 95) = false := decide_eq_false (by omega)
              have m95 : ((x.toNat : Int) == 95) = false := by simp; omega
              have n43 : decide ((x.toNat : Int) = 43) = false := decide_eq_false (by omega)
              have m43 : ((x.toNat : Int) == 43) = false := by simp; omega
              have n45 : decide ((x.toNat : Int) = 45) = false := decide_eq_false (by omega)
              have m45 : ((x.toNat : Int) == 45) = false := by simp; omega
              go_wp2
              refine ⟨⟨k + 1, (by first | rfl | (congr 1; omega)), by omega⟩, by simp [intOf]; omega⟩
      · obtain rfl : k = 4 := by omega
        cases hall : ((l.drop 2).take 4).all (isD 16)
        · have HF := Lib.hid (numN_bad hall)
          have HP := Lib.hid (pu16_bad ((l.drop 2).take 4) (by rw [HLen.out]; omega) (by rw [HLen.out]; omega) hall W1 HE.out)
          clear hall
          go_wp2_with (go_at_call 110; refine (HP.out).mono ?_; rintro e w2 ⟨N, rfl, hb2⟩)
          go_ret2
          exact ⟨NumR.none HF.out rfl, hbw.trans (hb2.mono hbw.size)⟩
        · have hbd := numV_bd (B := 16) (by omega) _ hall
          rw [HLen.out] at hbd
          have HP := Lib.hid (pu16_ok ((l.drop 2).take 4) (by rw [HLen.out]; omega) (by rw [HLen.out]; omega) hall W1)
          obtain ⟨v, hv⟩ : ∃ v, numV 16 ((l.drop 2).take 4) = v := ⟨_, rfl⟩
          rw [hv] at hbd HP
          have hb0 := hbd.1
          have hb1 : v ≤ 65535 := Int.le_trans hbd.2 (by decide)
          by_cases hbig : v < 256
          · have HF := Lib.hid (numN_good (B := 16) (n := 4) (r := (l.drop 2)) (by rw [List.length_drop]; omega) hall (by omega))
            rw [hv] at HF
            have kk : decide (v < 256) = true := decide_eq_true hbig
            clear hall hv hbd
            go_wp2_with (go_at_call 110; refine (HP.out).mono ?_; rintro e w2 ⟨rfl, hb2⟩)
            go_ret2
            refine ⟨⟨v, ?_, ?_⟩, hbw.trans (hb2.mono hbw.size)⟩
            · rw [HF.out]; rfl
            · intro v' hv'; rw [HF.out] at hv'; cases hv'
              omega
          · have HF := Lib.hid (numN_big (B := 16) (n := 4) (r := (l.drop 2)) (by omega))
            have kk : decide (v < 256) = false := decide_eq_false hbig
            clear hall hv hbd
            go_wp2_with (go_at_call 110; refine (HP.out).mono ?_; rintro e w2 ⟨rfl, hb2⟩)
            go_ret2
            exact ⟨NumR.none HF.out rfl, hbw.trans (hb2.mono hbw.size)⟩

set_option maxHeartbeats 2000000 in
set_option maxRecDepth 100000 in
theorem num_d (l : List UInt8) (w : World) (he : ErrAt w) (hl : l.length ≤ 9223372036854775807) :
    Calls Tryz.prog 103 #[.string ⟨l.toArray⟩, .int .i64 1, .int .i64 3, .int .i64 10] w fun e w' => NumR (numN 10 3 l.tail) e ∧ Below w.heap.size w w' := by
  by_cases hs : l.length < 4
  · have HN := Lib.hid (numN_short (B := 10) (n := 3) (r := l.tail) (by rw [List.length_tail]; omega))
    go_enter Tryz.func103, Tryz.ntmps103
    go_wp2
    go_ret2
    exact ⟨NumR.none HN.out rfl, Below.refl _ _⟩
  · have hlen : (l.tail.take 3).length = 3 := by rw [List.length_take, List.length_tail]; omega
    have hcv := Lib.run_convert_string_bytes (P := Tryz.prog) w 9 66 5 ⟨(l.tail.take 3).toArray⟩ (u := .string) Tryz.underlying9 Tryz.underlying66 Tryz.underlying5
    have hbw : Below w.heap.size w (Lib.bytesWorld w 5 ⟨(l.tail.take 3).toArray⟩) := Lib.bytesWorld_below w 5 _
    have hB : ∀ j x, (l.tail.take 3)[j]? = some x → (Lib.bytesWorld w 5 ⟨(l.tail.take 3).toArray⟩).cell? ⟨w.heap.size, j, none⟩ = some (.int .u8 (x.toNat : Int)) := fun j x hj => by
      obtain ⟨h1, h2⟩ := List.getElem?_eq_some_iff.1 hj
      rw [Lib.bytesWorld_cell w 5 ⟨(l.tail.take 3).toArray⟩ j (by rw [size_mk]; exact h1)]
      rw [List.getD, hj]; rfl
    rw [size_mk, hlen] at hcv
    obtain ⟨W1, hW1⟩ : ∃ W1, W1 = Lib.bytesWorld w 5 ⟨(l.tail.take 3).toArray⟩ := ⟨_, rfl⟩
    rw [← hW1] at hcv hB hbw
    clear hW1
    have HB := Lib.hid hB
    clear hB
    have HE := Lib.hid (he.below hbw)
    have HLen := Lib.hid hlen
    clear hlen
    go_enter Tryz.func103, Tryz.ntmps103
    go_wp2
    go_loop [28] (fun vi => ∃ k : Nat, vi = .int .i64 k ∧ k ≤ 3) (fun vi => 3 - (intOf vi).toNat)
    case atStart => exact ⟨0, rfl, by omega⟩
    case round =>
      obtain ⟨k, rfl, hk⟩ := hrel
      by_cases hkn : k < 3
      · obtain ⟨x, hx⟩ : ∃ x, (l.tail.take 3)[k]? = some x := ⟨(l.tail.take 3)[k]'(by rw [HLen.out]; exact hkn), by rw [List.getElem?_eq_getElem (by rw [HLen.out]; exact hkn)]⟩
        have hc := HB.out k x hx
        have hc256 : x.toNat < 256 := x.toNat_lt
        have HX := Lib.hid hx
        clear hx
        by_cases h95 : x.toNat = 95
        · have hxn : x = 95 := UInt8.toNat.inj h95
          clear h95
          have HF := Lib.hid (numN_bad (pu_no (B := 10) HX.out (by rw [hxn]; decide)))
          replace hc : W1.cell? { block := w.heap.size, off := k } = some (Value.int IntKind.u8 95) := by rw [hc, hxn]; rfl
          clear hxn HX
          go_wp2
          go_ret2
          exact ⟨NumR.none HF.out rfl, hbw⟩
        · by_cases h43 : x.toNat = 43
          · have hxn : x = 43 := UInt8.toNat.inj h43
            clear h43
            have HF := Lib.hid (numN_bad (pu_no (B := 10) HX.out (by rw [hxn]; decide)))
            replace hc : W1.cell? { block := w.heap.size, off := k } = some (Value.int IntKind.u8 43) := by rw [hc, hxn]; rfl
            clear hxn HX
            go_wp2
            go_ret2
            exact ⟨NumR.none HF.out rfl, hbw⟩
          · by_cases h45 : x.toNat = 45
            · have hxn : x = 45 := UInt8.toNat.inj h45
              clear h45
              have HF := Lib.hid (numN_bad (pu_no (B := 10) HX.out (by rw [hxn]; decide)))
              replace hc : W1.cell? { block := w.heap.size, off := k } = some (Value.int IntKind.u8 45) := by rw [hc, hxn]; rfl
              clear hxn HX
              go_wp2
              go_ret2
              exact ⟨NumR.none HF.out rfl, hbw⟩
            · have n95 : decide ((x.toNat : Int) = 95) = false := decide_eq_false (by omega)
              have m95 : ((x.toNat : Int) == 95) = false := by simp; omega
              have n43 : decide ((x.toNat : Int) = 43) = false := decide_eq_false (by omega)
              have m43 : ((x.toNat : Int) == 43) = false := by simp; omega
              have n45 : decide ((x.toNat : Int) = 45) = false := decide_eq_false (by omega)
              have m45 : ((x.toNat : Int) == 45) = false := by simp; omega
              go_wp2
              refine ⟨⟨k + 1, (by first | rfl | (congr 1; omega)), by omega⟩, by simp [intOf]; omega⟩
      · obtain rfl : k = 3 := by omega
        cases hall : (l.tail.take 3).all (isD 10)
        · have HF := Lib.hid (numN_bad hall)
          have HP := Lib.hid (pu10_bad (l.tail.take 3) (by rw [HLen.out]; omega) (by rw [HLen.out]; omega) hall W1 HE.out)
          clear hall
          go_wp2_with (go_at_call 110; refine (HP.out).mono ?_; rintro e w2 ⟨N, rfl, hb2⟩)
          go_ret2
          exact ⟨NumR.none HF.out rfl, hbw.trans (hb2.mono hbw.size)⟩
        · have hbd := numV_bd (B := 10) (by omega) _ hall
          rw [HLen.out] at hbd
          have HP := Lib.hid (pu10_ok (l.tail.take 3) (by rw [HLen.out]; omega) (by rw [HLen.out]; omega) hall W1)
          obtain ⟨v, hv⟩ : ∃ v, numV 10 (l.tail.take 3) = v := ⟨_, rfl⟩
          rw [hv] at hbd HP
          have hb0 := hbd.1
          have hb1 : v ≤ 65535 := Int.le_trans hbd.2 (by decide)
          by_cases hbig : v < 256
          · have HF := Lib.hid (numN_good (B := 10) (n := 3) (r := l.tail) (by rw [List.length_tail]; omega) hall (by omega))
            rw [hv] at HF
            have kk : decide (v < 256) = true := decide_eq_true hbig
            clear hall hv hbd
            go_wp2_with (go_at_call 110; refine (HP.out).mono ?_; rintro e w2 ⟨rfl, hb2⟩)
            go_ret2
            refine ⟨⟨v, ?_, ?_⟩, hbw.trans (hb2.mono hbw.size)⟩
            · rw [HF.out]; rfl
            · intro v' hv'; rw [HF.out] at hv'; cases hv'
              omega
          · have HF := Lib.hid (numN_big (B := 10) (n := 3) (r := l.tail) (by omega))
            have kk : decide (v < 256) = false := decide_eq_false hbig
            clear hall hv hbd
            go_wp2_with (go_at_call 110; refine (HP.out).mono ?_; rintro e w2 ⟨rfl, hb2⟩)
            go_ret2
            exact ⟨NumR.none HF.out rfl, hbw.trans (hb2.mono hbw.size)⟩
end Go.Proofs.YtkjdigojajcgkaaGreatDoor
