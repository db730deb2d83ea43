/- Laws of layer 3, walked: what every law asks besides; reading; writing; back again. -/
import Derived.Test.YtmbmlindofchcaaDoorSw12
namespace Go.Proofs.YtmbmlindofchcaaDoor
open Go.RowKit
open St
set_option linter.unusedVariables false
attribute [local go_sem] ext_mk size_mk toList_mk get_mk take_drop_len take_tail_len ByteArray.mk_append_mk

theorem cat_ab (w : World) : Calls Tryd.prog 10 #[.slice (some ⟨w.heap.size, 0, none⟩) 2 2] (w.alloc (.cells #[.string ⟨#[97, 98]⟩, .string ⟨#[99]⟩] 9)) fun e w' => e = .returned (.tuple #[.string ⟨#[97, 98, 99]⟩, .int .i64 0]) ∧ Below w.heap.size w w' := by
  have h := cat_any (some ⟨w.heap.size, 0, none⟩) [[97, 98], [99]] 2 (w.alloc (.cells #[.string ⟨#[97, 98]⟩, .string ⟨#[99]⟩] 9)) ⟨by decide, .inr ⟨w.heap.size, 0, rfl, by simp, fun i hi => by
    match i, hi with
    | 0, _ => simp
    | 1, _ => simp
    | i + 2, hi => simp at hi; omega⟩⟩ (by decide)
  refine h.mono ?_
  rintro e w' ⟨rfl, hb⟩
  exact ⟨rfl, ((Below.refl _ _).alloc (Nat.le_refl _) _).trans (hb.mono (by simp))⟩

set_option maxHeartbeats 800000 in
theorem alive_any (w : World) (hv : StrVars w) : Calls Tryd.prog 12 #[] w fun e w' => e = .returned (.bool true) ∧ Below w.heap.size w w' := by
  have HV := Lib.hid hv
  have HR := Lib.hid (fun W hW => sread_any [92, 48, 54, 53, 98] W hW (by decide) (.inl (by decide)))
  rw [show readB [92, 48, 54, 53, 98] = [65, 98] by decide +kernel, show readN [92, 48, 54, 53, 98] = 0 by decide +kernel, show readE [92, 48, 54, 53, 98] = 0 by decide +kernel] at HR
  clear hv
  go_enter Tryd.func12, Tryd.ntmps12
  go_wp2_with (first | (go_at_call 10; refine (cat_ab _).mono ?_; rintro e w1 ⟨rfl, hb1⟩) | (go_at_call 13; refine (HR.out _ (HV.out.below hb1).1).mono ?_; rintro e w2 ⟨rfl, hb2⟩))
  go_ret
  exact ⟨rfl, hb1.trans (hb2.mono hb1.size)⟩

theorem w47 {l : List UInt8} {w : World} (he : ErrAt w) (hl : l.length ≤ 140737488351232) : Calls Tryd.prog 13 #[.string ⟨l.toArray⟩] w fun e w' => e = .returned (.tuple #[.string ⟨(readB l).toArray⟩, .int .i64 (readN l), .int .i64 (readE l)]) ∧ Below w.heap.size w w' :=
  sread_any l w he (by omega) (.inl hl)

set_option maxHeartbeats 800000 in
theorem strReads_walk (l : List UInt8) (w : World) (hv : StrVars w) (hl : l.length ≤ 140737488351232) :
    Calls Tryd.prog 4 #[.string ⟨l.toArray⟩] w fun e w' => e = .returned (.bool true) ∧ Below w.heap.size w w' := by
  have HV := Lib.hid hv
  obtain ⟨a, ha⟩ : ∃ a, readB l = a := ⟨_, rfl⟩
  obtain ⟨n, hn⟩ : ∃ n, readN l = n := ⟨_, rfl⟩
  obtain ⟨f, hf⟩ : ∃ f, readE l = f := ⟨_, rfl⟩
  have h1 := fun W hW => w47 (l := l) (w := W) hW hl
  have h2 := fun W => sref_read_any l W hl
  rw [ha, hn, hf] at h1 h2
  have H1 := Lib.hid h1
  have H2 := Lib.hid h2
  clear hv h1 h2 ha hn hf
  go_enter Tryd.func4, Tryd.ntmps4
  go_wp2_with (first | (go_at_call 13; refine (H1.out _ HV.out.1).mono ?_; rintro e w1 ⟨rfl, hb1⟩) | (go_at_call 14; refine (H2.out _).mono ?_; rintro e w2 ⟨rfl, hb2⟩) | (go_at_call 12; refine (alive_any _ ((HV.out.below hb1).below hb2)).mono ?_; rintro e w3 ⟨rfl, hb3⟩))
  go_ret
  exact ⟨rfl, (hb1.trans (hb2.mono hb1.size)).trans (hb3.mono (Nat.le_trans hb1.size hb2.size))⟩

set_option maxHeartbeats 800000 in
theorem strEscapes_walk (l : List UInt8) (w : World) (hv : StrVars w) (hl : l.length ≤ 140737488351232) :
    Calls Tryd.prog 6 #[.string ⟨l.toArray⟩] w fun e w' => e = .returned (.bool true) ∧ Below w.heap.size w w' := by
  have HV := Lib.hid hv
  obtain ⟨a, ha⟩ : ∃ a, escB l = a := ⟨_, rfl⟩
  obtain ⟨f, hf⟩ : ∃ f, escE l = f := ⟨_, rfl⟩
  have h1 := fun W hW => sescape_any l W hW hl
  have h2 := fun W => srescape_any l W hl
  rw [ha, hf] at h1 h2
  have H1 := Lib.hid h1
  have H2 := Lib.hid h2
  clear hv h1 h2 ha hf
  go_enter Tryd.func6, Tryd.ntmps6
  go_wp2_with (first | (go_at_call 15; refine (H1.out _ HV.out).mono ?_; rintro e w1 ⟨rfl, hb1⟩) | (go_at_call 16; refine (H2.out _).mono ?_; rintro e w2 ⟨rfl, hb2⟩) | (go_at_call 12; refine (alive_any _ ((HV.out.below hb1).below hb2)).mono ?_; rintro e w3 ⟨rfl, hb3⟩))
  go_ret
  exact ⟨rfl, (hb1.trans (hb2.mono hb1.size)).trans (hb3.mono (Nat.le_trans hb1.size hb2.size))⟩

set_option maxHeartbeats 800000 in
theorem strBack_walk (l : List UInt8) (w : World) (hv : StrVars w) (hl : l.length ≤ 140737488351232) :
    Calls Tryd.prog 7 #[.string ⟨l.toArray⟩] w fun e w' => e = .returned (.bool true) ∧ Below w.heap.size w w' := by
  have HV := Lib.hid hv
  have h1 := fun W hW => sescape_any l W hW hl
  rcases escE_bd l with h | h | h
  · have hb := esc_read h
    rw [h] at h1
    have h2 := fun W hW => w47 (l := escB l) (w := W) hW (by have := escB_len l; omega)
    rw [hb.1, hb.2.1, hb.2.2] at h2
    have H1 := Lib.hid h1
    have H2 := Lib.hid h2
    clear hv h1 h2 hb h
    go_enter Tryd.func7, Tryd.ntmps7
    go_wp2_with (first | (go_at_call 15; refine (H1.out _ HV.out).mono ?_; rintro e w1 ⟨rfl, hb1⟩) | (go_at_call 13; refine (H2.out _ (HV.out.below hb1).1).mono ?_; rintro e w2 ⟨rfl, hb2⟩) | (go_at_call 12; refine (alive_any _ ((HV.out.below hb1).below hb2)).mono ?_; rintro e w3 ⟨rfl, hb3⟩))
    go_ret
    exact ⟨rfl, (hb1.trans (hb2.mono hb1.size)).trans (hb3.mono (Nat.le_trans hb1.size hb2.size))⟩
  · rw [h] at h1
    have H1 := Lib.hid h1
    clear hv h1 h
    go_enter Tryd.func7, Tryd.ntmps7
    go_wp2_with (first | (go_at_call 15; refine (H1.out _ HV.out).mono ?_; rintro e w1 ⟨rfl, hb1⟩) | (go_at_call 12; refine (alive_any _ (HV.out.below hb1)).mono ?_; rintro e w3 ⟨rfl, hb3⟩))
    go_ret
    exact ⟨rfl, hb1.trans (hb3.mono hb1.size)⟩
  · rw [h] at h1
    have H1 := Lib.hid h1
    clear hv h1 h
    go_enter Tryd.func7, Tryd.ntmps7
    go_wp2_with (first | (go_at_call 15; refine (H1.out _ HV.out).mono ?_; rintro e w1 ⟨rfl, hb1⟩) | (go_at_call 12; refine (alive_any _ (HV.out.below hb1)).mono ?_; rintro e w3 ⟨rfl, hb3⟩))
    go_ret
    exact ⟨rfl, hb1.trans (hb3.mono hb1.size)⟩
end Go.Proofs.YtmbmlindofchcaaDoor
