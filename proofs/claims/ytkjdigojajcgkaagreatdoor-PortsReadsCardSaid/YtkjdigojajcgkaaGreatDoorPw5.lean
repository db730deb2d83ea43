/- Walks of layer 21: reports, on both sides; what every law asks besides. -/
import Derived.Test.YtkjdigojajcgkaaGreatDoorPw4
namespace Go.Proofs.YtkjdigojajcgkaaGreatDoor
open Go.RowKit
open Pt (Oc)
set_option linter.unusedVariables false
attribute [local go_sem] ext_mk size_mk toList_mk get_mk take_drop_len take_tail_len ByteArray.mk_append_mk List.append_toArray

theorem rep_no {o : Oc} (h : Pt.repOk o = false) : Pt.repB o = [] ∧ Pt.repE o = 1 := by
  have : Pt.repE o = 1 := by unfold Pt.repE; rw [h]; rfl
  exact ⟨by unfold Pt.repB; rw [this]; rfl, this⟩

theorem rep_long {o : Oc} (h : Pt.repOk o = true) (hl : 1048576 < (Pt.repL o).length) : Pt.repB o = [] ∧ Pt.repE o = 2 := by
  have : Pt.repE o = 2 := by unfold Pt.repE; rw [if_pos h, if_neg (by omega)]
  exact ⟨by unfold Pt.repB; rw [this]; rfl, this⟩

theorem rep_yes {o : Oc} (h : Pt.repOk o = true) (hl : (Pt.repL o).length ≤ 1048576) : Pt.repB o = Pt.repL o ∧ Pt.repE o = 0 := by
  have : Pt.repE o = 0 := by unfold Pt.repE; rw [if_pos h, if_pos hl]
  exact ⟨by unfold Pt.repB; rw [if_pos this], this⟩

set_option maxHeartbeats 800000 in
theorem report_any (o : Oc) (v : Value) (w : World) (hv : PortVars w) (ho : OcAt w v o) (hn : o.out.length ≤ 1048576) (hx : o.exn.length ≤ 140737488351232) (hs0 : ∀ l ∈ o.out, l.length ≤ 140737488351232) :
    Calls Tryz.prog 9 #[v] w fun e w' => e = .returned (.tuple #[.string ⟨(Pt.repB o).toArray⟩, .int .i64 (Pt.repE o)]) ∧ Below w.heap.size w w' := by
  obtain ⟨a, cap, rfl, ha1, ha2⟩ := ho
  have hb0 : Below w.heap.size w (w.alloc (.cells #[.slice a o.out.length cap, .int .i64 o.st, .string ⟨o.exn.toArray⟩, .int .i64 o.steps] 25)) := (Below.refl _ _).alloc (Nat.le_refl _) _
  have c1 := written_any o (.agg #[.slice a o.out.length cap, .int .i64 o.st, .string ⟨o.exn.toArray⟩, .int .i64 o.steps]) _ (hv.below hb0) (OcAt.below ⟨a, cap, rfl, ha1, ha2⟩ hb0) hn hx hs0
  cases hr : Pt.repOk o
  · have HE := Lib.hid (rep_no hr)
    rw [(wr_no hr).1, hr] at c1
    have C1 := Lib.hid c1
    clear c1 hr hv ha1 hs0
    go_enter Tryz.func9, Tryz.ntmps9
    go_wp2_with (go_at_call 20; refine (C1.out).mono ?_; rintro e w1 ⟨rfl, hb1⟩)
    go_ret2
    exact ⟨ret_text HE.out.1.symm HE.out.2.symm, hb0.trans (hb1.mono (by simp))⟩
  · have hw : writB o = Pt.repL o := by unfold writB; rw [if_pos hr]
    rw [hw, hr] at c1
    obtain ⟨L, hL⟩ : ∃ L, Pt.repL o = L := ⟨_, rfl⟩
    rw [hL] at c1
    have C1 := Lib.hid c1
    by_cases hl : 1048576 < L.length
    · have HE := Lib.hid (rep_long hr (by rw [hL]; exact hl))
      clear c1 hr hv ha1 hs0 hw hL
      go_enter Tryz.func9, Tryz.ntmps9
      go_wp2_with (go_at_call 20; refine (C1.out).mono ?_; rintro e w1 ⟨rfl, hb1⟩)
      go_ret2
      exact ⟨ret_text HE.out.1.symm HE.out.2.symm, hb0.trans (hb1.mono (by simp))⟩
    · have HE := Lib.hid (rep_yes hr (by rw [hL]; omega))
      rw [hL] at HE
      clear c1 hr hv ha1 hs0 hw hL
      go_enter Tryz.func9, Tryz.ntmps9
      go_wp2_with (go_at_call 20; refine (C1.out).mono ?_; rintro e w1 ⟨rfl, hb1⟩)
      go_ret2
      exact ⟨ret_text HE.out.1.symm HE.out.2.symm, hb0.trans (hb1.mono (by simp))⟩

/-- no outcome: nothing printed -/
theorem ocAt_zero (w : World) : OcAt w (.agg #[.slice none 0 0, .int .i64 0, .string ⟨#[]⟩, .int .i64 0]) ⟨[], 0, [], 0⟩ := ⟨none, 0, rfl, ⟨by simp, .inl rfl⟩, by simp⟩

theorem ocAt_two (w : World) : OcAt (w.alloc (.cells #[.string ⟨#[97]⟩, .string ⟨#[10]⟩] 9)) (.agg #[.slice (some ⟨w.heap.size, 0, none⟩) 2 2, .int .i64 1, .string ⟨#[]⟩, .int .i64 5]) ⟨[[97], [10]], 1, [], 5⟩ := by
  refine ⟨some ⟨w.heap.size, 0, none⟩, 2, rfl, ⟨by simp, .inr ⟨w.heap.size, 0, rfl, by simp, fun i hi => ?_⟩⟩, by simp⟩
  match i, hi with
  | 0, _ => simp
  | 1, _ => simp
  | i + 2, hi => simp at hi; omega

set_option maxHeartbeats 1600000 in
set_option maxRecDepth 100000 in
theorem alive_any (w : World) (hv : PortVars w) : Calls Tryz.prog 8 #[] w fun e w' => e = .returned (.bool true) ∧ Below w.heap.size w w' := by
  have HV := Lib.hid hv
  have h1 := lines_any [97, 10, 10, 98] w hv (by decide)
  have H1 : Hid (Calls Tryz.prog 11 #[.string ⟨#[97, 10, 10, 98]⟩] w fun e w' => ∃ a cap, e = .returned (.tuple #[.slice a 3 cap, .int .i64 0]) ∧ Below w.heap.size w w') := Lib.hid (h1.mono fun e w' ⟨a, cap, he, _, _, hb⟩ => ⟨a, cap, he, hb⟩)
  have H2 := Lib.hid (fun W hW => report_any ⟨[[97], [10]], 1, [], 5⟩ _ _ hW (ocAt_two W) (by decide) (by decide) (by intro l hl; simp at hl; rcases hl with rfl | rfl <;> decide))
  rw [show Pt.repB ⟨[[97], [10]], 1, [], 5⟩ = [111, 117, 116, 32, 34, 97, 34, 10, 111, 117, 116, 32, 34, 92, 110, 34, 10, 100, 111, 110, 101, 10, 115, 116, 101, 112, 115, 32, 53, 10] by decide +kernel, show Pt.repE ⟨[[97], [10]], 1, [], 5⟩ = 0 by decide +kernel] at H2
  have H3 := Lib.hid (fun W => begins_any ⟨[], 0, [], 0⟩ ⟨[], 0, [], 0⟩ _ _ W (ocAt_zero W) (ocAt_zero W) (by decide) (by decide))
  rw [show Pt.begB ([] : List (List UInt8)).flatten ([] : List (List UInt8)).flatten = true by decide] at H3
  clear hv h1
  go_enter Tryz.func8, Tryz.ntmps8
  go_wp2_with (first | (go_at_call 11; refine (H1.out).mono ?_; rintro e w1 ⟨pa, pc, rfl, hb1⟩) | (go_at_call 9; refine (H2.out _ (HV.out.below (hb1.trans ((Below.refl _ _).alloc hb1.size _)))).mono ?_; rintro e w2 ⟨rfl, hb2⟩) | (go_at_call 19; refine (H3.out _).mono ?_; rintro e w3 ⟨rfl, hb3⟩))
  go_ret
  exact ⟨rfl, ((hb1.alloc hb1.size _).trans (hb2.mono (by have := hb1.size; simp; omega))).trans (hb3.mono (by have h1 := hb1.size; have h2 := hb2.size; simp at h2; omega))⟩
end Go.Proofs.YtkjdigojajcgkaaGreatDoor
