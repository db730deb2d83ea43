/- Laws of layer 21, walked: what every text is as a report. -/
import Derived.Test.YtkjdigojajcgkaaGreatDoorPy2
namespace Go.Proofs.YtkjdigojajcgkaaGreatDoor
open Go.RowKit
open Pt (Oc Rs)
set_option linter.unusedVariables false
attribute [local go_sem] ext_mk size_mk toList_mk get_mk take_drop_len take_tail_len ByteArray.mk_append_mk List.append_toArray

set_option maxHeartbeats 4000000 in
theorem portsReads_walk (l : List UInt8) (w : World) (hv : PortVars w) (hl : l.length ≤ 140737488351232) :
    Calls Tryz.prog 3 #[.string ⟨l.toArray⟩] w fun e w' => e = .returned (.bool true) ∧ Below w.heap.size w w' := by
  have HV := Lib.hid hv
  have k1 := fun W h => spread_any l W h hl
  have k2 := fun W => rread_any l W hl
  unfold RdR at k1 k2
  obtain ⟨N, hN⟩ : ∃ x, Pt.rrN l = x := ⟨_, rfl⟩
  obtain ⟨E, hE⟩ : ∃ x, Pt.rrE l = x := ⟨_, rfl⟩
  obtain ⟨O, hO⟩ : ∃ x, Pt.rrO l = x := ⟨_, rfl⟩
  rw [hN, hE, hO] at k1 k2
  have K1 := Lib.hid k1
  have K2 := Lib.hid k2
  clear k1 k2 hN hE hO hv hl
  go_enter Tryz.func3, Tryz.ntmps3
  go_wp2_with (first
    | (go_at_call 5; refine (K1.out _ HV.out).mono ?_; rintro e w1 ⟨v1, rfl, ho1, hb1⟩; obtain ⟨a1, c1, rfl, s1, l1⟩ := ho1; have ho1 : OcAt w1 (.agg #[.slice a1 O.out.length c1, .int .i64 O.st, .string ⟨O.exn.toArray⟩, .int .i64 O.steps]) O := ⟨a1, c1, rfl, s1, l1⟩; have hbx1 := BoxAt.new w1 (.slice a1 O.out.length c1) (.int .i64 O.st) (.string ⟨O.exn.toArray⟩) (.int .i64 O.steps) 25; have g1 : Below w1.heap.size w1 (w1.alloc (.cells #[.slice a1 O.out.length c1, .int .i64 O.st, .string ⟨O.exn.toArray⟩, .int .i64 O.steps] 25)) := (Below.refl _ _).alloc (Nat.le_refl _) _; have h1 := hb1.trans (g1.mono hb1.size); have HBX := Lib.hid hbx1; have HO1 := Lib.hid (ho1.below g1); clear hbx1)
    | (go_at_call 6; refine (K2.out _).mono ?_; rintro e w2 ⟨v2, rfl, ho2, hb2⟩; obtain ⟨a2, c2, rfl, s2, l2⟩ := ho2; have ho2 : OcAt w2 (.agg #[.slice a2 O.out.length c2, .int .i64 O.st, .string ⟨O.exn.toArray⟩, .int .i64 O.steps]) O := ⟨a2, c2, rfl, s2, l2⟩; have hbx2 := HBX.out.below hb2; obtain ⟨blt, e0, e1, e2, e3⟩ := hbx2; have g2 : Below w2.heap.size w2 (w2.alloc (.cells #[.slice a2 O.out.length c2, .int .i64 O.st, .string ⟨O.exn.toArray⟩, .int .i64 O.steps] 25)) := (Below.refl _ _).alloc (Nat.le_refl _) _; have h2 := h1.trans (hb2.mono h1.size); have h3 := h2.trans (g2.mono h2.size); have HO2 := Lib.hid (ho2.below g2); have HO3 := Lib.hid ((HO1.out.below hb2).below g2))
    | (go_at_call 7; refine (same_same O _ _ _ HO3.out HO2.out).mono ?_; rintro e w4 ⟨rfl, hb4⟩; have h4 := h3.trans (hb4.mono h3.size))
    | (go_at_call 8; refine (alive_any _ (HV.out.below h4)).mono ?_; rintro e w8 ⟨rfl, hb8⟩))
  go_ret
  exact ⟨rfl, h4.trans (hb8.mono h4.size)⟩
end Go.Proofs.YtkjdigojajcgkaaGreatDoor
