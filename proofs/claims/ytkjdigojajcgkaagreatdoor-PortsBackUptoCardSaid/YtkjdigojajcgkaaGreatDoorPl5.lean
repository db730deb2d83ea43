/- Laws of layer 21, walked: what is written is read as the same. -/
import Derived.Test.YtkjdigojajcgkaaGreatDoorPx
namespace Go.Proofs.YtkjdigojajcgkaaGreatDoor
open Go.RowKit
open Pt (Oc Rs)
set_option linter.unusedVariables false
attribute [local go_sem] ext_mk size_mk toList_mk get_mk take_drop_len take_tail_len ByteArray.mk_append_mk List.append_toArray

theorem StrsAt.below {w w' : World} {a : Option Addr} {ls : List (List UInt8)} (h : StrsAt w a ls) (hb : Below w.heap.size w w') : StrsAt w' a ls := strsAt_below h hb

theorem texts_same (pa pb : Option Addr) (L : List (List UInt8)) (ca cb : Nat) (w : World) (ha : StrsAt w pa L) (hb : StrsAt w pb L) (hca : L.length ≤ ca) (hcb : L.length ≤ cb) :
    Calls Tryz.prog 12 #[.slice pa L.length ca, .slice pb L.length cb] w fun e w' => e = .returned (.bool true) ∧ Below w.heap.size w w' :=
  (texts_any pa pb L L ca cb w ha hb hca hcb).mono fun e w' ⟨he, hd⟩ => ⟨by rw [he, decide_eq_true rfl], hd.below⟩

theorem repB_len (o : Oc) : (Pt.repB o).length ≤ 1048576 := by
  unfold Pt.repB
  split
  next h =>
    unfold Pt.repE at h
    split at h
    · split at h
      next hl => exact hl
      next => cases h
    · cases h
  next => simp

theorem textB_len {ls : List (List UInt8)} (h : Pt.textE ls = 0) : (Pt.textB ls).length ≤ 1048576 := by
  unfold Pt.textB; rw [if_pos h, Pt.textL_len]
  unfold Pt.textE at h
  split at h
  · cases h
  · split at h
    · cases h
    · split at h
      · cases h
      · omega

/-- the cells of a box behind calls -/
structure BoxAt (W : World) (d : Nat) (v0 v1 v2 v3 : Value) : Prop where
  lt : d < W.heap.size
  c0 : W.cell? ⟨d, 0, none⟩ = some v0
  c1 : W.cell? ⟨d, 1, none⟩ = some v1
  c2 : W.cell? ⟨d, 2, none⟩ = some v2
  c3 : W.cell? ⟨d, 3, none⟩ = some v3

theorem BoxAt.new (w : World) (v0 v1 v2 v3 : Value) (T : TypeId) : BoxAt (w.alloc (.cells #[v0, v1, v2, v3] T)) w.heap.size v0 v1 v2 v3 := ⟨by simp, by simp, by simp, by simp, by simp⟩

theorem BoxAt.below {W V : World} {d : Nat} {v0 v1 v2 v3 : Value} (h : BoxAt W d v0 v1 v2 v3) (hb : Below W.heap.size W V) : BoxAt V d v0 v1 v2 v3 := by
  have k : ∀ n v, W.cell? ⟨d, n, none⟩ = some v → V.cell? ⟨d, n, none⟩ = some v := fun n v hv => by rw [hb.cell (p := ⟨d, n, none⟩) h.lt]; exact hv
  exact ⟨Nat.lt_of_lt_of_le h.lt hb.size, k _ _ h.c0, k _ _ h.c1, k _ _ h.c2, k _ _ h.c3⟩

set_option maxHeartbeats 4000000 in
set_option maxRecDepth 8000 in
theorem portsBack_walk (o : Oc) (v : Value) (p : Option Addr) (ls : List (List UInt8)) (cap : Nat) (w : World) (hv : PortVars w) (ho : OcAt w v o) (hn : o.out.length ≤ 1048576) (hx : o.exn.length ≤ 140737488351232) (hs1 : ∀ l ∈ o.out, l.length ≤ 140737488351232)
    (hp : StrsAt w p ls) (hcap : ls.length ≤ cap) (hs0 : ∀ l ∈ ls, l.length ≤ 140737488351232) :
    Calls Tryz.prog 4 #[v, .slice p ls.length cap] w fun e w' => e = .returned (.bool true) ∧ Below w.heap.size w w' := by
  obtain ⟨a, ca, rfl, ha1, ha2⟩ := ho
  have HV := Lib.hid hv
  have HP := Lib.hid hp
  have HCap := Lib.hid hcap
  have hb0 : Below w.heap.size w (w.alloc (.cells #[.slice a o.out.length ca, .int .i64 o.st, .string ⟨o.exn.toArray⟩, .int .i64 o.steps] 25)) := (Below.refl _ _).alloc (Nat.le_refl _) _
  have HB0 := Lib.hid (BoxAt.new w (.slice a o.out.length ca) (.int .i64 o.st) (.string ⟨o.exn.toArray⟩) (.int .i64 o.steps) 25)
  have HO := Lib.hid (show OcAt w _ o from ⟨a, ca, rfl, ha1, ha2⟩)
  have c1 := fun W hW h => report_any o (.agg #[.slice a o.out.length ca, .int .i64 o.st, .string ⟨o.exn.toArray⟩, .int .i64 o.steps]) W hW h hn hx hs1
  by_cases he : Pt.repE o = 0
  · have hbk := Pt.repB_back he
    have hrl := repB_len o
    have c2 : ∀ W, PortVars W → Calls Tryz.prog 5 #[.string ⟨(Pt.repB o).toArray⟩] W fun e w' => ∃ v, e = .returned (.tuple #[v, .int .i64 0, .int .i64 0]) ∧ OcAt w' v o ∧ Below W.heap.size W w' := fun W h => by
      have := spread_any (Pt.repB o) W h (by omega)
      unfold RdR at this; rw [hbk.1, hbk.2.1, hbk.2.2] at this; exact this
    rw [he] at c1
    obtain ⟨B, hB⟩ : ∃ B, Pt.repB o = B := ⟨_, rfl⟩
    rw [hB] at c1 c2
    have C1 := Lib.hid c1
    have C2 := Lib.hid c2
    clear c1 c2 hB hrl hbk he hv ha1 hp
    by_cases ht : Pt.textE ls = 0
    · have hlt := Pt.lines_text ht
      have htl := textB_len ht
      have k3 : ∀ W, StrsAt W p ls → Calls Tryz.prog 10 #[.slice p ls.length cap] W fun e w' => e = .returned (.tuple #[.string ⟨(Pt.textB ls).toArray⟩, .int .i64 0]) ∧ Below W.heap.size W w' := fun W h => by have := stext_any p ls cap W h hcap hs0; rw [ht] at this; exact this
      have k4 : ∀ W, PortVars W → Calls Tryz.prog 11 #[.string ⟨(Pt.textB ls).toArray⟩] W fun e w' => ∃ a c, e = .returned (.tuple #[.slice a ls.length c, .int .i64 0]) ∧ StrsAt w' a ls ∧ ls.length ≤ c ∧ Below W.heap.size W w' := fun W h => by
        have := lines_any (Pt.textB ls) W h (by omega)
        unfold LinesR at this; rw [hlt.1, hlt.2] at this; exact this
      obtain ⟨T, hT⟩ : ∃ T, Pt.textB ls = T := ⟨_, rfl⟩
      rw [hT] at k3 k4
      have K3 := Lib.hid k3
      have K4 := Lib.hid k4
      clear k3 k4 hlt htl ht hs0 hcap hT
      go_enter Tryz.func4, Tryz.ntmps4
      go_wp2_with (first
        | (go_at_call 9; (with_reducible refine (C1.out _ ?_ ?_).mono ?_); (exact HV.out.below hb0); (exact HO.out.below hb0); rintro e w1 ⟨rfl, hb1⟩; have hbx1 := HB0.out.below hb1; have HBX := Lib.hid hbx1; obtain ⟨_, e0, e1, e2, e3⟩ := hbx1; have h1 := hb0.trans (hb1.mono hb0.size))
        | (go_at_call 5; refine (C2.out _ (HV.out.below h1)).mono ?_; rintro e w2 ⟨v2, rfl, hoc2, hb2⟩; obtain ⟨a2, c2, rfl, s2, l2⟩ := hoc2; have hbx2 := HBX.out.below hb2; have HO2 := Lib.hid (show OcAt w2 (.agg #[.slice a2 o.out.length c2, .int .i64 o.st, .string ⟨o.exn.toArray⟩, .int .i64 o.steps]) o from ⟨a2, c2, rfl, s2, l2⟩); have h2 := h1.trans (hb2.mono h1.size); have hb3 : Below w2.heap.size w2 (w2.alloc (.cells #[.slice a2 o.out.length c2, .int .i64 o.st, .string ⟨o.exn.toArray⟩, .int .i64 o.steps] 25)) := (Below.refl _ _).alloc (Nat.le_refl _) _; have hbx3 := hbx2.below hb3; obtain ⟨_, e0, e1, e2, e3⟩ := hbx3; have h3 := h2.trans (hb3.mono h2.size))
        | (go_at_call 7; refine (same_same o _ _ _ (HO2.out.below hb3) (HO.out.below h3)).mono ?_; rintro e w2b ⟨rfl, hb2b⟩; have h2 := h3.trans (hb2b.mono h3.size); clear h3)
        | (go_at_call 10; refine (K3.out _ (HP.out.below h2)).mono ?_; rintro e w3 ⟨rfl, hb3⟩; have h3 := h2.trans (hb3.mono h2.size))
        | (go_at_call 11; refine (K4.out _ (HV.out.below h3)).mono ?_; rintro e w4 ⟨a4, c4, rfl, s4, l4, hb4⟩; have h4 := h3.trans (hb4.mono h3.size); have sp4 := HP.out.below h4)
        | (go_at_call 12; refine (texts_same _ _ _ _ _ _ s4 sp4 l4 HCap.out).mono ?_; rintro e w5 ⟨rfl, hb5⟩; have h4 := h4.trans (hb5.mono h4.size))
        | (go_at_call 8; refine (alive_any _ (HV.out.below h4)).mono ?_; rintro e w8 ⟨rfl, hb8⟩))
      go_ret
      exact ⟨rfl, h4.trans (hb8.mono h4.size)⟩
    · have k3 : ∀ W, StrsAt W p ls → Calls Tryz.prog 10 #[.slice p ls.length cap] W fun e w' => e = .returned (.tuple #[.string ⟨(Pt.textB ls).toArray⟩, .int .i64 (Pt.textE ls)]) ∧ Below W.heap.size W w' := fun W h => stext_any p ls cap W h hcap hs0
      have kt : (Pt.textE ls == 0) = false := by simp [ht]
      obtain ⟨T, hT⟩ : ∃ T, Pt.textB ls = T := ⟨_, rfl⟩
      obtain ⟨TE, hTE⟩ : ∃ T, Pt.textE ls = T := ⟨_, rfl⟩
      rw [hT, hTE] at k3
      rw [hTE] at kt
      have K3 := Lib.hid k3
      clear k3 ht hs0 hcap hT hTE
      go_enter Tryz.func4, Tryz.ntmps4
      go_wp2_with (first
        | (go_at_call 9; (with_reducible refine (C1.out _ ?_ ?_).mono ?_); (exact HV.out.below hb0); (exact HO.out.below hb0); rintro e w1 ⟨rfl, hb1⟩; have hbx1 := HB0.out.below hb1; have HBX := Lib.hid hbx1; obtain ⟨_, e0, e1, e2, e3⟩ := hbx1; have h1 := hb0.trans (hb1.mono hb0.size))
        | (go_at_call 5; refine (C2.out _ (HV.out.below h1)).mono ?_; rintro e w2 ⟨v2, rfl, hoc2, hb2⟩; obtain ⟨a2, c2, rfl, s2, l2⟩ := hoc2; have hbx2 := HBX.out.below hb2; have HO2 := Lib.hid (show OcAt w2 (.agg #[.slice a2 o.out.length c2, .int .i64 o.st, .string ⟨o.exn.toArray⟩, .int .i64 o.steps]) o from ⟨a2, c2, rfl, s2, l2⟩); have h2 := h1.trans (hb2.mono h1.size); have hb3 : Below w2.heap.size w2 (w2.alloc (.cells #[.slice a2 o.out.length c2, .int .i64 o.st, .string ⟨o.exn.toArray⟩, .int .i64 o.steps] 25)) := (Below.refl _ _).alloc (Nat.le_refl _) _; have hbx3 := hbx2.below hb3; obtain ⟨_, e0, e1, e2, e3⟩ := hbx3; have h3 := h2.trans (hb3.mono h2.size))
        | (go_at_call 7; refine (same_same o _ _ _ (HO2.out.below hb3) (HO.out.below h3)).mono ?_; rintro e w2b ⟨rfl, hb2b⟩; have h2 := h3.trans (hb2b.mono h3.size); clear h3)
        | (go_at_call 10; refine (K3.out _ (HP.out.below h2)).mono ?_; rintro e w3 ⟨rfl, hb3⟩; have h4 := h2.trans (hb3.mono h2.size))
        | (go_at_call 8; refine (alive_any _ (HV.out.below h4)).mono ?_; rintro e w8 ⟨rfl, hb8⟩))
      go_ret
      exact ⟨rfl, h4.trans (hb8.mono h4.size)⟩
  · have ke : (Pt.repE o == 0) = false := by simp [he]
    obtain ⟨B, hB⟩ : ∃ B, Pt.repB o = B := ⟨_, rfl⟩
    obtain ⟨E, hE⟩ : ∃ B, Pt.repE o = B := ⟨_, rfl⟩
    rw [hB, hE] at c1
    rw [hE] at ke
    have C1 := Lib.hid c1
    clear c1 hB hE he hv ha1 hp
    by_cases ht : Pt.textE ls = 0
    · have hlt := Pt.lines_text ht
      have htl := textB_len ht
      have k3 : ∀ W, StrsAt W p ls → Calls Tryz.prog 10 #[.slice p ls.length cap] W fun e w' => e = .returned (.tuple #[.string ⟨(Pt.textB ls).toArray⟩, .int .i64 0]) ∧ Below W.heap.size W w' := fun W h => by have := stext_any p ls cap W h hcap hs0; rw [ht] at this; exact this
      have k4 : ∀ W, PortVars W → Calls Tryz.prog 11 #[.string ⟨(Pt.textB ls).toArray⟩] W fun e w' => ∃ a c, e = .returned (.tuple #[.slice a ls.length c, .int .i64 0]) ∧ StrsAt w' a ls ∧ ls.length ≤ c ∧ Below W.heap.size W w' := fun W h => by
        have := lines_any (Pt.textB ls) W h (by omega)
        unfold LinesR at this; rw [hlt.1, hlt.2] at this; exact this
      obtain ⟨T, hT⟩ : ∃ T, Pt.textB ls = T := ⟨_, rfl⟩
      rw [hT] at k3 k4
      have K3 := Lib.hid k3
      have K4 := Lib.hid k4
      clear k3 k4 hlt htl ht hs0 hcap hT
      go_enter Tryz.func4, Tryz.ntmps4
      go_wp2_with (first
        | (go_at_call 9; (with_reducible refine (C1.out _ ?_ ?_).mono ?_); (exact HV.out.below hb0); (exact HO.out.below hb0); rintro e w1 ⟨rfl, hb1⟩; have hbx1 := HB0.out.below hb1; have HBX := Lib.hid hbx1; obtain ⟨_, e0, e1, e2, e3⟩ := hbx1; have h1 := hb0.trans (hb1.mono hb0.size))
        | (go_at_call 10; refine (K3.out _ (HP.out.below h1)).mono ?_; rintro e w3 ⟨rfl, hb3⟩; have h3 := h1.trans (hb3.mono h1.size))
        | (go_at_call 11; refine (K4.out _ (HV.out.below h3)).mono ?_; rintro e w4 ⟨a4, c4, rfl, s4, l4, hb4⟩; have h4 := h3.trans (hb4.mono h3.size); have sp4 := HP.out.below h4)
        | (go_at_call 12; refine (texts_same _ _ _ _ _ _ s4 sp4 l4 HCap.out).mono ?_; rintro e w5 ⟨rfl, hb5⟩; have h4 := h4.trans (hb5.mono h4.size))
        | (go_at_call 8; refine (alive_any _ (HV.out.below h4)).mono ?_; rintro e w8 ⟨rfl, hb8⟩))
      go_ret
      exact ⟨rfl, h4.trans (hb8.mono h4.size)⟩
    · have k3 : ∀ W, StrsAt W p ls → Calls Tryz.prog 10 #[.slice p ls.length cap] W fun e w' => e = .returned (.tuple #[.string ⟨(Pt.textB ls).toArray⟩, .int .i64 (Pt.textE ls)]) ∧ Below W.heap.size W w' := fun W h => stext_any p ls cap W h hcap hs0
      have kt : (Pt.textE ls == 0) = false := by simp [ht]
      obtain ⟨T, hT⟩ : ∃ T, Pt.textB ls = T := ⟨_, rfl⟩
      obtain ⟨TE, hTE⟩ : ∃ T, Pt.textE ls = T := ⟨_, rfl⟩
      rw [hT, hTE] at k3
      rw [hTE] at kt
      have K3 := Lib.hid k3
      clear k3 ht hs0 hcap hT hTE
      go_enter Tryz.func4, Tryz.ntmps4
      go_wp2_with (first
        | (go_at_call 9; (with_reducible refine (C1.out _ ?_ ?_).mono ?_); (exact HV.out.below hb0); (exact HO.out.below hb0); rintro e w1 ⟨rfl, hb1⟩; have hbx1 := HB0.out.below hb1; have HBX := Lib.hid hbx1; obtain ⟨_, e0, e1, e2, e3⟩ := hbx1; have h1 := hb0.trans (hb1.mono hb0.size))
        | (go_at_call 10; refine (K3.out _ (HP.out.below h1)).mono ?_; rintro e w3 ⟨rfl, hb3⟩; have h4 := h1.trans (hb3.mono h1.size))
        | (go_at_call 8; refine (alive_any _ (HV.out.below h4)).mono ?_; rintro e w8 ⟨rfl, hb8⟩))
      go_ret
      exact ⟨rfl, h4.trans (hb8.mono h4.size)⟩
end Go.Proofs.YtkjdigojajcgkaaGreatDoor
