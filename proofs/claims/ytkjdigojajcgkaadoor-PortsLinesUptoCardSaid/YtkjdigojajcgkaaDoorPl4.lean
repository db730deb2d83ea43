/- Laws of layer 21, walked: lines. -/
import Derived.Test.YtkjdigojajcgkaaDoorPw10
namespace Go.Proofs.YtkjdigojajcgkaaDoor
open Go.RowKit
open Pt (Oc)
set_option linter.unusedVariables false
attribute [local go_sem] ext_mk size_mk toList_mk get_mk take_drop_len take_tail_len ByteArray.mk_append_mk List.append_toArray

theorem StrsAt.below {w w' : World} {a : Option Addr} {ls : List (List UInt8)} (h : StrsAt w a ls) (hb : Below w.heap.size w w') : StrsAt w' a ls := by
  obtain ⟨hm, h | ⟨b, off, ha, hlt, hc⟩⟩ := h
  · exact ⟨hm, .inl h⟩
  · exact ⟨hm, .inr ⟨b, off, ha, Nat.lt_of_lt_of_le hlt hb.size, fun i hi => by rw [hb.cell (p := ⟨b, off + i, none⟩) hlt]; exact hc i hi⟩⟩

theorem texts_same (pa pb : Option Addr) (L : List (List UInt8)) (ca cb : Nat) (w : World) (ha : StrsAt w pa L) (hb : StrsAt w pb L) (hca : L.length ≤ ca) (hcb : L.length ≤ cb) :
    Calls Tryd.prog 21 #[.slice pa L.length ca, .slice pb L.length cb] w fun e w' => e = .returned (.bool true) ∧ Below w.heap.size w w' :=
  (texts_any pa pb L L ca cb w ha hb hca hcb).mono fun e w' ⟨he, hd⟩ => ⟨by rw [he, decide_eq_true rfl], hd.below⟩

set_option maxHeartbeats 4000000 in
set_option maxRecDepth 8000 in
theorem portsLines_walk (l : List UInt8) (p : Option Addr) (ls : List (List UInt8)) (cap : Nat) (w : World) (hv : PortVars w) (hl : l.length ≤ 140737488351232) (hp : StrsAt w p ls) (hcap : ls.length ≤ cap) (hf : ls.flatten.length ≤ 140737488351232) (hs0 : ∀ l ∈ ls, l.length ≤ 140737488351232) :
    Calls Tryd.prog 7 #[.string ⟨l.toArray⟩, .slice p ls.length cap] w fun e w' => e = .returned (.bool true) ∧ Below w.heap.size w w' := by
  have HV := Lib.hid hv
  have HP := Lib.hid hp
  have k1 : ∀ W, PortVars W → Calls Tryd.prog 17 #[.string ⟨l.toArray⟩] W (LinesR W l) := fun W h => lines_any l W h hl
  have k2 : ∀ W, Calls Tryd.prog 18 #[.string ⟨l.toArray⟩] W (LinesR W l) := fun W => rlines_any l W hl
  have k3 : ∀ W, StrsAt W p ls → Calls Tryd.prog 19 #[.slice p ls.length cap] W fun e w' => e = .returned (.tuple #[.string ⟨(Pt.textB ls).toArray⟩, .int .i64 (Pt.textE ls)]) ∧ Below W.heap.size W w' := fun W h => stext_any p ls cap W h hcap hs0
  have k4 : ∀ W, StrsAt W p ls → Calls Tryd.prog 20 #[.slice p ls.length cap] W fun e w' => e = .returned (.tuple #[.string ⟨(Pt.textB ls).toArray⟩, .int .i64 (Pt.textE ls)]) ∧ Below W.heap.size W w' := fun W h => rtext_any2 p ls cap W h hs0
  have k6 : ∀ W, StrsAt W p ls → Calls Tryd.prog 16 #[.slice p ls.length cap] W fun e w' => e = .returned (.string ⟨ls.flatten.toArray⟩) ∧ Below W.heap.size W w' := fun W h => sjoined_any p ls cap W h hcap hf
  have k7 : ∀ W, StrsAt W p ls → Calls Tryd.prog 22 #[.slice p ls.length cap] W fun e w' => e = .returned (.string ⟨ls.flatten.toArray⟩) ∧ Below W.heap.size W w' := fun W h => rjoined_any p ls cap W h hf
  unfold LinesR at k1 k2
  obtain ⟨L, hL⟩ : ∃ x, Pt.linesB l = x := ⟨_, rfl⟩
  obtain ⟨E, hE⟩ : ∃ x, Pt.linesE l = x := ⟨_, rfl⟩
  obtain ⟨TB, hTB⟩ : ∃ x, Pt.textB ls = x := ⟨_, rfl⟩
  obtain ⟨TE, hTE⟩ : ∃ x, Pt.textE ls = x := ⟨_, rfl⟩
  obtain ⟨F, hF⟩ : ∃ x, ls.flatten = x := ⟨_, rfl⟩
  rw [hL, hE] at k1 k2
  rw [hTB, hTE] at k3 k4
  rw [hF] at k6 k7
  have K1 := Lib.hid k1
  have K2 := Lib.hid k2
  have K3 := Lib.hid k3
  have K4 := Lib.hid k4
  have K6 := Lib.hid k6
  have K7 := Lib.hid k7
  clear k1 k2 k3 k4 k6 k7 hL hE hTB hTE hF hf hs0 hl hv hp
  go_enter Tryd.func7, Tryd.ntmps7
  go_wp2_with (first
    | (go_at_call 17; refine (K1.out _ HV.out).mono ?_; rintro e w1 ⟨a1, c1, rfl, s1, l1, hb1⟩)
    | (go_at_call 18; refine (K2.out _).mono ?_; rintro e w2 ⟨a2, c2, rfl, s2, l2, hb2⟩; have h2 := hb1.trans (hb2.mono hb1.size))
    | (go_at_call 19; refine (K3.out _ (HP.out.below h2)).mono ?_; rintro e w3 ⟨rfl, hb3⟩; have h3 := h2.trans (hb3.mono h2.size))
    | (go_at_call 20; refine (K4.out _ (HP.out.below h3)).mono ?_; rintro e w4 ⟨rfl, hb4⟩; have h4 := h3.trans (hb4.mono h3.size); have s14 := ((s1.below hb2).below hb3).below hb4; have s24 := (s2.below hb3).below hb4)
    | (go_at_call 21; refine (texts_same _ _ _ _ _ _ s14 s24 l1 l2).mono ?_; rintro e w5 ⟨rfl, hb5⟩; have h5 := h4.trans (hb5.mono h4.size))
    | (go_at_call 16; refine (K6.out _ (HP.out.below h5)).mono ?_; rintro e w6 ⟨rfl, hb6⟩; have h6 := h5.trans (hb6.mono h5.size))
    | (go_at_call 22; refine (K7.out _ (HP.out.below h6)).mono ?_; rintro e w7 ⟨rfl, hb7⟩; have h7 := h6.trans (hb7.mono h6.size))
    | (go_at_call 10; refine (alive_any _ (HV.out.below h7)).mono ?_; rintro e w8 ⟨rfl, hb8⟩))
  go_ret
  exact ⟨rfl, h7.trans (hb8.mono h7.size)⟩
end Go.Proofs.YtkjdigojajcgkaaDoor
