/- Walks of layer 16: a small program is well-formed. -/
import Derived.Test.YtgbgahdeopedpaaIi
namespace Go.Proofs.Ytgbgahdeopedpaa
open Go.RowKit
set_option linter.unusedVariables false
attribute [local go_sem] ext_mk size_mk toList_mk get_mk take_drop_len take_tail_len ByteArray.mk_append_mk List.append_toArray

theorem P1At.c1 {w : World} {F C cc : Nat} (h : P1At w F C cc) : C1At w C := ⟨h.cl, h.c⟩

def pBlk (F cf : Nat) : Obj := .cells #[.slice (some ⟨F, 0, none⟩) 1 cf, .slice none 0 0, .slice none 0 0, .int .i64 0] 31 (0, 0)

theorem KAt.pcells {W : World} {m F cf : Nat} (h : KAt W m (pBlk F cf)) : W.cell? ⟨m, 0, none⟩ = some (.slice (some ⟨F, 0, none⟩) 1 cf) ∧ W.cell? ⟨m, 1, none⟩ = some (.slice none 0 0) ∧ W.cell? ⟨m, 2, none⟩ = some (.slice none 0 0) ∧ W.cell? ⟨m, 3, none⟩ = some (.int .i64 0) := by
  refine ⟨?_, ?_, ?_, ?_⟩
  all_goals (rw [cell_of_row _ _ _ _ _ _ h.x]; rfl)

def fBlk (C cc : Nat) : Obj := .cells #[.int .i64 0, .int .i64 1, .slice (some ⟨C, 0, none⟩) 2 cc] 61 (0, 0)

theorem KAt.fcells {W : World} {m C cc : Nat} (h : KAt W m (fBlk C cc)) : W.cell? ⟨m, 0, none⟩ = some (.int .i64 0) ∧ W.cell? ⟨m, 1, none⟩ = some (.int .i64 1) ∧ W.cell? ⟨m, 2, none⟩ = some (.slice (some ⟨C, 0, none⟩) 2 cc) := by
  refine ⟨?_, ?_, ?_⟩
  all_goals (rw [cell_of_row _ _ _ _ _ _ h.x]; rfl)

set_option maxHeartbeats 4000000 in
set_option maxRecDepth 8000 in
theorem check_p1 (F C cf cc : Nat) (w : World) (hP : P1At w F C cc) :
    Calls Try.prog 31 #[.agg #[.slice (some ⟨F, 0, none⟩) 1 cf, .slice none 0 0, .slice none 0 0, .int .i64 0]] w fun x w' => x = .returned (.tuple #[.int .i64 0, .int .i64 0, .int .i64 0]) ∧ Below w.heap.size w w' := by
  have HP := Lib.hid hP
  have CW := Lib.hid (fun fa sa ra fn sn rn fc sc rc en W => worldOf_any fa sa ra fn sn rn fc sc rc en W)
  have CF := Lib.hid (fun b pr al W h1 h2 => forms_p1 b F C cf cc pr al W h1 h2)
  have CU := Lib.hid (fun p W h => unset_p1 p C cc W h)
  have CO := Lib.hid (fun W => on_halt W)
  have hA : Below w.heap.size w (w.alloc (pBlk F cf)) := (Below.refl _ _).alloc (Nat.le_refl _) _
  have HA := Lib.hid hA
  clear hP hA
  go_enter Try.func31, Try.ntmps31
  go_wp2_with (first
    | (go_at_call 48; refine (CW.out _ _ _ _ _ _ _ _ _ _ _).mono ?_; rintro e w1 ⟨b, g, cap, al, rfl, hW1, hPr, hbl, hb1⟩; have HB1 := Lib.hid (HA.out.trans (hb1.mono HA.out.size)); have X1 := Lib.hid ((KAt.new w (pBlk F cf)).below hb1); have HW1 := Lib.hid hW1; clear hW1 hPr hb1)
    | (go_at_call 49; refine (CF.out _ _ _ _ HW1.out (HP.out.below HB1.out)).mono ?_; rintro e w2 ⟨rfl, hb2⟩; have HB2 := Lib.hid (HB1.out.trans (hb2.mono HB1.out.size)); have X2 := Lib.hid (X1.out.below hb2); obtain ⟨p0, p1, p2, p3⟩ := X2.out.pcells))
  go_loopw [29] (fun vi wr => (vi = .int .i64 0 ∨ vi = .int .i64 1) ∧ Below w.heap.size w wr) (fun vi _ => 1 - (intOf vi).toNat)
  case atStart => exact ⟨.inl rfl, HB2.out⟩
  case round =>
    obtain ⟨W0, hW0⟩ : ∃ W, W = wr := ⟨_, rfl⟩
    subst hW0
    obtain ⟨hv, hbr⟩ := hrel
    clear p0 p1 p2 p3
    rcases hv with rfl | rfl
    · have hP2 := HP.out.below hbr
      have f0 := hP2.f0
      have f1 := hP2.f1
      have f2 := hP2.f2
      have hA2 : Below w.heap.size w (W0.alloc (fBlk C cc)) := hbr.alloc hbr.size _
      have hP3 := HP.out.below hA2
      have c0 := hP3.c 6 (by decide)
      have c1 := hP3.c 7 (by decide)
      have c2 := hP3.c 8 (by decide)
      have c3 := hP3.c 9 (by decide)
      have c4 := hP3.c 10 (by decide)
      have c5 := hP3.c 11 (by decide)
      unfold fBlk at c0 c1 c2 c3 c4 c5
      have HA2 := Lib.hid hA2
      clear hP2 hA2 hP3
      go_wp2_with (first
        | (go_at_call 50; refine (CO.out _).mono ?_; rintro e w3 ⟨rfl, hb3⟩; have HB3 := Lib.hid (HA2.out.trans (hb3.mono HA2.out.size)); have X3 := Lib.hid ((KAt.new W0 (fBlk C cc)).below hb3); obtain ⟨y0, y1, y2⟩ := X3.out.fcells)
        | (go_at_call 51; refine (CU.out _ _ (HP.out.below HB3.out).c1).mono ?_; rintro e w4 ⟨rfl, hb4⟩; have HB4 := Lib.hid (HB3.out.trans (hb4.mono HB3.out.size))))
      go_roundw
      case rel => exact ⟨.inr rfl, HB4.out⟩
      case measure => simp [intOf]
    · go_wp2_with fail
      go_ret3
      exact ⟨rfl, hbr⟩
end Go.Proofs.Ytgbgahdeopedpaa
