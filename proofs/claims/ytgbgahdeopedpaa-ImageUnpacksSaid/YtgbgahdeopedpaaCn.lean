/- Walks of layer 16's reference: an instruction's form, whatever instruction. -/
import Derived.Test.YtgbgahdeopedpaaCl
import Derived.Test.YtgbgahdeopedpaaCm
namespace Go.Proofs.Ytgbgahdeopedpaa
open Go.RowKit
open Fx
set_option linter.unusedVariables false
attribute [local go_sem] ext_mk size_mk toList_mk get_mk take_drop_len take_tail_len ByteArray.mk_append_mk List.append_toArray

set_option maxHeartbeats 1000000 in
set_option maxRecDepth 8000 in
theorem rform_other (op : Int) (h1 : (op == 1) = false) (h2 : (op == 2) = false) (h3 : (op == 3) = false) (h4 : (op == 4) = false) (h5 : (op == 5) = false) (h6 : (op == 6) = false) (h7 : (op == 7) = false) (h8 : (op == 8) = false) (h9 : (op == 9) = false) (h10 : (op == 10) = false) (h11 : (op == 11) = false) (h12 : (op == 12) = false) (h13 : (op == 13) = false) (fa sa ra : Option Addr) (sn rn fc sc rc : Nat) (en : Int) (fp : List Int) (ps rs : Int) (ca : Option Addr) (cn cc : Nat) (a b c : Int) (l lv : List Int) (la : Option Addr) (lc : Nat) (va : Option Addr) (vc : Nat) (w : World) (hf : PsAt w fa fp) (hl : IntsAt .i64 w la l) (hv : IntsAt .i64 w va lv) (hcn : cn ≤ 1000000000) :
    Calls Try.prog 75 #[.agg #[.slice fa fp.length fc, .slice sa sn sc, .slice ra rn rc, .int .i64 en], .agg #[.int .i64 ps, .int .i64 rs, .slice ca cn cc], .agg #[.int .i64 op, .int .i64 a, .int .i64 b, .int .i64 c, .slice la l.length lc, .slice va lv.length vc]] w fun e w' => e = .returned (.bool (formB sn rn fp cn rs op a b c l)) ∧ Below w.heap.size w w' := by
  have S := Lib.hid (fm_start w fa sa ra sn rn fc sc rc en fp ps rs ca cn cc ⟨op, a, b, c, l, lv⟩ la lc va vc hf hl hv)
  have CI := Lib.hid (fun n e W => within_any n e W)
  clear hf hl hv
  go_enter Try.func75, Try.ntmps75
  go_wp2_with fail
  go_quiet (first | (go_at_call 74; refine Calls.quiet_of_same (CI.out _ _ _)))
  obtain ⟨W, hW⟩ : ∃ W, (((w.alloc (.cells #[.slice fa fp.length fc, .slice sa sn sc, .slice ra rn rc, .int .i64 en] 31)).alloc (.cells #[.int .i64 ps, .int .i64 rs, .slice ca cn cc] 61)).alloc (.cells #[.int .i64 op, .int .i64 a, .int .i64 b, .int .i64 c, .slice la l.length lc, .slice va lv.length vc] 58)).drewN nq = W := ⟨_, rfl⟩
  have S1 := S.out.below (below_drewN (Below.refl _ _) nq)
  try dsimp only at S1
  rw [hW] at S1
  rw [hW]
  clear hW
  obtain ⟨f0, f1, f2, x0, x1, x2, x3, x4, x5⟩ := S1.fx.cells
  obtain ⟨p0, p1, p2⟩ := S1.pcells
  dsimp only at x0 x1 x2 x3 x4 x5
  have S := Lib.hid S1
  clear S1
  have HU := Lib.hid (show formB sn rn fp cn rs op a b c l = false by simp [formB, h1, h2, h3, h4, h5, h6, h7, h8, h9, h10, h11, h12, h13])
  go_wp2_with fail
  go_ret
  exact ⟨ret_bool HU.out.symm, S.out.fx.b⟩

theorem op_all (op : Int) : (op = 1 ∨ op = 2 ∨ op = 3 ∨ op = 4 ∨ op = 5 ∨ op = 6 ∨ op = 7 ∨ op = 8 ∨ op = 9 ∨ op = 10 ∨ op = 11 ∨ op = 12 ∨ op = 13) ∨ ((op == 1) = false ∧ (op == 2) = false ∧ (op == 3) = false ∧ (op == 4) = false ∧ (op == 5) = false ∧ (op == 6) = false ∧ (op == 7) = false ∧ (op == 8) = false ∧ (op == 9) = false ∧ (op == 10) = false ∧ (op == 11) = false ∧ (op == 12) = false ∧ (op == 13) = false) := by
  simp only [beq_eq_false_iff_ne, ne_eq]; omega

theorem rform_any (fa sa ra : Option Addr) (sn rn fc sc rc : Nat) (en : Int) (fp : List Int) (ps rs : Int) (ca : Option Addr) (cn cc : Nat) (op a b c : Int) (l lv : List Int) (la : Option Addr) (lc : Nat) (va : Option Addr) (vc : Nat) (w : World) (hf : PsAt w fa fp) (hl : IntsAt .i64 w la l) (hv : IntsAt .i64 w va lv) (hcn : cn ≤ 1000000000) :
    Calls Try.prog 75 #[.agg #[.slice fa fp.length fc, .slice sa sn sc, .slice ra rn rc, .int .i64 en], .agg #[.int .i64 ps, .int .i64 rs, .slice ca cn cc], .agg #[.int .i64 op, .int .i64 a, .int .i64 b, .int .i64 c, .slice la l.length lc, .slice va lv.length vc]] w fun e w' => e = .returned (.bool (formB sn rn fp cn rs op a b c l)) ∧ Below w.heap.size w w' := by
  rcases op_all op with (rfl | rfl | rfl | rfl | rfl | rfl | rfl | rfl | rfl | rfl | rfl | rfl | rfl) | ⟨h1, h2, h3, h4, h5, h6, h7, h8, h9, h10, h11, h12, h13⟩
  · exact rform_1 fa sa ra sn rn fc sc rc en fp ps rs ca cn cc a b c l lv la lc va vc w hf hl hv
  · exact rform_2 fa sa ra sn rn fc sc rc en fp ps rs ca cn cc a b c l lv la lc va vc w hf hl hv
  · exact rform_3 fa sa ra sn rn fc sc rc en fp ps rs ca cn cc a b c l lv la lc va vc w hf hl hv
  · exact rform_4 fa sa ra sn rn fc sc rc en fp ps rs ca cn cc a b c l lv la lc va vc w hf hl hv
  · exact rform_5 fa sa ra sn rn fc sc rc en fp ps rs ca cn cc a b c l lv la lc va vc w hf hl hv hcn
  · exact rform_6 fa sa ra sn rn fc sc rc en fp ps rs ca cn cc a b c l lv la lc va vc w hf hl hv
  · exact rform_7 fa sa ra sn rn fc sc rc en fp ps rs ca cn cc a b c l lv la lc va vc w hf hl hv
  · exact rform_8 fa sa ra sn rn fc sc rc en fp ps rs ca cn cc a b c l lv la lc va vc w hf hl hv hcn
  · exact rform_9 fa sa ra sn rn fc sc rc en fp ps rs ca cn cc a b c l lv la lc va vc w hf hl hv
  · exact rform_10 fa sa ra sn rn fc sc rc en fp ps rs ca cn cc a b c l lv la lc va vc w hf hl hv hcn
  · exact rform_11 fa sa ra sn rn fc sc rc en fp ps rs ca cn cc a b c l lv la lc va vc w hf hl hv
  · exact rform_12 fa sa ra sn rn fc sc rc en fp ps rs ca cn cc a b c l lv la lc va vc w hf hl hv hcn
  · exact rform_13 fa sa ra sn rn fc sc rc en fp ps rs ca cn cc a b c l lv la lc va vc w hf hl hv
  · exact rform_other op h1 h2 h3 h4 h5 h6 h7 h8 h9 h10 h11 h12 h13 fa sa ra sn rn fc sc rc en fp ps rs ca cn cc a b c l lv la lc va vc w hf hl hv hcn
end Go.Proofs.Ytgbgahdeopedpaa
