/- Walks of layer 16's reference: an instruction's form, the rest. -/
import Derived.Test.YtgbgahdeopedpaaCh
namespace Go.Proofs.Ytgbgahdeopedpaa
open Go.RowKit
open Fx
set_option linter.unusedVariables false
attribute [local go_sem] ext_mk size_mk toList_mk get_mk take_drop_len take_tail_len ByteArray.mk_append_mk List.append_toArray

theorem ins0 : insB 0 16777216 = true := by decide

set_option maxHeartbeats 4000000 in
set_option maxRecDepth 8000 in
theorem rform_5 (fa sa ra : Option Addr) (sn rn fc sc rc : Nat) (en : Int) (fp : List Int) (ps rs : Int) (ca : Option Addr) (cn cc : Nat) (a b c : Int) (l lv : List Int) (la : Option Addr) (lc : Nat) (va : Option Addr) (vc : Nat) (w : World) (hf : PsAt w fa fp) (hl : IntsAt .i64 w la l) (hv : IntsAt .i64 w va lv) (hcn : cn ≤ 1000000000) :
    Calls Try.prog 75 #[.agg #[.slice fa fp.length fc, .slice sa sn sc, .slice ra rn rc, .int .i64 en], .agg #[.int .i64 ps, .int .i64 rs, .slice ca cn cc], .agg #[.int .i64 5, .int .i64 a, .int .i64 b, .int .i64 c, .slice la l.length lc, .slice va lv.length vc]] w fun e w' => e = .returned (.bool (formB sn rn fp cn rs 5 a b c l)) ∧ Below w.heap.size w w' := by
  have S := Lib.hid (fm_start w fa sa ra sn rn fc sc rc en fp ps rs ca cn cc ⟨5, a, b, c, l, lv⟩ la lc va vc hf hl hv)
  have CI := Lib.hid (fun n e W => within_any n e W)
  clear hf hl hv
  go_enter Try.func75, Try.ntmps75
  go_wp2_with fail
  go_quiet (first | (go_at_call 74; refine Calls.quiet_of_same (CI.out _ _ _)))
  obtain ⟨W, hW⟩ : ∃ W, (((w.alloc (.cells #[.slice fa fp.length fc, .slice sa sn sc, .slice ra rn rc, .int .i64 en] 31)).alloc (.cells #[.int .i64 ps, .int .i64 rs, .slice ca cn cc] 61)).alloc (.cells #[.int .i64 5, .int .i64 a, .int .i64 b, .int .i64 c, .slice la l.length lc, .slice va lv.length vc] 58)).drewN nq = W := ⟨_, rfl⟩
  have S1 := S.out.below (below_drewN (Below.refl _ _) nq)
  try dsimp only at S1
  rw [hW] at S1
  rw [hW]
  clear hW
  obtain ⟨f0, f1, f2, x0, x1, x2, x3, x4, x5⟩ := S1.fx.cells
  obtain ⟨p0, p1, p2⟩ := S1.pcells
  dsimp only at x0 x1 x2 x3 x4 x5
  have S := Lib.hid S1
  clear S1
  have HU := Lib.hid (show formB sn rn fp cn rs 5 a b c l = (insB a rs && ((b == 1) || (b == 2) || (b == 4) || (b == 3)) && insB c 16777216 && ((c == 0) || (b == 3)) && regsB l rs) from rfl)
  have CR := Lib.hid (fun n W => rright_any n W)
  have CG := Lib.hid (fun W h => rregs_any la l lc ps rs ca cn cc W h)
  go_wp2_with (first
    | (go_at_call 88; refine (CR.out _ _).mono ?_; rintro e w1 ⟨rfl, rfl⟩)
    | (go_at_call 74; refine (CI.out _ _ _).mono ?_; rintro e w1 ⟨rfl, rfl⟩)
    | (go_at_call 89; refine (CG.out _ S.out.fx.li).mono ?_; rintro e w1 ⟨rfl, hb⟩; have S := Lib.hid (S.out.below hb); clear hb f0 f1 f2 x0 x1 x2 x3 x4 x5 p0 p1 p2; obtain ⟨f0, f1, f2, x0, x1, x2, x3, x4, x5⟩ := S.out.fx.cells; obtain ⟨p0, p1, p2⟩ := S.out.pcells; dsimp only at x0 x1 x2 x3 x4 x5))
  all_goals (go_ret; exact ⟨ret_bool (by rw [HU.out]; simp [*, ins0]), S.out.fx.b⟩)

set_option maxHeartbeats 4000000 in
set_option maxRecDepth 8000 in
theorem rform_10 (fa sa ra : Option Addr) (sn rn fc sc rc : Nat) (en : Int) (fp : List Int) (ps rs : Int) (ca : Option Addr) (cn cc : Nat) (a b c : Int) (l lv : List Int) (la : Option Addr) (lc : Nat) (va : Option Addr) (vc : Nat) (w : World) (hf : PsAt w fa fp) (hl : IntsAt .i64 w la l) (hv : IntsAt .i64 w va lv) (hcn : cn ≤ 1000000000) :
    Calls Try.prog 75 #[.agg #[.slice fa fp.length fc, .slice sa sn sc, .slice ra rn rc, .int .i64 en], .agg #[.int .i64 ps, .int .i64 rs, .slice ca cn cc], .agg #[.int .i64 10, .int .i64 a, .int .i64 b, .int .i64 c, .slice la l.length lc, .slice va lv.length vc]] w fun e w' => e = .returned (.bool (formB sn rn fp cn rs 10 a b c l)) ∧ Below w.heap.size w w' := by
  have S := Lib.hid (fm_start w fa sa ra sn rn fc sc rc en fp ps rs ca cn cc ⟨10, a, b, c, l, lv⟩ la lc va vc hf hl hv)
  have CI := Lib.hid (fun n e W => within_any n e W)
  clear hf hl hv
  go_enter Try.func75, Try.ntmps75
  go_wp2_with fail
  go_quiet (first | (go_at_call 74; refine Calls.quiet_of_same (CI.out _ _ _)))
  obtain ⟨W, hW⟩ : ∃ W, (((w.alloc (.cells #[.slice fa fp.length fc, .slice sa sn sc, .slice ra rn rc, .int .i64 en] 31)).alloc (.cells #[.int .i64 ps, .int .i64 rs, .slice ca cn cc] 61)).alloc (.cells #[.int .i64 10, .int .i64 a, .int .i64 b, .int .i64 c, .slice la l.length lc, .slice va lv.length vc] 58)).drewN nq = W := ⟨_, rfl⟩
  have S1 := S.out.below (below_drewN (Below.refl _ _) nq)
  try dsimp only at S1
  rw [hW] at S1
  rw [hW]
  clear hW
  obtain ⟨f0, f1, f2, x0, x1, x2, x3, x4, x5⟩ := S1.fx.cells
  obtain ⟨p0, p1, p2⟩ := S1.pcells
  dsimp only at x0 x1 x2 x3 x4 x5
  have S := Lib.hid S1
  clear S1
  have HU := Lib.hid (show formB sn rn fp cn rs 10 a b c l = ((a == 0) && insB b rs && insB c cn && casesB l cn) from rfl)
  have CC := Lib.hid (fun W h hc => rcases_any la l lc ps rs ca cn cc W h hc)
  go_wp2_with (first
    | (go_at_call 74; refine (CI.out _ _ _).mono ?_; rintro e w1 ⟨rfl, rfl⟩)
    | (go_at_call 90; refine (CC.out _ S.out.fx.li hcn).mono ?_; rintro e w1 ⟨rfl, hb⟩; have S := Lib.hid (S.out.below hb); clear hb f0 f1 f2 x0 x1 x2 x3 x4 x5 p0 p1 p2))
  all_goals (go_ret; exact ⟨ret_bool (by rw [HU.out]; simp [*]), S.out.fx.b⟩)
end Go.Proofs.Ytgbgahdeopedpaa
