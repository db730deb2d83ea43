/- Walks of layer 16's reference: an instruction's form, a primitive; any other. -/
import Derived.Test.YtgbgahdeopedpaaCk
namespace Go.Proofs.Ytgbgahdeopedpaa
open Go.RowKit
open Fx
set_option linter.unusedVariables false
attribute [local go_sem] ext_mk size_mk toList_mk get_mk take_drop_len take_tail_len ByteArray.mk_append_mk List.append_toArray

set_option maxHeartbeats 4000000 in
set_option maxRecDepth 8000 in
theorem rform_8 (fa sa ra : Option Addr) (sn rn fc sc rc : Nat) (en : Int) (fp : List Int) (ps rs : Int) (ca : Option Addr) (cn cc : Nat) (a b c : Int) (l lv : List Int) (la : Option Addr) (lc : Nat) (va : Option Addr) (vc : Nat) (w : World) (hf : PsAt w fa fp) (hl : IntsAt .i64 w la l) (hv : IntsAt .i64 w va lv) (hcn : cn ≤ 1000000000) :
    Calls Try.prog 75 #[.agg #[.slice fa fp.length fc, .slice sa sn sc, .slice ra rn rc, .int .i64 en], .agg #[.int .i64 ps, .int .i64 rs, .slice ca cn cc], .agg #[.int .i64 8, .int .i64 a, .int .i64 b, .int .i64 c, .slice la l.length lc, .slice va lv.length vc]] w fun e w' => e = .returned (.bool (formB sn rn fp cn rs 8 a b c l)) ∧ Below w.heap.size w w' := by
  have S := Lib.hid (fm_start w fa sa ra sn rn fc sc rc en fp ps rs ca cn cc ⟨8, a, b, c, l, lv⟩ la lc va vc hf hl hv)
  have CI := Lib.hid (fun n e W => within_any n e W)
  clear hf hl hv
  go_enter Try.func75, Try.ntmps75
  go_wp2_with fail
  go_quiet (first | (go_at_call 74; refine Calls.quiet_of_same (CI.out _ _ _)))
  obtain ⟨W, hW⟩ : ∃ W, (((w.alloc (.cells #[.slice fa fp.length fc, .slice sa sn sc, .slice ra rn rc, .int .i64 en] 31)).alloc (.cells #[.int .i64 ps, .int .i64 rs, .slice ca cn cc] 61)).alloc (.cells #[.int .i64 8, .int .i64 a, .int .i64 b, .int .i64 c, .slice la l.length lc, .slice va lv.length vc] 58)).drewN nq = W := ⟨_, rfl⟩
  have S1 := S.out.below (below_drewN (Below.refl _ _) nq)
  try dsimp only at S1
  rw [hW] at S1
  rw [hW]
  clear hW
  obtain ⟨f0, f1, f2, x0, x1, x2, x3, x4, x5⟩ := S1.fx.cells
  obtain ⟨p0, p1, p2⟩ := S1.pcells
  dsimp only at x0 x1 x2 x3 x4 x5
  have S := Lib.hid S1
  clear S1
  have HU := Lib.hid (show formB sn rn fp cn rs 8 a b c l = (insB a rs && insB b 61 && ((l.length : Int) == (prT b.toNat).2.1) && (if (prT b.toNat).2.2 = 0 then c == -1 else insB c cn) && regsB l rs) from rfl)
  have CP := Lib.hid (fun W => prims_at W)
  have CG := Lib.hid (fun W h => rregs_any la l lc ps rs ca cn cc W h)
  cases ha : insB a rs
  · go_wp2_with (first
      | (go_at_call 59; (with_reducible refine (CP.out _).mono ?_); rintro e w1 ⟨g, cap, rfl, hcap, hP, hgw, hb⟩; have S := Lib.hid (S.out.below hb); clear hb f0 f1 f2 x0 x1 x2 x3 x4 x5 p0 p1 p2; obtain ⟨f0, f1, f2, x0, x1, x2, x3, x4, x5⟩ := S.out.fx.cells; obtain ⟨p0, p1, p2⟩ := S.out.pcells; dsimp only at x0 x1 x2 x3 x4 x5))
    go_quiet (fail)
    go_wp2_with fail
    go_ret
    exact ⟨ret_bool (by rw [HU.out]; simp [ha]), below_drewN S.out.fx.b _⟩
  cases hb2 : insB b 61
  · have CB := Lib.hid (fun W => within_eq hb2 W)
    go_wp2_with (first
      | (go_at_call 59; (with_reducible refine (CP.out _).mono ?_); rintro e w1 ⟨g, cap, rfl, hcap, hP, hgw, hb⟩; have S := Lib.hid (S.out.below hb); clear hb f0 f1 f2 x0 x1 x2 x3 x4 x5 p0 p1 p2; obtain ⟨f0, f1, f2, x0, x1, x2, x3, x4, x5⟩ := S.out.fx.cells; obtain ⟨p0, p1, p2⟩ := S.out.pcells; dsimp only at x0 x1 x2 x3 x4 x5))
    go_quiet (first | (go_at_call 74; refine Calls.quiet_of_same (CB.out _)))
    go_wp2_with fail
    go_ret
    exact ⟨ret_bool (by rw [HU.out]; simp [hb2]), below_drewN S.out.fx.b _⟩
  have CB := Lib.hid (fun W => within_eq hb2 W)
  obtain ⟨hb0, hb1⟩ := insB_true hb2
  obtain ⟨i, rfl⟩ := Int.eq_ofNat_of_zero_le hb0
  have hi : i < 61 := by omega
  have k1 : decide ((i : Int) < 61) = true := decide_eq_true hb1
  have hU := HU.out
  rw [Int.toNat_natCast] at hU
  obtain ⟨ar, har⟩ : ∃ ar, (prT i).2.1 = ar := ⟨_, rfl⟩
  obtain ⟨rr, hrr⟩ : ∃ rr, (prT i).2.2 = rr := ⟨_, rfl⟩
  rw [har, hrr] at hU
  have HU := Lib.hid hU
  clear hU
  by_cases hn : (l.length : Int) = ar
  rotate_left
  · have hn' : ((l.length : Int) == ar) = false := by simpa using hn
    go_wp2_with (first
      | (go_at_call 59; (with_reducible refine (CP.out _).mono ?_); rintro e w1 ⟨g, cap, rfl, hcap, hP, hgw, hb⟩; have S := Lib.hid (S.out.below hb); clear hb f0 f1 f2 x0 x1 x2 x3 x4 x5 p0 p1 p2; obtain ⟨f0, f1, f2, x0, x1, x2, x3, x4, x5⟩ := S.out.fx.cells; obtain ⟨p0, p1, p2⟩ := S.out.pcells; dsimp only at x0 x1 x2 x3 x4 x5; obtain ⟨-, e2, rp, rcp, e3, -⟩ := hP.2 i hi; rw [har, Nat.mul_comm] at e2; rw [hrr, Nat.mul_comm] at e3; clear hP))
    go_quiet (first | (go_at_call 74; refine Calls.quiet_of_same (CB.out _)))
    go_wp2_with fail
    go_ret
    exact ⟨ret_bool (by rw [HU.out]; simp [hn']), below_drewN S.out.fx.b _⟩
  have hn' : ((l.length : Int) == ar) = true := by simpa using hn
  have HN := Lib.hid hn
  clear hn
  by_cases hr0 : rr = 0
  · have hr0' : ((rr : Int) == 0) = true := by simp [hr0]
    have HR := Lib.hid hr0
    clear hr0
    by_cases hc : c = -1
    rotate_left
    · have hc' : (c == -1) = false := by simpa using hc
      go_wp2_with (first
        | (go_at_call 59; (with_reducible refine (CP.out _).mono ?_); rintro e w1 ⟨g, cap, rfl, hcap, hP, hgw, hb⟩; have S := Lib.hid (S.out.below hb); clear hb f0 f1 f2 x0 x1 x2 x3 x4 x5 p0 p1 p2; obtain ⟨f0, f1, f2, x0, x1, x2, x3, x4, x5⟩ := S.out.fx.cells; obtain ⟨p0, p1, p2⟩ := S.out.pcells; dsimp only at x0 x1 x2 x3 x4 x5; obtain ⟨-, e2, rp, rcp, e3, -⟩ := hP.2 i hi; rw [har, Nat.mul_comm] at e2; rw [hrr, Nat.mul_comm] at e3; clear hP))
      go_quiet (first | (go_at_call 74; refine Calls.quiet_of_same (CB.out _)))
      go_wp2_with fail
      go_ret
      exact ⟨ret_bool (by rw [HU.out]; simp [HR.out, hc']), below_drewN S.out.fx.b _⟩
    subst hc
    go_wp2_with (first
      | (go_at_call 59; (with_reducible refine (CP.out _).mono ?_); rintro e w1 ⟨g, cap, rfl, hcap, hP, hgw, hb⟩; have S := Lib.hid (S.out.below hb); clear hb f0 f1 f2 x0 x1 x2 x3 x4 x5 p0 p1 p2; obtain ⟨f0, f1, f2, x0, x1, x2, x3, x4, x5⟩ := S.out.fx.cells; obtain ⟨p0, p1, p2⟩ := S.out.pcells; dsimp only at x0 x1 x2 x3 x4 x5; obtain ⟨-, e2, rp, rcp, e3, -⟩ := hP.2 i hi; rw [har, Nat.mul_comm] at e2; rw [hrr, Nat.mul_comm] at e3; clear hP))
    go_quiet (first | (go_at_call 74; refine Calls.quiet_of_same (CB.out _)))
    go_wp2_with (first | (go_at_call 89; refine (CG.out _ (S.out.below (below_drewN (Below.refl _ _) _)).fx.li).mono ?_; rintro e w2 ⟨rfl, hb⟩; have S := Lib.hid ((S.out.below (below_drewN (Below.refl _ _) _)).below hb); clear hb))
    go_ret
    exact ⟨ret_bool (by rw [HU.out]; simp [HR.out, ha, hb2, hn']), S.out.fx.b⟩
  · have hr0' : ((rr : Int) == 0) = false := by simpa using hr0
    have HR := Lib.hid hr0
    clear hr0
    cases hc : insB c cn
    · have CB2 := Lib.hid (fun W => within_eq hc W)
      go_wp2_with (first
        | (go_at_call 59; (with_reducible refine (CP.out _).mono ?_); rintro e w1 ⟨g, cap, rfl, hcap, hP, hgw, hb⟩; have S := Lib.hid (S.out.below hb); clear hb f0 f1 f2 x0 x1 x2 x3 x4 x5 p0 p1 p2; obtain ⟨f0, f1, f2, x0, x1, x2, x3, x4, x5⟩ := S.out.fx.cells; obtain ⟨p0, p1, p2⟩ := S.out.pcells; dsimp only at x0 x1 x2 x3 x4 x5; obtain ⟨-, e2, rp, rcp, e3, -⟩ := hP.2 i hi; rw [har, Nat.mul_comm] at e2; rw [hrr, Nat.mul_comm] at e3; clear hP))
      go_quiet (first | (go_at_call 74; refine Calls.quiet_of_same (CB.out _)))
      go_wp2_with (first | (go_at_call 74; refine (CB2.out _).mono ?_; rintro e w2 ⟨rfl, rfl⟩))
      go_ret
      exact ⟨ret_bool (by rw [HU.out]; simp [HR.out, hc]), below_drewN S.out.fx.b _⟩
    · have CB2 := Lib.hid (fun W => within_eq hc W)
      go_wp2_with (first
        | (go_at_call 59; (with_reducible refine (CP.out _).mono ?_); rintro e w1 ⟨g, cap, rfl, hcap, hP, hgw, hb⟩; have S := Lib.hid (S.out.below hb); clear hb f0 f1 f2 x0 x1 x2 x3 x4 x5 p0 p1 p2; obtain ⟨f0, f1, f2, x0, x1, x2, x3, x4, x5⟩ := S.out.fx.cells; obtain ⟨p0, p1, p2⟩ := S.out.pcells; dsimp only at x0 x1 x2 x3 x4 x5; obtain ⟨-, e2, rp, rcp, e3, -⟩ := hP.2 i hi; rw [har, Nat.mul_comm] at e2; rw [hrr, Nat.mul_comm] at e3; clear hP))
      go_quiet (first | (go_at_call 74; refine Calls.quiet_of_same (CB.out _)))
      go_wp2_with (first
        | (go_at_call 74; refine (CB2.out _).mono ?_; rintro e w2 ⟨rfl, rfl⟩)
        | (go_at_call 89; refine (CG.out _ (S.out.below (below_drewN (Below.refl _ _) _)).fx.li).mono ?_; rintro e w2 ⟨rfl, hb⟩; have S := Lib.hid ((S.out.below (below_drewN (Below.refl _ _) _)).below hb); clear hb))
      go_ret
      exact ⟨ret_bool (by rw [HU.out]; simp [HR.out, ha, hb2, hn', hc]), S.out.fx.b⟩
end Go.Proofs.Ytgbgahdeopedpaa
