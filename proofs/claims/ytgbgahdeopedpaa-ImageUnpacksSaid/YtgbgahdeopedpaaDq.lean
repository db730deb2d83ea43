/- Walks of layer 16: an instruction's form, the program's side: every instruction but a primitive's. -/
import Derived.Test.YtgbgahdeopedpaaDp
import Derived.Deep.Cut
import Derived.Deep.CutRange
namespace Go.Proofs.Ytgbgahdeopedpaa
open Go.RowKit
open Fx
set_option linter.unusedVariables false
attribute [local go_sem] ext_mk size_mk toList_mk get_mk take_drop_len take_tail_len ByteArray.mk_append_mk List.append_toArray

theorem rising_at {l : List Int} {j : Nat} (h : l.length ≤ j) (h2 : j ≤ l.length ∨ (j = 1 ∧ l.length = 0)) : (List.range j).all (okR l) = risingB l := by
  rcases h2 with h2 | ⟨h2, h3⟩
  · rw [show j = l.length by omega]; rfl
  · subst h2
    unfold risingB
    rw [h3]
    rfl

theorem rising_next {l : List Int} {j : Nat} {B C : Bool} (h : (B && (List.range j).all (okR l)) = C) : (B && (List.range (j + 1)).all (okR l)) = (C && okR l j) := by
  rw [List.range_succ, List.all_append, ← h]
  simp [Bool.and_assoc]

theorem kinds_eq (b : Int) : ((b == 1) || (b == 2) || (b == 4) || (b == 3)) = (decide (1 ≤ b) && decide (b ≤ 4)) := by
  rw [Bool.eq_iff_iff]
  simp only [Bool.or_eq_true, Bool.and_eq_true, beq_iff_eq, decide_eq_true_eq]
  omega

set_option maxHeartbeats 8000000 in
set_option maxRecDepth 8000 in
theorem form_1  (p : Nat) (fa sa ra : Option Addr) (sn rn fc sc rc : Nat) (en : Int) (fp : List Int) (ps rs : Int) (ca : Option Addr) (cn cc : Nat) (a b c : Int) (l lv : List Int) (la : Option Addr) (lc : Nat) (va : Option Addr) (vc : Nat) (w : World) (hW : WoAt w p fa sa ra fp.length sn rn fc sc rc en) (hf : PsAt w fa fp) (hl : IntsAt .i64 w la l) (hv : IntsAt .i64 w va lv) (hcn : cn ≤ 1000000000) :
    Calls Try.prog 64 #[.pointer (some ⟨p, 0, none⟩), .agg #[.int .i64 ps, .int .i64 rs, .slice ca cn cc], .agg #[.int .i64 1, .int .i64 a, .int .i64 b, .int .i64 c, .slice la l.length lc, .slice va lv.length vc]] w fun e w' => e = .returned (.bool (liveB 1 b lv rs && formB sn rn fp cn rs 1 a b c l)) ∧ Below w.heap.size w w' := by
  have S := Lib.hid (fo_start (x := ⟨1, a, b, c, l, lv⟩) hW hf hl hv ps rs ca cn cc lc vc)
  have CI := Lib.hid (fun n e W => inside_any n e W)
  have CK := Lib.hid (fun W h => keeps_any p fa sa ra fp.length sn rn fc sc rc en 1 a b c la va l.length lc lv.length vc W h)
  have CV := Lib.hid (fun W h => regs_any va lv vc ps rs ca cn cc W h)
  have CG := Lib.hid (fun W h => regs_any la l lc ps rs ca cn cc W h)
  have CR := Lib.hid (fun n W => right_any n W)
  have hm := hv.1
  have hm2 : (lv.length : Int) ≤ 9223372036854775807 := by unfold maxLen at hm; omega
  clear hW hf hl hv hm
  go_enter Try.func64, Try.ntmps64
  go_wp2_with fail
  go_quiet (first | (go_at_call 63; refine Calls.quiet_of_same (CI.out _ _ _)))
  obtain ⟨W, hW⟩ : ∃ W, ((w.alloc (.cells #[.int .i64 ps, .int .i64 rs, .slice ca cn cc] 61)).alloc (.cells #[.int .i64 1, .int .i64 a, .int .i64 b, .int .i64 c, .slice la l.length lc, .slice va lv.length vc] 58)).drewN nq = W := ⟨_, rfl⟩
  have S1 := S.out.below (below_drewN (Below.refl _ _) nq)
  try dsimp only at S1
  rw [hW] at S1
  rw [hW]
  clear hW
  have S := Lib.hid S1
  clear S1
  obtain ⟨f0, f1, f2, x0, x1, x2, x3, x4, x5⟩ := S.out.fx.cells; obtain ⟨p0, p1, p2, pg, pcap, p4, hpr⟩ := S.out.wo.pcells; dsimp only at x0 x1 x2 x3 x4 x5
  have HK := Lib.hid (show keepsI 1 b = false from rfl)
  have HU := Lib.hid (show formB sn rn fp cn rs 1 a b c l = (insB a rs && rtB b && (c == 0) && ((l.length : Int) == 0)) from rfl)
  have CK1 : Hid (∀ W h, Calls Try.prog 68 #[.pointer (some ⟨p, 0, none⟩), .agg #[.int .i64 1, .int .i64 a, .int .i64 b, .int .i64 c, .slice la l.length lc, .slice va lv.length vc]] W fun x w' => x = .returned (.bool false) ∧ Below W.heap.size W w') := Lib.hid (fun W (h : WoAt W p fa sa ra fp.length sn rn fc sc rc en) => by
    have := CK.out W h
    rwa [HK.out] at this)
  go_upto_region 9 with (first | (go_at_call 68; refine (CK1.out _ S.out.wo).mono ?_; rintro e w1 ⟨rfl, hb⟩; have S := Lib.hid (S.out.below hb); clear hb f0 f1 f2 x0 x1 x2 x3 x4 x5 p0 p1 p2 p4 hpr pg pcap; obtain ⟨f0, f1, f2, x0, x1, x2, x3, x4, x5⟩ := S.out.fx.cells; obtain ⟨p0, p1, p2, pg, pcap, p4, hpr⟩ := S.out.wo.pcells; dsimp only at x0 x1 x2 x3 x4 x5))
  obtain ⟨ok, hok⟩ : ∃ ok, ((lv.length : Int) == 0) = ok := ⟨_, rfl⟩
  have hlv : liveB 1 b lv rs = ok := by unfold liveB; rw [HK.out]; simpa using hok
  rw [hok]
  have HL := Lib.hid hlv
  clear hlv hok CK CK1 CV
  go_wp2_with (first
    | (go_at_call 86; refine (CR.out _ _).mono ?_; rintro e w1 ⟨rfl, rfl⟩)
    | (go_at_call 63; refine (CI.out _ _ _).mono ?_; rintro e w1 ⟨rfl, rfl⟩)
    | (go_at_call 85; refine (CG.out _ S.out.fx.li).mono ?_; rintro e w1 ⟨rfl, hb⟩; have S := Lib.hid (S.out.below hb); clear hb f0 f1 f2 x0 x1 x2 x3 x4 x5 p0 p1 p2 p4 hpr pg pcap; obtain ⟨f0, f1, f2, x0, x1, x2, x3, x4, x5⟩ := S.out.fx.cells; obtain ⟨p0, p1, p2, pg, pcap, p4, hpr⟩ := S.out.wo.pcells; dsimp only at x0 x1 x2 x3 x4 x5)
    | (go_at_call 87; refine (CE.out _ S.out.wo S.out.fs S.out.fx.li S.out.fx.vi).mono ?_; rintro e w1 ⟨rfl, hb⟩; have S := Lib.hid (S.out.below hb); clear hb f0 f1 f2 x0 x1 x2 x3 x4 x5 p0 p1 p2 p4 hpr pg pcap; obtain ⟨f0, f1, f2, x0, x1, x2, x3, x4, x5⟩ := S.out.fx.cells; obtain ⟨p0, p1, p2, pg, pcap, p4, hpr⟩ := S.out.wo.pcells; dsimp only at x0 x1 x2 x3 x4 x5))
  all_goals (go_ret; exact ⟨ret_bool (by rw [HL.out, HU.out]; first | (simp [*]; done) | (have i0 := ins0; simp [*]; done) | (simp [*]; intros; omega)), S.out.fx.b⟩)

set_option maxHeartbeats 8000000 in
set_option maxRecDepth 8000 in
theorem form_2  (p : Nat) (fa sa ra : Option Addr) (sn rn fc sc rc : Nat) (en : Int) (fp : List Int) (ps rs : Int) (ca : Option Addr) (cn cc : Nat) (a b c : Int) (l lv : List Int) (la : Option Addr) (lc : Nat) (va : Option Addr) (vc : Nat) (w : World) (hW : WoAt w p fa sa ra fp.length sn rn fc sc rc en) (hf : PsAt w fa fp) (hl : IntsAt .i64 w la l) (hv : IntsAt .i64 w va lv) (hcn : cn ≤ 1000000000) :
    Calls Try.prog 64 #[.pointer (some ⟨p, 0, none⟩), .agg #[.int .i64 ps, .int .i64 rs, .slice ca cn cc], .agg #[.int .i64 2, .int .i64 a, .int .i64 b, .int .i64 c, .slice la l.length lc, .slice va lv.length vc]] w fun e w' => e = .returned (.bool (liveB 2 b lv rs && formB sn rn fp cn rs 2 a b c l)) ∧ Below w.heap.size w w' := by
  have S := Lib.hid (fo_start (x := ⟨2, a, b, c, l, lv⟩) hW hf hl hv ps rs ca cn cc lc vc)
  have CI := Lib.hid (fun n e W => inside_any n e W)
  have CK := Lib.hid (fun W h => keeps_any p fa sa ra fp.length sn rn fc sc rc en 2 a b c la va l.length lc lv.length vc W h)
  have CV := Lib.hid (fun W h => regs_any va lv vc ps rs ca cn cc W h)
  have CG := Lib.hid (fun W h => regs_any la l lc ps rs ca cn cc W h)
  have CR := Lib.hid (fun n W => right_any n W)
  have hm := hv.1
  have hm2 : (lv.length : Int) ≤ 9223372036854775807 := by unfold maxLen at hm; omega
  clear hW hf hl hv hm
  go_enter Try.func64, Try.ntmps64
  go_wp2_with fail
  go_quiet (first | (go_at_call 63; refine Calls.quiet_of_same (CI.out _ _ _)))
  obtain ⟨W, hW⟩ : ∃ W, ((w.alloc (.cells #[.int .i64 ps, .int .i64 rs, .slice ca cn cc] 61)).alloc (.cells #[.int .i64 2, .int .i64 a, .int .i64 b, .int .i64 c, .slice la l.length lc, .slice va lv.length vc] 58)).drewN nq = W := ⟨_, rfl⟩
  have S1 := S.out.below (below_drewN (Below.refl _ _) nq)
  try dsimp only at S1
  rw [hW] at S1
  rw [hW]
  clear hW
  have S := Lib.hid S1
  clear S1
  obtain ⟨f0, f1, f2, x0, x1, x2, x3, x4, x5⟩ := S.out.fx.cells; obtain ⟨p0, p1, p2, pg, pcap, p4, hpr⟩ := S.out.wo.pcells; dsimp only at x0 x1 x2 x3 x4 x5
  have HK := Lib.hid (show keepsI 2 b = true from rfl)
  have HU := Lib.hid (show formB sn rn fp cn rs 2 a b c l = (insB a rs && insB b sn && (c == 0) && ((l.length : Int) == 0)) from rfl)
  have CK1 : Hid (∀ W h, Calls Try.prog 68 #[.pointer (some ⟨p, 0, none⟩), .agg #[.int .i64 2, .int .i64 a, .int .i64 b, .int .i64 c, .slice la l.length lc, .slice va lv.length vc]] W fun x w' => x = .returned (.bool true) ∧ Below W.heap.size W w') := Lib.hid (fun W (h : WoAt W p fa sa ra fp.length sn rn fc sc rc en) => by
    have := CK.out W h
    rwa [HK.out] at this)
  go_wp2_with (first
    | (go_at_call 68; refine (CK1.out _ S.out.wo).mono ?_; rintro e w1 ⟨rfl, hb⟩; have S := Lib.hid (S.out.below hb); clear hb f0 f1 f2 x0 x1 x2 x3 x4 x5 p0 p1 p2 p4 hpr pg pcap; obtain ⟨f0, f1, f2, x0, x1, x2, x3, x4, x5⟩ := S.out.fx.cells; obtain ⟨p0, p1, p2, pg, pcap, p4, hpr⟩ := S.out.wo.pcells; dsimp only at x0 x1 x2 x3 x4 x5)
    | (go_at_call 85; refine (CV.out _ S.out.fx.vi).mono ?_; rintro e w1 ⟨rfl, hb⟩; have S := Lib.hid (S.out.below hb); clear hb f0 f1 f2 x0 x1 x2 x3 x4 x5 p0 p1 p2 p4 hpr pg pcap; obtain ⟨f0, f1, f2, x0, x1, x2, x3, x4, x5⟩ := S.out.fx.cells; obtain ⟨p0, p1, p2, pg, pcap, p4, hpr⟩ := S.out.wo.pcells; dsimp only at x0 x1 x2 x3 x4 x5))
  clear CK CK1 CV
  go_loopw [10, 11] (fun vo vi wr => ∃ j : Nat, vi = .int .i64 j ∧ 1 ≤ j ∧ (j ≤ lv.length ∨ (j = 1 ∧ lv.length = 0)) ∧ vo = .bool (regsB lv rs && (List.range j).all (okR lv)) ∧ FoAt w wr p w.heap.size (w.heap.size + 1) fa sa ra sn rn fc sc rc en fp ps rs ca cn cc ⟨2, a, b, c, l, lv⟩ la lc va vc) (fun _ vi _ => lv.length - (intOf vi).toNat)
  case atStart => exact ⟨1, rfl, by omega, by omega, congrArg Value.bool (by rw [show (List.range 1).all (okR lv) = true from rfl, Bool.and_true]), S.out⟩
  clear S f0 f1 f2 x0 x1 x2 x3 x4 x5 p0 p1 p2 p4 hpr pg pcap
  obtain ⟨j, rfl, hj1, hj2, rfl, hS⟩ := hrel
  have S := Lib.hid hS
  have HI := Lib.hid hS.fx.vi
  clear hS
  obtain ⟨f0, f1, f2, x0, x1, x2, x3, x4, x5⟩ := S.out.fx.cells; obtain ⟨p0, p1, p2, pg, pcap, p4, hpr⟩ := S.out.wo.pcells; dsimp only at x0 x1 x2 x3 x4 x5
  obtain ⟨ok, hok⟩ : ∃ ok, (regsB lv rs && (List.range j).all (okR lv)) = ok := ⟨_, rfl⟩
  rw [hok]
  have HO := Lib.hid hok
  clear hok
  by_cases hlt : j < lv.length
  · have HJ := Lib.hid hj2
    clear hj2 p0 p1 p2 p4 hpr pg pcap
    have hI := HI.out
    obtain ⟨bB, off, ha, c0⟩ := ints_cell hI hlt
    obtain ⟨b', off', ha', c1⟩ := ints_cell hI (show j - 1 < lv.length by omega)
    rw [ha] at ha'
    injection ha' with ha'
    injection ha' with q1 q2 _
    subst q1; subst q2; subst ha
    obtain ⟨v, hv⟩ : ∃ v, lv.getD j 0 = v := ⟨_, rfl⟩
    obtain ⟨u, hu⟩ : ∃ u, lv.getD (j - 1) 0 = u := ⟨_, rfl⟩
    rw [hv] at c0
    rw [hu] at c1
    have m1 : IntKind.i64.wrap ((j : Int) - 1) = (j : Int) - 1 := IntWalk.i64_in _ (by omega)
    have m2 : ((j : Int) - 1).toNat = j - 1 := by omega
    have m3 : decide ((j : Int) < (lv.length : Int)) = true := decide_eq_true (by omega)
    have m4 : decide (0 ≤ (j : Int) - 1) = true := decide_eq_true (by omega)
    have m5 : decide ((j : Int) - 1 < (lv.length : Int)) = true := decide_eq_true (by omega)
    have HN := Lib.hid (show okR lv j = decide (u < v) by unfold okR; rw [hv, hu, show (j == 0) = false by simp; omega]; rfl)
    clear hv hu hI
    go_wp2_with fail
    cases ok
    all_goals
      go_quiet (fail)
      go_wp2_with fail
      go_roundw
    all_goals first
      | exact ⟨j + 1, by go_num, by omega, by (have := HJ.out); omega, congrArg Value.bool (by rw [rising_next HO.out, HN.out]; first | rfl | simp), S.out.below (below_drewN (Below.refl _ _) _)⟩
      | (simp [intOf]; omega)
  have hlv : liveB 2 b lv rs = ok := by unfold liveB; rw [HK.out, ← HO.out, rising_at (by omega) hj2]; rfl
  have HL := Lib.hid hlv
  clear hlv HO HI
  have m3 : decide ((j : Int) < (lv.length : Int)) = false := decide_eq_false (by omega)
  go_upto_region 9 with fail
  have hU := HU.out
  clear p4 hpr
  obtain ⟨hb, h⟩ : ∃ z, insB b sn = z := ⟨_, rfl⟩
  have CB := Lib.hid (fun W => inside_eq h W)
  rw [h] at hU
  clear h
  obtain ⟨ha, h⟩ : ∃ z, insB a rs = z := ⟨_, rfl⟩
  rw [h] at hU
  rw [h]
  clear h
  have HU := Lib.hid hU
  clear hU
  cases ok
  rotate_left
  cases ha
  rotate_left
  cases hb
  rotate_left
  by_cases hc : (c == 0) = true
  rotate_left
  have hc : (c == 0) = false := by simpa using hc
  all_goals
    go_wp2_with fail
    go_quiet (first | (go_at_call 63; refine Calls.quiet_of_same (CB.out _)))
    go_wp2_with fail
    go_ret
    exact ⟨ret_bool (by rw [HL.out, HU.out]; simp [*]), below_drewN S.out.fx.b _⟩

set_option maxHeartbeats 8000000 in
set_option maxRecDepth 8000 in
theorem form_3  (p : Nat) (fa sa ra : Option Addr) (sn rn fc sc rc : Nat) (en : Int) (fp : List Int) (ps rs : Int) (ca : Option Addr) (cn cc : Nat) (a b c : Int) (l lv : List Int) (la : Option Addr) (lc : Nat) (va : Option Addr) (vc : Nat) (w : World) (hW : WoAt w p fa sa ra fp.length sn rn fc sc rc en) (hf : PsAt w fa fp) (hl : IntsAt .i64 w la l) (hv : IntsAt .i64 w va lv) (hcn : cn ≤ 1000000000) :
    Calls Try.prog 64 #[.pointer (some ⟨p, 0, none⟩), .agg #[.int .i64 ps, .int .i64 rs, .slice ca cn cc], .agg #[.int .i64 3, .int .i64 a, .int .i64 b, .int .i64 c, .slice la l.length lc, .slice va lv.length vc]] w fun e w' => e = .returned (.bool (liveB 3 b lv rs && formB sn rn fp cn rs 3 a b c l)) ∧ Below w.heap.size w w' := by
  have S := Lib.hid (fo_start (x := ⟨3, a, b, c, l, lv⟩) hW hf hl hv ps rs ca cn cc lc vc)
  have CI := Lib.hid (fun n e W => inside_any n e W)
  have CK := Lib.hid (fun W h => keeps_any p fa sa ra fp.length sn rn fc sc rc en 3 a b c la va l.length lc lv.length vc W h)
  have CV := Lib.hid (fun W h => regs_any va lv vc ps rs ca cn cc W h)
  have CG := Lib.hid (fun W h => regs_any la l lc ps rs ca cn cc W h)
  have CR := Lib.hid (fun n W => right_any n W)
  have hm := hv.1
  have hm2 : (lv.length : Int) ≤ 9223372036854775807 := by unfold maxLen at hm; omega
  clear hW hf hl hv hm
  go_enter Try.func64, Try.ntmps64
  go_wp2_with fail
  go_quiet (first | (go_at_call 63; refine Calls.quiet_of_same (CI.out _ _ _)))
  obtain ⟨W, hW⟩ : ∃ W, ((w.alloc (.cells #[.int .i64 ps, .int .i64 rs, .slice ca cn cc] 61)).alloc (.cells #[.int .i64 3, .int .i64 a, .int .i64 b, .int .i64 c, .slice la l.length lc, .slice va lv.length vc] 58)).drewN nq = W := ⟨_, rfl⟩
  have S1 := S.out.below (below_drewN (Below.refl _ _) nq)
  try dsimp only at S1
  rw [hW] at S1
  rw [hW]
  clear hW
  have S := Lib.hid S1
  clear S1
  obtain ⟨f0, f1, f2, x0, x1, x2, x3, x4, x5⟩ := S.out.fx.cells; obtain ⟨p0, p1, p2, pg, pcap, p4, hpr⟩ := S.out.wo.pcells; dsimp only at x0 x1 x2 x3 x4 x5
  have HK := Lib.hid (show keepsI 3 b = true from rfl)
  have HU := Lib.hid (show formB sn rn fp cn rs 3 a b c l = (insB a rs && insB b rn && (c == 0) && ((l.length : Int) == 0)) from rfl)
  have CK1 : Hid (∀ W h, Calls Try.prog 68 #[.pointer (some ⟨p, 0, none⟩), .agg #[.int .i64 3, .int .i64 a, .int .i64 b, .int .i64 c, .slice la l.length lc, .slice va lv.length vc]] W fun x w' => x = .returned (.bool true) ∧ Below W.heap.size W w') := Lib.hid (fun W (h : WoAt W p fa sa ra fp.length sn rn fc sc rc en) => by
    have := CK.out W h
    rwa [HK.out] at this)
  go_wp2_with (first
    | (go_at_call 68; refine (CK1.out _ S.out.wo).mono ?_; rintro e w1 ⟨rfl, hb⟩; have S := Lib.hid (S.out.below hb); clear hb f0 f1 f2 x0 x1 x2 x3 x4 x5 p0 p1 p2 p4 hpr pg pcap; obtain ⟨f0, f1, f2, x0, x1, x2, x3, x4, x5⟩ := S.out.fx.cells; obtain ⟨p0, p1, p2, pg, pcap, p4, hpr⟩ := S.out.wo.pcells; dsimp only at x0 x1 x2 x3 x4 x5)
    | (go_at_call 85; refine (CV.out _ S.out.fx.vi).mono ?_; rintro e w1 ⟨rfl, hb⟩; have S := Lib.hid (S.out.below hb); clear hb f0 f1 f2 x0 x1 x2 x3 x4 x5 p0 p1 p2 p4 hpr pg pcap; obtain ⟨f0, f1, f2, x0, x1, x2, x3, x4, x5⟩ := S.out.fx.cells; obtain ⟨p0, p1, p2, pg, pcap, p4, hpr⟩ := S.out.wo.pcells; dsimp only at x0 x1 x2 x3 x4 x5))
  clear CK CK1 CV
  go_loopw [10, 11] (fun vo vi wr => ∃ j : Nat, vi = .int .i64 j ∧ 1 ≤ j ∧ (j ≤ lv.length ∨ (j = 1 ∧ lv.length = 0)) ∧ vo = .bool (regsB lv rs && (List.range j).all (okR lv)) ∧ FoAt w wr p w.heap.size (w.heap.size + 1) fa sa ra sn rn fc sc rc en fp ps rs ca cn cc ⟨3, a, b, c, l, lv⟩ la lc va vc) (fun _ vi _ => lv.length - (intOf vi).toNat)
  case atStart => exact ⟨1, rfl, by omega, by omega, congrArg Value.bool (by rw [show (List.range 1).all (okR lv) = true from rfl, Bool.and_true]), S.out⟩
  clear S f0 f1 f2 x0 x1 x2 x3 x4 x5 p0 p1 p2 p4 hpr pg pcap
  obtain ⟨j, rfl, hj1, hj2, rfl, hS⟩ := hrel
  have S := Lib.hid hS
  have HI := Lib.hid hS.fx.vi
  clear hS
  obtain ⟨f0, f1, f2, x0, x1, x2, x3, x4, x5⟩ := S.out.fx.cells; obtain ⟨p0, p1, p2, pg, pcap, p4, hpr⟩ := S.out.wo.pcells; dsimp only at x0 x1 x2 x3 x4 x5
  obtain ⟨ok, hok⟩ : ∃ ok, (regsB lv rs && (List.range j).all (okR lv)) = ok := ⟨_, rfl⟩
  rw [hok]
  have HO := Lib.hid hok
  clear hok
  by_cases hlt : j < lv.length
  · have HJ := Lib.hid hj2
    clear hj2 p0 p1 p2 p4 hpr pg pcap
    have hI := HI.out
    obtain ⟨bB, off, ha, c0⟩ := ints_cell hI hlt
    obtain ⟨b', off', ha', c1⟩ := ints_cell hI (show j - 1 < lv.length by omega)
    rw [ha] at ha'
    injection ha' with ha'
    injection ha' with q1 q2 _
    subst q1; subst q2; subst ha
    obtain ⟨v, hv⟩ : ∃ v, lv.getD j 0 = v := ⟨_, rfl⟩
    obtain ⟨u, hu⟩ : ∃ u, lv.getD (j - 1) 0 = u := ⟨_, rfl⟩
    rw [hv] at c0
    rw [hu] at c1
    have m1 : IntKind.i64.wrap ((j : Int) - 1) = (j : Int) - 1 := IntWalk.i64_in _ (by omega)
    have m2 : ((j : Int) - 1).toNat = j - 1 := by omega
    have m3 : decide ((j : Int) < (lv.length : Int)) = true := decide_eq_true (by omega)
    have m4 : decide (0 ≤ (j : Int) - 1) = true := decide_eq_true (by omega)
    have m5 : decide ((j : Int) - 1 < (lv.length : Int)) = true := decide_eq_true (by omega)
    have HN := Lib.hid (show okR lv j = decide (u < v) by unfold okR; rw [hv, hu, show (j == 0) = false by simp; omega]; rfl)
    clear hv hu hI
    go_wp2_with fail
    cases ok
    all_goals
      go_quiet (fail)
      go_wp2_with fail
      go_roundw
    all_goals first
      | exact ⟨j + 1, by go_num, by omega, by (have := HJ.out); omega, congrArg Value.bool (by rw [rising_next HO.out, HN.out]; first | rfl | simp), S.out.below (below_drewN (Below.refl _ _) _)⟩
      | (simp [intOf]; omega)
  have hlv : liveB 3 b lv rs = ok := by unfold liveB; rw [HK.out, ← HO.out, rising_at (by omega) hj2]; rfl
  have HL := Lib.hid hlv
  clear hlv HO HI
  have m3 : decide ((j : Int) < (lv.length : Int)) = false := decide_eq_false (by omega)
  go_upto_region 9 with fail
  have hU := HU.out
  clear p4 hpr
  obtain ⟨hb, h⟩ : ∃ z, insB b rn = z := ⟨_, rfl⟩
  have CB := Lib.hid (fun W => inside_eq h W)
  rw [h] at hU
  clear h
  obtain ⟨ha, h⟩ : ∃ z, insB a rs = z := ⟨_, rfl⟩
  rw [h] at hU
  rw [h]
  clear h
  have HU := Lib.hid hU
  clear hU
  cases ok
  rotate_left
  cases ha
  rotate_left
  cases hb
  rotate_left
  by_cases hc : (c == 0) = true
  rotate_left
  have hc : (c == 0) = false := by simpa using hc
  all_goals
    go_wp2_with fail
    go_quiet (first | (go_at_call 63; refine Calls.quiet_of_same (CB.out _)))
    go_wp2_with fail
    go_ret
    exact ⟨ret_bool (by rw [HL.out, HU.out]; simp [*]), below_drewN S.out.fx.b _⟩

set_option maxHeartbeats 8000000 in
set_option maxRecDepth 8000 in
theorem form_4  (p : Nat) (fa sa ra : Option Addr) (sn rn fc sc rc : Nat) (en : Int) (fp : List Int) (ps rs : Int) (ca : Option Addr) (cn cc : Nat) (a b c : Int) (l lv : List Int) (la : Option Addr) (lc : Nat) (va : Option Addr) (vc : Nat) (w : World) (hW : WoAt w p fa sa ra fp.length sn rn fc sc rc en) (hf : PsAt w fa fp) (hl : IntsAt .i64 w la l) (hv : IntsAt .i64 w va lv) (hcn : cn ≤ 1000000000) :
    Calls Try.prog 64 #[.pointer (some ⟨p, 0, none⟩), .agg #[.int .i64 ps, .int .i64 rs, .slice ca cn cc], .agg #[.int .i64 4, .int .i64 a, .int .i64 b, .int .i64 c, .slice la l.length lc, .slice va lv.length vc]] w fun e w' => e = .returned (.bool (liveB 4 b lv rs && formB sn rn fp cn rs 4 a b c l)) ∧ Below w.heap.size w w' := by
  have S := Lib.hid (fo_start (x := ⟨4, a, b, c, l, lv⟩) hW hf hl hv ps rs ca cn cc lc vc)
  have CI := Lib.hid (fun n e W => inside_any n e W)
  have CK := Lib.hid (fun W h => keeps_any p fa sa ra fp.length sn rn fc sc rc en 4 a b c la va l.length lc lv.length vc W h)
  have CV := Lib.hid (fun W h => regs_any va lv vc ps rs ca cn cc W h)
  have CG := Lib.hid (fun W h => regs_any la l lc ps rs ca cn cc W h)
  have CR := Lib.hid (fun n W => right_any n W)
  have hm := hv.1
  have hm2 : (lv.length : Int) ≤ 9223372036854775807 := by unfold maxLen at hm; omega
  clear hW hf hl hv hm
  go_enter Try.func64, Try.ntmps64
  go_wp2_with fail
  go_quiet (first | (go_at_call 63; refine Calls.quiet_of_same (CI.out _ _ _)))
  obtain ⟨W, hW⟩ : ∃ W, ((w.alloc (.cells #[.int .i64 ps, .int .i64 rs, .slice ca cn cc] 61)).alloc (.cells #[.int .i64 4, .int .i64 a, .int .i64 b, .int .i64 c, .slice la l.length lc, .slice va lv.length vc] 58)).drewN nq = W := ⟨_, rfl⟩
  have S1 := S.out.below (below_drewN (Below.refl _ _) nq)
  try dsimp only at S1
  rw [hW] at S1
  rw [hW]
  clear hW
  have S := Lib.hid S1
  clear S1
  obtain ⟨f0, f1, f2, x0, x1, x2, x3, x4, x5⟩ := S.out.fx.cells; obtain ⟨p0, p1, p2, pg, pcap, p4, hpr⟩ := S.out.wo.pcells; dsimp only at x0 x1 x2 x3 x4 x5
  have HK := Lib.hid (show keepsI 4 b = false from rfl)
  have HU := Lib.hid (show formB sn rn fp cn rs 4 a b c l = (insB a rs && insB b rs && (c == 0) && ((l.length : Int) == 0)) from rfl)
  have CK1 : Hid (∀ W h, Calls Try.prog 68 #[.pointer (some ⟨p, 0, none⟩), .agg #[.int .i64 4, .int .i64 a, .int .i64 b, .int .i64 c, .slice la l.length lc, .slice va lv.length vc]] W fun x w' => x = .returned (.bool false) ∧ Below W.heap.size W w') := Lib.hid (fun W (h : WoAt W p fa sa ra fp.length sn rn fc sc rc en) => by
    have := CK.out W h
    rwa [HK.out] at this)
  go_upto_region 9 with (first | (go_at_call 68; refine (CK1.out _ S.out.wo).mono ?_; rintro e w1 ⟨rfl, hb⟩; have S := Lib.hid (S.out.below hb); clear hb f0 f1 f2 x0 x1 x2 x3 x4 x5 p0 p1 p2 p4 hpr pg pcap; obtain ⟨f0, f1, f2, x0, x1, x2, x3, x4, x5⟩ := S.out.fx.cells; obtain ⟨p0, p1, p2, pg, pcap, p4, hpr⟩ := S.out.wo.pcells; dsimp only at x0 x1 x2 x3 x4 x5))
  obtain ⟨ok, hok⟩ : ∃ ok, ((lv.length : Int) == 0) = ok := ⟨_, rfl⟩
  have hlv : liveB 4 b lv rs = ok := by unfold liveB; rw [HK.out]; simpa using hok
  rw [hok]
  have HL := Lib.hid hlv
  clear hlv hok CK CK1 CV
  go_wp2_with (first
    | (go_at_call 86; refine (CR.out _ _).mono ?_; rintro e w1 ⟨rfl, rfl⟩)
    | (go_at_call 63; refine (CI.out _ _ _).mono ?_; rintro e w1 ⟨rfl, rfl⟩)
    | (go_at_call 85; refine (CG.out _ S.out.fx.li).mono ?_; rintro e w1 ⟨rfl, hb⟩; have S := Lib.hid (S.out.below hb); clear hb f0 f1 f2 x0 x1 x2 x3 x4 x5 p0 p1 p2 p4 hpr pg pcap; obtain ⟨f0, f1, f2, x0, x1, x2, x3, x4, x5⟩ := S.out.fx.cells; obtain ⟨p0, p1, p2, pg, pcap, p4, hpr⟩ := S.out.wo.pcells; dsimp only at x0 x1 x2 x3 x4 x5)
    | (go_at_call 87; refine (CE.out _ S.out.wo S.out.fs S.out.fx.li S.out.fx.vi).mono ?_; rintro e w1 ⟨rfl, hb⟩; have S := Lib.hid (S.out.below hb); clear hb f0 f1 f2 x0 x1 x2 x3 x4 x5 p0 p1 p2 p4 hpr pg pcap; obtain ⟨f0, f1, f2, x0, x1, x2, x3, x4, x5⟩ := S.out.fx.cells; obtain ⟨p0, p1, p2, pg, pcap, p4, hpr⟩ := S.out.wo.pcells; dsimp only at x0 x1 x2 x3 x4 x5))
  all_goals (go_ret; exact ⟨ret_bool (by rw [HL.out, HU.out]; first | (simp [*]; done) | (have i0 := ins0; simp [*]; done) | (simp [*]; intros; omega)), S.out.fx.b⟩)

set_option maxHeartbeats 8000000 in
set_option maxRecDepth 8000 in
theorem form_5  (p : Nat) (fa sa ra : Option Addr) (sn rn fc sc rc : Nat) (en : Int) (fp : List Int) (ps rs : Int) (ca : Option Addr) (cn cc : Nat) (a b c : Int) (l lv : List Int) (la : Option Addr) (lc : Nat) (va : Option Addr) (vc : Nat) (w : World) (hW : WoAt w p fa sa ra fp.length sn rn fc sc rc en) (hf : PsAt w fa fp) (hl : IntsAt .i64 w la l) (hv : IntsAt .i64 w va lv) (hcn : cn ≤ 1000000000) :
    Calls Try.prog 64 #[.pointer (some ⟨p, 0, none⟩), .agg #[.int .i64 ps, .int .i64 rs, .slice ca cn cc], .agg #[.int .i64 5, .int .i64 a, .int .i64 b, .int .i64 c, .slice la l.length lc, .slice va lv.length vc]] w fun e w' => e = .returned (.bool (liveB 5 b lv rs && formB sn rn fp cn rs 5 a b c l)) ∧ Below w.heap.size w w' := by
  have S := Lib.hid (fo_start (x := ⟨5, a, b, c, l, lv⟩) hW hf hl hv ps rs ca cn cc lc vc)
  have CI := Lib.hid (fun n e W => inside_any n e W)
  have CK := Lib.hid (fun W h => keeps_any p fa sa ra fp.length sn rn fc sc rc en 5 a b c la va l.length lc lv.length vc W h)
  have CV := Lib.hid (fun W h => regs_any va lv vc ps rs ca cn cc W h)
  have CG := Lib.hid (fun W h => regs_any la l lc ps rs ca cn cc W h)
  have CR := Lib.hid (fun n W => right_any n W)
  have hm := hv.1
  have hm2 : (lv.length : Int) ≤ 9223372036854775807 := by unfold maxLen at hm; omega
  clear hW hf hl hv hm
  go_enter Try.func64, Try.ntmps64
  go_wp2_with fail
  go_quiet (first | (go_at_call 63; refine Calls.quiet_of_same (CI.out _ _ _)))
  obtain ⟨W, hW⟩ : ∃ W, ((w.alloc (.cells #[.int .i64 ps, .int .i64 rs, .slice ca cn cc] 61)).alloc (.cells #[.int .i64 5, .int .i64 a, .int .i64 b, .int .i64 c, .slice la l.length lc, .slice va lv.length vc] 58)).drewN nq = W := ⟨_, rfl⟩
  have S1 := S.out.below (below_drewN (Below.refl _ _) nq)
  try dsimp only at S1
  rw [hW] at S1
  rw [hW]
  clear hW
  have S := Lib.hid S1
  clear S1
  obtain ⟨f0, f1, f2, x0, x1, x2, x3, x4, x5⟩ := S.out.fx.cells; obtain ⟨p0, p1, p2, pg, pcap, p4, hpr⟩ := S.out.wo.pcells; dsimp only at x0 x1 x2 x3 x4 x5
  have HK := Lib.hid (show keepsI 5 b = true from rfl)
  have HU := Lib.hid (show formB sn rn fp cn rs 5 a b c l = (insB a rs && (decide (1 ≤ b) && decide (b ≤ 4)) && insB c 16777216 && ((c == 0) || (b == 3)) && regsB l rs) from by rw [← kinds_eq]; rfl)
  have CK1 : Hid (∀ W h, Calls Try.prog 68 #[.pointer (some ⟨p, 0, none⟩), .agg #[.int .i64 5, .int .i64 a, .int .i64 b, .int .i64 c, .slice la l.length lc, .slice va lv.length vc]] W fun x w' => x = .returned (.bool true) ∧ Below W.heap.size W w') := Lib.hid (fun W (h : WoAt W p fa sa ra fp.length sn rn fc sc rc en) => by
    have := CK.out W h
    rwa [HK.out] at this)
  go_wp2_with (first
    | (go_at_call 68; refine (CK1.out _ S.out.wo).mono ?_; rintro e w1 ⟨rfl, hb⟩; have S := Lib.hid (S.out.below hb); clear hb f0 f1 f2 x0 x1 x2 x3 x4 x5 p0 p1 p2 p4 hpr pg pcap; obtain ⟨f0, f1, f2, x0, x1, x2, x3, x4, x5⟩ := S.out.fx.cells; obtain ⟨p0, p1, p2, pg, pcap, p4, hpr⟩ := S.out.wo.pcells; dsimp only at x0 x1 x2 x3 x4 x5)
    | (go_at_call 85; refine (CV.out _ S.out.fx.vi).mono ?_; rintro e w1 ⟨rfl, hb⟩; have S := Lib.hid (S.out.below hb); clear hb f0 f1 f2 x0 x1 x2 x3 x4 x5 p0 p1 p2 p4 hpr pg pcap; obtain ⟨f0, f1, f2, x0, x1, x2, x3, x4, x5⟩ := S.out.fx.cells; obtain ⟨p0, p1, p2, pg, pcap, p4, hpr⟩ := S.out.wo.pcells; dsimp only at x0 x1 x2 x3 x4 x5))
  clear CK CK1 CV
  go_loopw [10, 11] (fun vo vi wr => ∃ j : Nat, vi = .int .i64 j ∧ 1 ≤ j ∧ (j ≤ lv.length ∨ (j = 1 ∧ lv.length = 0)) ∧ vo = .bool (regsB lv rs && (List.range j).all (okR lv)) ∧ FoAt w wr p w.heap.size (w.heap.size + 1) fa sa ra sn rn fc sc rc en fp ps rs ca cn cc ⟨5, a, b, c, l, lv⟩ la lc va vc) (fun _ vi _ => lv.length - (intOf vi).toNat)
  case atStart => exact ⟨1, rfl, by omega, by omega, congrArg Value.bool (by rw [show (List.range 1).all (okR lv) = true from rfl, Bool.and_true]), S.out⟩
  clear S f0 f1 f2 x0 x1 x2 x3 x4 x5 p0 p1 p2 p4 hpr pg pcap
  obtain ⟨j, rfl, hj1, hj2, rfl, hS⟩ := hrel
  have S := Lib.hid hS
  have HI := Lib.hid hS.fx.vi
  clear hS
  obtain ⟨f0, f1, f2, x0, x1, x2, x3, x4, x5⟩ := S.out.fx.cells; obtain ⟨p0, p1, p2, pg, pcap, p4, hpr⟩ := S.out.wo.pcells; dsimp only at x0 x1 x2 x3 x4 x5
  obtain ⟨ok, hok⟩ : ∃ ok, (regsB lv rs && (List.range j).all (okR lv)) = ok := ⟨_, rfl⟩
  rw [hok]
  have HO := Lib.hid hok
  clear hok
  by_cases hlt : j < lv.length
  · have HJ := Lib.hid hj2
    clear hj2 p0 p1 p2 p4 hpr pg pcap
    have hI := HI.out
    obtain ⟨bB, off, ha, c0⟩ := ints_cell hI hlt
    obtain ⟨b', off', ha', c1⟩ := ints_cell hI (show j - 1 < lv.length by omega)
    rw [ha] at ha'
    injection ha' with ha'
    injection ha' with q1 q2 _
    subst q1; subst q2; subst ha
    obtain ⟨v, hv⟩ : ∃ v, lv.getD j 0 = v := ⟨_, rfl⟩
    obtain ⟨u, hu⟩ : ∃ u, lv.getD (j - 1) 0 = u := ⟨_, rfl⟩
    rw [hv] at c0
    rw [hu] at c1
    have m1 : IntKind.i64.wrap ((j : Int) - 1) = (j : Int) - 1 := IntWalk.i64_in _ (by omega)
    have m2 : ((j : Int) - 1).toNat = j - 1 := by omega
    have m3 : decide ((j : Int) < (lv.length : Int)) = true := decide_eq_true (by omega)
    have m4 : decide (0 ≤ (j : Int) - 1) = true := decide_eq_true (by omega)
    have m5 : decide ((j : Int) - 1 < (lv.length : Int)) = true := decide_eq_true (by omega)
    have HN := Lib.hid (show okR lv j = decide (u < v) by unfold okR; rw [hv, hu, show (j == 0) = false by simp; omega]; rfl)
    clear hv hu hI
    go_wp2_with fail
    cases ok
    all_goals
      go_quiet (fail)
      go_wp2_with fail
      go_roundw
    all_goals first
      | exact ⟨j + 1, by go_num, by omega, by (have := HJ.out); omega, congrArg Value.bool (by rw [rising_next HO.out, HN.out]; first | rfl | simp), S.out.below (below_drewN (Below.refl _ _) _)⟩
      | (simp [intOf]; omega)
  have hlv : liveB 5 b lv rs = ok := by unfold liveB; rw [HK.out, ← HO.out, rising_at (by omega) hj2]; rfl
  have HL := Lib.hid hlv
  clear hlv HO HI
  have m3 : decide ((j : Int) < (lv.length : Int)) = false := decide_eq_false (by omega)
  go_upto_region 9 with fail
  go_wp2_with (first
    | (go_at_call 86; refine (CR.out _ _).mono ?_; rintro e w1 ⟨rfl, rfl⟩)
    | (go_at_call 63; refine (CI.out _ _ _).mono ?_; rintro e w1 ⟨rfl, rfl⟩)
    | (go_at_call 85; refine (CG.out _ S.out.fx.li).mono ?_; rintro e w1 ⟨rfl, hb⟩; have S := Lib.hid (S.out.below hb); clear hb f0 f1 f2 x0 x1 x2 x3 x4 x5 p0 p1 p2 p4 hpr pg pcap; obtain ⟨f0, f1, f2, x0, x1, x2, x3, x4, x5⟩ := S.out.fx.cells; obtain ⟨p0, p1, p2, pg, pcap, p4, hpr⟩ := S.out.wo.pcells; dsimp only at x0 x1 x2 x3 x4 x5)
    | (go_at_call 87; refine (CE.out _ S.out.wo S.out.fs S.out.fx.li S.out.fx.vi).mono ?_; rintro e w1 ⟨rfl, hb⟩; have S := Lib.hid (S.out.below hb); clear hb f0 f1 f2 x0 x1 x2 x3 x4 x5 p0 p1 p2 p4 hpr pg pcap; obtain ⟨f0, f1, f2, x0, x1, x2, x3, x4, x5⟩ := S.out.fx.cells; obtain ⟨p0, p1, p2, pg, pcap, p4, hpr⟩ := S.out.wo.pcells; dsimp only at x0 x1 x2 x3 x4 x5))
  all_goals (go_ret; exact ⟨ret_bool (by rw [HL.out, HU.out]; first | (simp [*]; done) | (have i0 := ins0; simp [*]; done) | (simp [*]; intros; omega)), S.out.fx.b⟩)

set_option maxHeartbeats 8000000 in
set_option maxRecDepth 8000 in
theorem form_6  (p : Nat) (fa sa ra : Option Addr) (sn rn fc sc rc : Nat) (en : Int) (fp : List Int) (ps rs : Int) (ca : Option Addr) (cn cc : Nat) (a b c : Int) (l lv : List Int) (la : Option Addr) (lc : Nat) (va : Option Addr) (vc : Nat) (w : World) (hW : WoAt w p fa sa ra fp.length sn rn fc sc rc en) (hf : PsAt w fa fp) (hl : IntsAt .i64 w la l) (hv : IntsAt .i64 w va lv) (hcn : cn ≤ 1000000000) :
    Calls Try.prog 64 #[.pointer (some ⟨p, 0, none⟩), .agg #[.int .i64 ps, .int .i64 rs, .slice ca cn cc], .agg #[.int .i64 6, .int .i64 a, .int .i64 b, .int .i64 c, .slice la l.length lc, .slice va lv.length vc]] w fun e w' => e = .returned (.bool (liveB 6 b lv rs && formB sn rn fp cn rs 6 a b c l)) ∧ Below w.heap.size w w' := by
  have S := Lib.hid (fo_start (x := ⟨6, a, b, c, l, lv⟩) hW hf hl hv ps rs ca cn cc lc vc)
  have CI := Lib.hid (fun n e W => inside_any n e W)
  have CK := Lib.hid (fun W h => keeps_any p fa sa ra fp.length sn rn fc sc rc en 6 a b c la va l.length lc lv.length vc W h)
  have CV := Lib.hid (fun W h => regs_any va lv vc ps rs ca cn cc W h)
  have CG := Lib.hid (fun W h => regs_any la l lc ps rs ca cn cc W h)
  have CR := Lib.hid (fun n W => right_any n W)
  have hm := hv.1
  have hm2 : (lv.length : Int) ≤ 9223372036854775807 := by unfold maxLen at hm; omega
  clear hW hf hl hv hm
  go_enter Try.func64, Try.ntmps64
  go_wp2_with fail
  go_quiet (first | (go_at_call 63; refine Calls.quiet_of_same (CI.out _ _ _)))
  obtain ⟨W, hW⟩ : ∃ W, ((w.alloc (.cells #[.int .i64 ps, .int .i64 rs, .slice ca cn cc] 61)).alloc (.cells #[.int .i64 6, .int .i64 a, .int .i64 b, .int .i64 c, .slice la l.length lc, .slice va lv.length vc] 58)).drewN nq = W := ⟨_, rfl⟩
  have S1 := S.out.below (below_drewN (Below.refl _ _) nq)
  try dsimp only at S1
  rw [hW] at S1
  rw [hW]
  clear hW
  have S := Lib.hid S1
  clear S1
  obtain ⟨f0, f1, f2, x0, x1, x2, x3, x4, x5⟩ := S.out.fx.cells; obtain ⟨p0, p1, p2, pg, pcap, p4, hpr⟩ := S.out.wo.pcells; dsimp only at x0 x1 x2 x3 x4 x5
  have HK := Lib.hid (show keepsI 6 b = false from rfl)
  have HU := Lib.hid (show formB sn rn fp cn rs 6 a b c l = (insB a rs && insB b rs && insB c 4194305 && ((l.length : Int) == 0)) from rfl)
  have CK1 : Hid (∀ W h, Calls Try.prog 68 #[.pointer (some ⟨p, 0, none⟩), .agg #[.int .i64 6, .int .i64 a, .int .i64 b, .int .i64 c, .slice la l.length lc, .slice va lv.length vc]] W fun x w' => x = .returned (.bool false) ∧ Below W.heap.size W w') := Lib.hid (fun W (h : WoAt W p fa sa ra fp.length sn rn fc sc rc en) => by
    have := CK.out W h
    rwa [HK.out] at this)
  go_upto_region 9 with (first | (go_at_call 68; refine (CK1.out _ S.out.wo).mono ?_; rintro e w1 ⟨rfl, hb⟩; have S := Lib.hid (S.out.below hb); clear hb f0 f1 f2 x0 x1 x2 x3 x4 x5 p0 p1 p2 p4 hpr pg pcap; obtain ⟨f0, f1, f2, x0, x1, x2, x3, x4, x5⟩ := S.out.fx.cells; obtain ⟨p0, p1, p2, pg, pcap, p4, hpr⟩ := S.out.wo.pcells; dsimp only at x0 x1 x2 x3 x4 x5))
  obtain ⟨ok, hok⟩ : ∃ ok, ((lv.length : Int) == 0) = ok := ⟨_, rfl⟩
  have hlv : liveB 6 b lv rs = ok := by unfold liveB; rw [HK.out]; simpa using hok
  rw [hok]
  have HL := Lib.hid hlv
  clear hlv hok CK CK1 CV
  go_wp2_with (first
    | (go_at_call 86; refine (CR.out _ _).mono ?_; rintro e w1 ⟨rfl, rfl⟩)
    | (go_at_call 63; refine (CI.out _ _ _).mono ?_; rintro e w1 ⟨rfl, rfl⟩)
    | (go_at_call 85; refine (CG.out _ S.out.fx.li).mono ?_; rintro e w1 ⟨rfl, hb⟩; have S := Lib.hid (S.out.below hb); clear hb f0 f1 f2 x0 x1 x2 x3 x4 x5 p0 p1 p2 p4 hpr pg pcap; obtain ⟨f0, f1, f2, x0, x1, x2, x3, x4, x5⟩ := S.out.fx.cells; obtain ⟨p0, p1, p2, pg, pcap, p4, hpr⟩ := S.out.wo.pcells; dsimp only at x0 x1 x2 x3 x4 x5)
    | (go_at_call 87; refine (CE.out _ S.out.wo S.out.fs S.out.fx.li S.out.fx.vi).mono ?_; rintro e w1 ⟨rfl, hb⟩; have S := Lib.hid (S.out.below hb); clear hb f0 f1 f2 x0 x1 x2 x3 x4 x5 p0 p1 p2 p4 hpr pg pcap; obtain ⟨f0, f1, f2, x0, x1, x2, x3, x4, x5⟩ := S.out.fx.cells; obtain ⟨p0, p1, p2, pg, pcap, p4, hpr⟩ := S.out.wo.pcells; dsimp only at x0 x1 x2 x3 x4 x5))
  all_goals (go_ret; exact ⟨ret_bool (by rw [HL.out, HU.out]; first | (simp [*]; done) | (have i0 := ins0; simp [*]; done) | (simp [*]; intros; omega)), S.out.fx.b⟩)

set_option maxHeartbeats 8000000 in
set_option maxRecDepth 8000 in
theorem form_7  (p : Nat) (fa sa ra : Option Addr) (sn rn fc sc rc : Nat) (en : Int) (fp : List Int) (ps rs : Int) (ca : Option Addr) (cn cc : Nat) (a b c : Int) (l lv : List Int) (la : Option Addr) (lc : Nat) (va : Option Addr) (vc : Nat) (w : World) (hW : WoAt w p fa sa ra fp.length sn rn fc sc rc en) (hf : PsAt w fa fp) (hl : IntsAt .i64 w la l) (hv : IntsAt .i64 w va lv) (hcn : cn ≤ 1000000000) :
    Calls Try.prog 64 #[.pointer (some ⟨p, 0, none⟩), .agg #[.int .i64 ps, .int .i64 rs, .slice ca cn cc], .agg #[.int .i64 7, .int .i64 a, .int .i64 b, .int .i64 c, .slice la l.length lc, .slice va lv.length vc]] w fun e w' => e = .returned (.bool (liveB 7 b lv rs && formB sn rn fp cn rs 7 a b c l)) ∧ Below w.heap.size w w' := by
  have S := Lib.hid (fo_start (x := ⟨7, a, b, c, l, lv⟩) hW hf hl hv ps rs ca cn cc lc vc)
  have CI := Lib.hid (fun n e W => inside_any n e W)
  have CK := Lib.hid (fun W h => keeps_any p fa sa ra fp.length sn rn fc sc rc en 7 a b c la va l.length lc lv.length vc W h)
  have CV := Lib.hid (fun W h => regs_any va lv vc ps rs ca cn cc W h)
  have CG := Lib.hid (fun W h => regs_any la l lc ps rs ca cn cc W h)
  have CR := Lib.hid (fun n W => right_any n W)
  have hm := hv.1
  have hm2 : (lv.length : Int) ≤ 9223372036854775807 := by unfold maxLen at hm; omega
  clear hW hf hl hv hm
  go_enter Try.func64, Try.ntmps64
  go_wp2_with fail
  go_quiet (first | (go_at_call 63; refine Calls.quiet_of_same (CI.out _ _ _)))
  obtain ⟨W, hW⟩ : ∃ W, ((w.alloc (.cells #[.int .i64 ps, .int .i64 rs, .slice ca cn cc] 61)).alloc (.cells #[.int .i64 7, .int .i64 a, .int .i64 b, .int .i64 c, .slice la l.length lc, .slice va lv.length vc] 58)).drewN nq = W := ⟨_, rfl⟩
  have S1 := S.out.below (below_drewN (Below.refl _ _) nq)
  try dsimp only at S1
  rw [hW] at S1
  rw [hW]
  clear hW
  have S := Lib.hid S1
  clear S1
  obtain ⟨f0, f1, f2, x0, x1, x2, x3, x4, x5⟩ := S.out.fx.cells; obtain ⟨p0, p1, p2, pg, pcap, p4, hpr⟩ := S.out.wo.pcells; dsimp only at x0 x1 x2 x3 x4 x5
  have HK := Lib.hid (show keepsI 7 b = false from rfl)
  have HU := Lib.hid (show formB sn rn fp cn rs 7 a b c l = (insB a rs && insB b rs && insB c 4194305 && ((l.length : Int) == 0)) from rfl)
  have CK1 : Hid (∀ W h, Calls Try.prog 68 #[.pointer (some ⟨p, 0, none⟩), .agg #[.int .i64 7, .int .i64 a, .int .i64 b, .int .i64 c, .slice la l.length lc, .slice va lv.length vc]] W fun x w' => x = .returned (.bool false) ∧ Below W.heap.size W w') := Lib.hid (fun W (h : WoAt W p fa sa ra fp.length sn rn fc sc rc en) => by
    have := CK.out W h
    rwa [HK.out] at this)
  go_upto_region 9 with (first | (go_at_call 68; refine (CK1.out _ S.out.wo).mono ?_; rintro e w1 ⟨rfl, hb⟩; have S := Lib.hid (S.out.below hb); clear hb f0 f1 f2 x0 x1 x2 x3 x4 x5 p0 p1 p2 p4 hpr pg pcap; obtain ⟨f0, f1, f2, x0, x1, x2, x3, x4, x5⟩ := S.out.fx.cells; obtain ⟨p0, p1, p2, pg, pcap, p4, hpr⟩ := S.out.wo.pcells; dsimp only at x0 x1 x2 x3 x4 x5))
  obtain ⟨ok, hok⟩ : ∃ ok, ((lv.length : Int) == 0) = ok := ⟨_, rfl⟩
  have hlv : liveB 7 b lv rs = ok := by unfold liveB; rw [HK.out]; simpa using hok
  rw [hok]
  have HL := Lib.hid hlv
  clear hlv hok CK CK1 CV
  go_wp2_with (first
    | (go_at_call 86; refine (CR.out _ _).mono ?_; rintro e w1 ⟨rfl, rfl⟩)
    | (go_at_call 63; refine (CI.out _ _ _).mono ?_; rintro e w1 ⟨rfl, rfl⟩)
    | (go_at_call 85; refine (CG.out _ S.out.fx.li).mono ?_; rintro e w1 ⟨rfl, hb⟩; have S := Lib.hid (S.out.below hb); clear hb f0 f1 f2 x0 x1 x2 x3 x4 x5 p0 p1 p2 p4 hpr pg pcap; obtain ⟨f0, f1, f2, x0, x1, x2, x3, x4, x5⟩ := S.out.fx.cells; obtain ⟨p0, p1, p2, pg, pcap, p4, hpr⟩ := S.out.wo.pcells; dsimp only at x0 x1 x2 x3 x4 x5)
    | (go_at_call 87; refine (CE.out _ S.out.wo S.out.fs S.out.fx.li S.out.fx.vi).mono ?_; rintro e w1 ⟨rfl, hb⟩; have S := Lib.hid (S.out.below hb); clear hb f0 f1 f2 x0 x1 x2 x3 x4 x5 p0 p1 p2 p4 hpr pg pcap; obtain ⟨f0, f1, f2, x0, x1, x2, x3, x4, x5⟩ := S.out.fx.cells; obtain ⟨p0, p1, p2, pg, pcap, p4, hpr⟩ := S.out.wo.pcells; dsimp only at x0 x1 x2 x3 x4 x5))
  all_goals (go_ret; exact ⟨ret_bool (by rw [HL.out, HU.out]; first | (simp [*]; done) | (have i0 := ins0; simp [*]; done) | (simp [*]; intros; omega)), S.out.fx.b⟩)

set_option maxHeartbeats 8000000 in
set_option maxRecDepth 8000 in
theorem form_9  (p : Nat) (fa sa ra : Option Addr) (sn rn fc sc rc : Nat) (en : Int) (fp : List Int) (ps rs : Int) (ca : Option Addr) (cn cc : Nat) (a b c : Int) (l lv : List Int) (la : Option Addr) (lc : Nat) (va : Option Addr) (vc : Nat) (w : World) (hW : WoAt w p fa sa ra fp.length sn rn fc sc rc en) (hf : PsAt w fa fp) (hl : IntsAt .i64 w la l) (hv : IntsAt .i64 w va lv) (hcn : cn ≤ 1000000000) :
    Calls Try.prog 64 #[.pointer (some ⟨p, 0, none⟩), .agg #[.int .i64 ps, .int .i64 rs, .slice ca cn cc], .agg #[.int .i64 9, .int .i64 a, .int .i64 b, .int .i64 c, .slice la l.length lc, .slice va lv.length vc]] w fun e w' => e = .returned (.bool (liveB 9 b lv rs && formB sn rn fp cn rs 9 a b c l)) ∧ Below w.heap.size w w' := by
  have S := Lib.hid (fo_start (x := ⟨9, a, b, c, l, lv⟩) hW hf hl hv ps rs ca cn cc lc vc)
  have CI := Lib.hid (fun n e W => inside_any n e W)
  have CK := Lib.hid (fun W h => keeps_any p fa sa ra fp.length sn rn fc sc rc en 9 a b c la va l.length lc lv.length vc W h)
  have CV := Lib.hid (fun W h => regs_any va lv vc ps rs ca cn cc W h)
  have CG := Lib.hid (fun W h => regs_any la l lc ps rs ca cn cc W h)
  have CR := Lib.hid (fun n W => right_any n W)
  have hm := hv.1
  have hm2 : (lv.length : Int) ≤ 9223372036854775807 := by unfold maxLen at hm; omega
  clear hW hf hl hv hm
  go_enter Try.func64, Try.ntmps64
  go_wp2_with fail
  go_quiet (first | (go_at_call 63; refine Calls.quiet_of_same (CI.out _ _ _)))
  obtain ⟨W, hW⟩ : ∃ W, ((w.alloc (.cells #[.int .i64 ps, .int .i64 rs, .slice ca cn cc] 61)).alloc (.cells #[.int .i64 9, .int .i64 a, .int .i64 b, .int .i64 c, .slice la l.length lc, .slice va lv.length vc] 58)).drewN nq = W := ⟨_, rfl⟩
  have S1 := S.out.below (below_drewN (Below.refl _ _) nq)
  try dsimp only at S1
  rw [hW] at S1
  rw [hW]
  clear hW
  have S := Lib.hid S1
  clear S1
  obtain ⟨f0, f1, f2, x0, x1, x2, x3, x4, x5⟩ := S.out.fx.cells; obtain ⟨p0, p1, p2, pg, pcap, p4, hpr⟩ := S.out.wo.pcells; dsimp only at x0 x1 x2 x3 x4 x5
  have HK := Lib.hid (show keepsI 9 b = false from rfl)
  obtain ⟨fb, hfb⟩ : ∃ fb, formB sn rn fp cn rs 9 a b c l = fb := ⟨_, rfl⟩
  have HU := Lib.hid hfb
  have CE := Lib.hid (fun W h1 h2 h3 h4 => ending_9 p fa sa ra sn rn fc sc rc en fp ps rs ca cn cc a b c l lv la lc va vc W h1 h2 h3 h4 hcn)
  rw [hfb] at CE
  clear hfb
  have CK1 : Hid (∀ W h, Calls Try.prog 68 #[.pointer (some ⟨p, 0, none⟩), .agg #[.int .i64 9, .int .i64 a, .int .i64 b, .int .i64 c, .slice la l.length lc, .slice va lv.length vc]] W fun x w' => x = .returned (.bool false) ∧ Below W.heap.size W w') := Lib.hid (fun W (h : WoAt W p fa sa ra fp.length sn rn fc sc rc en) => by
    have := CK.out W h
    rwa [HK.out] at this)
  go_upto_region 9 with (first | (go_at_call 68; refine (CK1.out _ S.out.wo).mono ?_; rintro e w1 ⟨rfl, hb⟩; have S := Lib.hid (S.out.below hb); clear hb f0 f1 f2 x0 x1 x2 x3 x4 x5 p0 p1 p2 p4 hpr pg pcap; obtain ⟨f0, f1, f2, x0, x1, x2, x3, x4, x5⟩ := S.out.fx.cells; obtain ⟨p0, p1, p2, pg, pcap, p4, hpr⟩ := S.out.wo.pcells; dsimp only at x0 x1 x2 x3 x4 x5))
  obtain ⟨ok, hok⟩ : ∃ ok, ((lv.length : Int) == 0) = ok := ⟨_, rfl⟩
  have hlv : liveB 9 b lv rs = ok := by unfold liveB; rw [HK.out]; simpa using hok
  rw [hok]
  have HL := Lib.hid hlv
  clear hlv hok CK CK1 CV
  go_wp2_with (first
    | (go_at_call 86; refine (CR.out _ _).mono ?_; rintro e w1 ⟨rfl, rfl⟩)
    | (go_at_call 63; refine (CI.out _ _ _).mono ?_; rintro e w1 ⟨rfl, rfl⟩)
    | (go_at_call 85; refine (CG.out _ S.out.fx.li).mono ?_; rintro e w1 ⟨rfl, hb⟩; have S := Lib.hid (S.out.below hb); clear hb f0 f1 f2 x0 x1 x2 x3 x4 x5 p0 p1 p2 p4 hpr pg pcap; obtain ⟨f0, f1, f2, x0, x1, x2, x3, x4, x5⟩ := S.out.fx.cells; obtain ⟨p0, p1, p2, pg, pcap, p4, hpr⟩ := S.out.wo.pcells; dsimp only at x0 x1 x2 x3 x4 x5)
    | (go_at_call 87; refine (CE.out _ S.out.wo S.out.fs S.out.fx.li S.out.fx.vi).mono ?_; rintro e w1 ⟨rfl, hb⟩; have S := Lib.hid (S.out.below hb); clear hb f0 f1 f2 x0 x1 x2 x3 x4 x5 p0 p1 p2 p4 hpr pg pcap; obtain ⟨f0, f1, f2, x0, x1, x2, x3, x4, x5⟩ := S.out.fx.cells; obtain ⟨p0, p1, p2, pg, pcap, p4, hpr⟩ := S.out.wo.pcells; dsimp only at x0 x1 x2 x3 x4 x5))
  all_goals (go_ret; exact ⟨ret_bool (by rw [HL.out, HU.out]; first | (simp [*]; done) | (have i0 := ins0; simp [*]; done) | (simp [*]; intros; omega)), S.out.fx.b⟩)

set_option maxHeartbeats 8000000 in
set_option maxRecDepth 8000 in
theorem form_10  (p : Nat) (fa sa ra : Option Addr) (sn rn fc sc rc : Nat) (en : Int) (fp : List Int) (ps rs : Int) (ca : Option Addr) (cn cc : Nat) (a b c : Int) (l lv : List Int) (la : Option Addr) (lc : Nat) (va : Option Addr) (vc : Nat) (w : World) (hW : WoAt w p fa sa ra fp.length sn rn fc sc rc en) (hf : PsAt w fa fp) (hl : IntsAt .i64 w la l) (hv : IntsAt .i64 w va lv) (hcn : cn ≤ 1000000000) :
    Calls Try.prog 64 #[.pointer (some ⟨p, 0, none⟩), .agg #[.int .i64 ps, .int .i64 rs, .slice ca cn cc], .agg #[.int .i64 10, .int .i64 a, .int .i64 b, .int .i64 c, .slice la l.length lc, .slice va lv.length vc]] w fun e w' => e = .returned (.bool (liveB 10 b lv rs && formB sn rn fp cn rs 10 a b c l)) ∧ Below w.heap.size w w' := by
  have S := Lib.hid (fo_start (x := ⟨10, a, b, c, l, lv⟩) hW hf hl hv ps rs ca cn cc lc vc)
  have CI := Lib.hid (fun n e W => inside_any n e W)
  have CK := Lib.hid (fun W h => keeps_any p fa sa ra fp.length sn rn fc sc rc en 10 a b c la va l.length lc lv.length vc W h)
  have CV := Lib.hid (fun W h => regs_any va lv vc ps rs ca cn cc W h)
  have CG := Lib.hid (fun W h => regs_any la l lc ps rs ca cn cc W h)
  have CR := Lib.hid (fun n W => right_any n W)
  have hm := hv.1
  have hm2 : (lv.length : Int) ≤ 9223372036854775807 := by unfold maxLen at hm; omega
  clear hW hf hl hv hm
  go_enter Try.func64, Try.ntmps64
  go_wp2_with fail
  go_quiet (first | (go_at_call 63; refine Calls.quiet_of_same (CI.out _ _ _)))
  obtain ⟨W, hW⟩ : ∃ W, ((w.alloc (.cells #[.int .i64 ps, .int .i64 rs, .slice ca cn cc] 61)).alloc (.cells #[.int .i64 10, .int .i64 a, .int .i64 b, .int .i64 c, .slice la l.length lc, .slice va lv.length vc] 58)).drewN nq = W := ⟨_, rfl⟩
  have S1 := S.out.below (below_drewN (Below.refl _ _) nq)
  try dsimp only at S1
  rw [hW] at S1
  rw [hW]
  clear hW
  have S := Lib.hid S1
  clear S1
  obtain ⟨f0, f1, f2, x0, x1, x2, x3, x4, x5⟩ := S.out.fx.cells; obtain ⟨p0, p1, p2, pg, pcap, p4, hpr⟩ := S.out.wo.pcells; dsimp only at x0 x1 x2 x3 x4 x5
  have HK := Lib.hid (show keepsI 10 b = false from rfl)
  obtain ⟨fb, hfb⟩ : ∃ fb, formB sn rn fp cn rs 10 a b c l = fb := ⟨_, rfl⟩
  have HU := Lib.hid hfb
  have CE := Lib.hid (fun W h1 h2 h3 h4 => ending_10 p fa sa ra sn rn fc sc rc en fp ps rs ca cn cc a b c l lv la lc va vc W h1 h2 h3 h4 hcn)
  rw [hfb] at CE
  clear hfb
  have CK1 : Hid (∀ W h, Calls Try.prog 68 #[.pointer (some ⟨p, 0, none⟩), .agg #[.int .i64 10, .int .i64 a, .int .i64 b, .int .i64 c, .slice la l.length lc, .slice va lv.length vc]] W fun x w' => x = .returned (.bool false) ∧ Below W.heap.size W w') := Lib.hid (fun W (h : WoAt W p fa sa ra fp.length sn rn fc sc rc en) => by
    have := CK.out W h
    rwa [HK.out] at this)
  go_upto_region 9 with (first | (go_at_call 68; refine (CK1.out _ S.out.wo).mono ?_; rintro e w1 ⟨rfl, hb⟩; have S := Lib.hid (S.out.below hb); clear hb f0 f1 f2 x0 x1 x2 x3 x4 x5 p0 p1 p2 p4 hpr pg pcap; obtain ⟨f0, f1, f2, x0, x1, x2, x3, x4, x5⟩ := S.out.fx.cells; obtain ⟨p0, p1, p2, pg, pcap, p4, hpr⟩ := S.out.wo.pcells; dsimp only at x0 x1 x2 x3 x4 x5))
  obtain ⟨ok, hok⟩ : ∃ ok, ((lv.length : Int) == 0) = ok := ⟨_, rfl⟩
  have hlv : liveB 10 b lv rs = ok := by unfold liveB; rw [HK.out]; simpa using hok
  rw [hok]
  have HL := Lib.hid hlv
  clear hlv hok CK CK1 CV
  go_wp2_with (first
    | (go_at_call 86; refine (CR.out _ _).mono ?_; rintro e w1 ⟨rfl, rfl⟩)
    | (go_at_call 63; refine (CI.out _ _ _).mono ?_; rintro e w1 ⟨rfl, rfl⟩)
    | (go_at_call 85; refine (CG.out _ S.out.fx.li).mono ?_; rintro e w1 ⟨rfl, hb⟩; have S := Lib.hid (S.out.below hb); clear hb f0 f1 f2 x0 x1 x2 x3 x4 x5 p0 p1 p2 p4 hpr pg pcap; obtain ⟨f0, f1, f2, x0, x1, x2, x3, x4, x5⟩ := S.out.fx.cells; obtain ⟨p0, p1, p2, pg, pcap, p4, hpr⟩ := S.out.wo.pcells; dsimp only at x0 x1 x2 x3 x4 x5)
    | (go_at_call 87; refine (CE.out _ S.out.wo S.out.fs S.out.fx.li S.out.fx.vi).mono ?_; rintro e w1 ⟨rfl, hb⟩; have S := Lib.hid (S.out.below hb); clear hb f0 f1 f2 x0 x1 x2 x3 x4 x5 p0 p1 p2 p4 hpr pg pcap; obtain ⟨f0, f1, f2, x0, x1, x2, x3, x4, x5⟩ := S.out.fx.cells; obtain ⟨p0, p1, p2, pg, pcap, p4, hpr⟩ := S.out.wo.pcells; dsimp only at x0 x1 x2 x3 x4 x5))
  all_goals (go_ret; exact ⟨ret_bool (by rw [HL.out, HU.out]; first | (simp [*]; done) | (have i0 := ins0; simp [*]; done) | (simp [*]; intros; omega)), S.out.fx.b⟩)

set_option maxHeartbeats 8000000 in
set_option maxRecDepth 8000 in
theorem form_11  (p : Nat) (fa sa ra : Option Addr) (sn rn fc sc rc : Nat) (en : Int) (fp : List Int) (ps rs : Int) (ca : Option Addr) (cn cc : Nat) (a b c : Int) (l lv : List Int) (la : Option Addr) (lc : Nat) (va : Option Addr) (vc : Nat) (w : World) (hW : WoAt w p fa sa ra fp.length sn rn fc sc rc en) (hf : PsAt w fa fp) (hl : IntsAt .i64 w la l) (hv : IntsAt .i64 w va lv) (hcn : cn ≤ 1000000000) :
    Calls Try.prog 64 #[.pointer (some ⟨p, 0, none⟩), .agg #[.int .i64 ps, .int .i64 rs, .slice ca cn cc], .agg #[.int .i64 11, .int .i64 a, .int .i64 b, .int .i64 c, .slice la l.length lc, .slice va lv.length vc]] w fun e w' => e = .returned (.bool (liveB 11 b lv rs && formB sn rn fp cn rs 11 a b c l)) ∧ Below w.heap.size w w' := by
  have S := Lib.hid (fo_start (x := ⟨11, a, b, c, l, lv⟩) hW hf hl hv ps rs ca cn cc lc vc)
  have CI := Lib.hid (fun n e W => inside_any n e W)
  have CK := Lib.hid (fun W h => keeps_any p fa sa ra fp.length sn rn fc sc rc en 11 a b c la va l.length lc lv.length vc W h)
  have CV := Lib.hid (fun W h => regs_any va lv vc ps rs ca cn cc W h)
  have CG := Lib.hid (fun W h => regs_any la l lc ps rs ca cn cc W h)
  have CR := Lib.hid (fun n W => right_any n W)
  have hm := hv.1
  have hm2 : (lv.length : Int) ≤ 9223372036854775807 := by unfold maxLen at hm; omega
  clear hW hf hl hv hm
  go_enter Try.func64, Try.ntmps64
  go_wp2_with fail
  go_quiet (first | (go_at_call 63; refine Calls.quiet_of_same (CI.out _ _ _)))
  obtain ⟨W, hW⟩ : ∃ W, ((w.alloc (.cells #[.int .i64 ps, .int .i64 rs, .slice ca cn cc] 61)).alloc (.cells #[.int .i64 11, .int .i64 a, .int .i64 b, .int .i64 c, .slice la l.length lc, .slice va lv.length vc] 58)).drewN nq = W := ⟨_, rfl⟩
  have S1 := S.out.below (below_drewN (Below.refl _ _) nq)
  try dsimp only at S1
  rw [hW] at S1
  rw [hW]
  clear hW
  have S := Lib.hid S1
  clear S1
  obtain ⟨f0, f1, f2, x0, x1, x2, x3, x4, x5⟩ := S.out.fx.cells; obtain ⟨p0, p1, p2, pg, pcap, p4, hpr⟩ := S.out.wo.pcells; dsimp only at x0 x1 x2 x3 x4 x5
  have HK := Lib.hid (show keepsI 11 b = false from rfl)
  obtain ⟨fb, hfb⟩ : ∃ fb, formB sn rn fp cn rs 11 a b c l = fb := ⟨_, rfl⟩
  have HU := Lib.hid hfb
  have CE := Lib.hid (fun W h1 h2 h3 h4 => ending_11 p fa sa ra sn rn fc sc rc en fp ps rs ca cn cc a b c l lv la lc va vc W h1 h2 h3 h4 hcn)
  rw [hfb] at CE
  clear hfb
  have CK1 : Hid (∀ W h, Calls Try.prog 68 #[.pointer (some ⟨p, 0, none⟩), .agg #[.int .i64 11, .int .i64 a, .int .i64 b, .int .i64 c, .slice la l.length lc, .slice va lv.length vc]] W fun x w' => x = .returned (.bool false) ∧ Below W.heap.size W w') := Lib.hid (fun W (h : WoAt W p fa sa ra fp.length sn rn fc sc rc en) => by
    have := CK.out W h
    rwa [HK.out] at this)
  go_upto_region 9 with (first | (go_at_call 68; refine (CK1.out _ S.out.wo).mono ?_; rintro e w1 ⟨rfl, hb⟩; have S := Lib.hid (S.out.below hb); clear hb f0 f1 f2 x0 x1 x2 x3 x4 x5 p0 p1 p2 p4 hpr pg pcap; obtain ⟨f0, f1, f2, x0, x1, x2, x3, x4, x5⟩ := S.out.fx.cells; obtain ⟨p0, p1, p2, pg, pcap, p4, hpr⟩ := S.out.wo.pcells; dsimp only at x0 x1 x2 x3 x4 x5))
  obtain ⟨ok, hok⟩ : ∃ ok, ((lv.length : Int) == 0) = ok := ⟨_, rfl⟩
  have hlv : liveB 11 b lv rs = ok := by unfold liveB; rw [HK.out]; simpa using hok
  rw [hok]
  have HL := Lib.hid hlv
  clear hlv hok CK CK1 CV
  go_wp2_with (first
    | (go_at_call 86; refine (CR.out _ _).mono ?_; rintro e w1 ⟨rfl, rfl⟩)
    | (go_at_call 63; refine (CI.out _ _ _).mono ?_; rintro e w1 ⟨rfl, rfl⟩)
    | (go_at_call 85; refine (CG.out _ S.out.fx.li).mono ?_; rintro e w1 ⟨rfl, hb⟩; have S := Lib.hid (S.out.below hb); clear hb f0 f1 f2 x0 x1 x2 x3 x4 x5 p0 p1 p2 p4 hpr pg pcap; obtain ⟨f0, f1, f2, x0, x1, x2, x3, x4, x5⟩ := S.out.fx.cells; obtain ⟨p0, p1, p2, pg, pcap, p4, hpr⟩ := S.out.wo.pcells; dsimp only at x0 x1 x2 x3 x4 x5)
    | (go_at_call 87; refine (CE.out _ S.out.wo S.out.fs S.out.fx.li S.out.fx.vi).mono ?_; rintro e w1 ⟨rfl, hb⟩; have S := Lib.hid (S.out.below hb); clear hb f0 f1 f2 x0 x1 x2 x3 x4 x5 p0 p1 p2 p4 hpr pg pcap; obtain ⟨f0, f1, f2, x0, x1, x2, x3, x4, x5⟩ := S.out.fx.cells; obtain ⟨p0, p1, p2, pg, pcap, p4, hpr⟩ := S.out.wo.pcells; dsimp only at x0 x1 x2 x3 x4 x5))
  all_goals (go_ret; exact ⟨ret_bool (by rw [HL.out, HU.out]; first | (simp [*]; done) | (have i0 := ins0; simp [*]; done) | (simp [*]; intros; omega)), S.out.fx.b⟩)

set_option maxHeartbeats 8000000 in
set_option maxRecDepth 8000 in
theorem form_12  (p : Nat) (fa sa ra : Option Addr) (sn rn fc sc rc : Nat) (en : Int) (fp : List Int) (ps rs : Int) (ca : Option Addr) (cn cc : Nat) (a b c : Int) (l lv : List Int) (la : Option Addr) (lc : Nat) (va : Option Addr) (vc : Nat) (w : World) (hW : WoAt w p fa sa ra fp.length sn rn fc sc rc en) (hf : PsAt w fa fp) (hl : IntsAt .i64 w la l) (hv : IntsAt .i64 w va lv) (hcn : cn ≤ 1000000000) :
    Calls Try.prog 64 #[.pointer (some ⟨p, 0, none⟩), .agg #[.int .i64 ps, .int .i64 rs, .slice ca cn cc], .agg #[.int .i64 12, .int .i64 a, .int .i64 b, .int .i64 c, .slice la l.length lc, .slice va lv.length vc]] w fun e w' => e = .returned (.bool (liveB 12 b lv rs && formB sn rn fp cn rs 12 a b c l)) ∧ Below w.heap.size w w' := by
  have S := Lib.hid (fo_start (x := ⟨12, a, b, c, l, lv⟩) hW hf hl hv ps rs ca cn cc lc vc)
  have CI := Lib.hid (fun n e W => inside_any n e W)
  have CK := Lib.hid (fun W h => keeps_any p fa sa ra fp.length sn rn fc sc rc en 12 a b c la va l.length lc lv.length vc W h)
  have CV := Lib.hid (fun W h => regs_any va lv vc ps rs ca cn cc W h)
  have CG := Lib.hid (fun W h => regs_any la l lc ps rs ca cn cc W h)
  have CR := Lib.hid (fun n W => right_any n W)
  have hm := hv.1
  have hm2 : (lv.length : Int) ≤ 9223372036854775807 := by unfold maxLen at hm; omega
  clear hW hf hl hv hm
  go_enter Try.func64, Try.ntmps64
  go_wp2_with fail
  go_quiet (first | (go_at_call 63; refine Calls.quiet_of_same (CI.out _ _ _)))
  obtain ⟨W, hW⟩ : ∃ W, ((w.alloc (.cells #[.int .i64 ps, .int .i64 rs, .slice ca cn cc] 61)).alloc (.cells #[.int .i64 12, .int .i64 a, .int .i64 b, .int .i64 c, .slice la l.length lc, .slice va lv.length vc] 58)).drewN nq = W := ⟨_, rfl⟩
  have S1 := S.out.below (below_drewN (Below.refl _ _) nq)
  try dsimp only at S1
  rw [hW] at S1
  rw [hW]
  clear hW
  have S := Lib.hid S1
  clear S1
  obtain ⟨f0, f1, f2, x0, x1, x2, x3, x4, x5⟩ := S.out.fx.cells; obtain ⟨p0, p1, p2, pg, pcap, p4, hpr⟩ := S.out.wo.pcells; dsimp only at x0 x1 x2 x3 x4 x5
  have HK := Lib.hid (show keepsI 12 b = false from rfl)
  obtain ⟨fb, hfb⟩ : ∃ fb, formB sn rn fp cn rs 12 a b c l = fb := ⟨_, rfl⟩
  have HU := Lib.hid hfb
  have CE := Lib.hid (fun W h1 h2 h3 h4 => ending_12 p fa sa ra sn rn fc sc rc en fp ps rs ca cn cc a b c l lv la lc va vc W h1 h2 h3 h4 hcn)
  rw [hfb] at CE
  clear hfb
  have CK1 : Hid (∀ W h, Calls Try.prog 68 #[.pointer (some ⟨p, 0, none⟩), .agg #[.int .i64 12, .int .i64 a, .int .i64 b, .int .i64 c, .slice la l.length lc, .slice va lv.length vc]] W fun x w' => x = .returned (.bool false) ∧ Below W.heap.size W w') := Lib.hid (fun W (h : WoAt W p fa sa ra fp.length sn rn fc sc rc en) => by
    have := CK.out W h
    rwa [HK.out] at this)
  go_upto_region 9 with (first | (go_at_call 68; refine (CK1.out _ S.out.wo).mono ?_; rintro e w1 ⟨rfl, hb⟩; have S := Lib.hid (S.out.below hb); clear hb f0 f1 f2 x0 x1 x2 x3 x4 x5 p0 p1 p2 p4 hpr pg pcap; obtain ⟨f0, f1, f2, x0, x1, x2, x3, x4, x5⟩ := S.out.fx.cells; obtain ⟨p0, p1, p2, pg, pcap, p4, hpr⟩ := S.out.wo.pcells; dsimp only at x0 x1 x2 x3 x4 x5))
  obtain ⟨ok, hok⟩ : ∃ ok, ((lv.length : Int) == 0) = ok := ⟨_, rfl⟩
  have hlv : liveB 12 b lv rs = ok := by unfold liveB; rw [HK.out]; simpa using hok
  rw [hok]
  have HL := Lib.hid hlv
  clear hlv hok CK CK1 CV
  go_wp2_with (first
    | (go_at_call 86; refine (CR.out _ _).mono ?_; rintro e w1 ⟨rfl, rfl⟩)
    | (go_at_call 63; refine (CI.out _ _ _).mono ?_; rintro e w1 ⟨rfl, rfl⟩)
    | (go_at_call 85; refine (CG.out _ S.out.fx.li).mono ?_; rintro e w1 ⟨rfl, hb⟩; have S := Lib.hid (S.out.below hb); clear hb f0 f1 f2 x0 x1 x2 x3 x4 x5 p0 p1 p2 p4 hpr pg pcap; obtain ⟨f0, f1, f2, x0, x1, x2, x3, x4, x5⟩ := S.out.fx.cells; obtain ⟨p0, p1, p2, pg, pcap, p4, hpr⟩ := S.out.wo.pcells; dsimp only at x0 x1 x2 x3 x4 x5)
    | (go_at_call 87; refine (CE.out _ S.out.wo S.out.fs S.out.fx.li S.out.fx.vi).mono ?_; rintro e w1 ⟨rfl, hb⟩; have S := Lib.hid (S.out.below hb); clear hb f0 f1 f2 x0 x1 x2 x3 x4 x5 p0 p1 p2 p4 hpr pg pcap; obtain ⟨f0, f1, f2, x0, x1, x2, x3, x4, x5⟩ := S.out.fx.cells; obtain ⟨p0, p1, p2, pg, pcap, p4, hpr⟩ := S.out.wo.pcells; dsimp only at x0 x1 x2 x3 x4 x5))
  all_goals (go_ret; exact ⟨ret_bool (by rw [HL.out, HU.out]; first | (simp [*]; done) | (have i0 := ins0; simp [*]; done) | (simp [*]; intros; omega)), S.out.fx.b⟩)

set_option maxHeartbeats 8000000 in
set_option maxRecDepth 8000 in
theorem form_13  (p : Nat) (fa sa ra : Option Addr) (sn rn fc sc rc : Nat) (en : Int) (fp : List Int) (ps rs : Int) (ca : Option Addr) (cn cc : Nat) (a b c : Int) (l lv : List Int) (la : Option Addr) (lc : Nat) (va : Option Addr) (vc : Nat) (w : World) (hW : WoAt w p fa sa ra fp.length sn rn fc sc rc en) (hf : PsAt w fa fp) (hl : IntsAt .i64 w la l) (hv : IntsAt .i64 w va lv) (hcn : cn ≤ 1000000000) :
    Calls Try.prog 64 #[.pointer (some ⟨p, 0, none⟩), .agg #[.int .i64 ps, .int .i64 rs, .slice ca cn cc], .agg #[.int .i64 13, .int .i64 a, .int .i64 b, .int .i64 c, .slice la l.length lc, .slice va lv.length vc]] w fun e w' => e = .returned (.bool (liveB 13 b lv rs && formB sn rn fp cn rs 13 a b c l)) ∧ Below w.heap.size w w' := by
  have S := Lib.hid (fo_start (x := ⟨13, a, b, c, l, lv⟩) hW hf hl hv ps rs ca cn cc lc vc)
  have CI := Lib.hid (fun n e W => inside_any n e W)
  have CK := Lib.hid (fun W h => keeps_any p fa sa ra fp.length sn rn fc sc rc en 13 a b c la va l.length lc lv.length vc W h)
  have CV := Lib.hid (fun W h => regs_any va lv vc ps rs ca cn cc W h)
  have CG := Lib.hid (fun W h => regs_any la l lc ps rs ca cn cc W h)
  have CR := Lib.hid (fun n W => right_any n W)
  have hm := hv.1
  have hm2 : (lv.length : Int) ≤ 9223372036854775807 := by unfold maxLen at hm; omega
  clear hW hf hl hv hm
  go_enter Try.func64, Try.ntmps64
  go_wp2_with fail
  go_quiet (first | (go_at_call 63; refine Calls.quiet_of_same (CI.out _ _ _)))
  obtain ⟨W, hW⟩ : ∃ W, ((w.alloc (.cells #[.int .i64 ps, .int .i64 rs, .slice ca cn cc] 61)).alloc (.cells #[.int .i64 13, .int .i64 a, .int .i64 b, .int .i64 c, .slice la l.length lc, .slice va lv.length vc] 58)).drewN nq = W := ⟨_, rfl⟩
  have S1 := S.out.below (below_drewN (Below.refl _ _) nq)
  try dsimp only at S1
  rw [hW] at S1
  rw [hW]
  clear hW
  have S := Lib.hid S1
  clear S1
  obtain ⟨f0, f1, f2, x0, x1, x2, x3, x4, x5⟩ := S.out.fx.cells; obtain ⟨p0, p1, p2, pg, pcap, p4, hpr⟩ := S.out.wo.pcells; dsimp only at x0 x1 x2 x3 x4 x5
  have HK := Lib.hid (show keepsI 13 b = false from rfl)
  obtain ⟨fb, hfb⟩ : ∃ fb, formB sn rn fp cn rs 13 a b c l = fb := ⟨_, rfl⟩
  have HU := Lib.hid hfb
  have CE := Lib.hid (fun W h1 h2 h3 h4 => ending_13 p fa sa ra sn rn fc sc rc en fp ps rs ca cn cc a b c l lv la lc va vc W h1 h2 h3 h4 hcn)
  rw [hfb] at CE
  clear hfb
  have CK1 : Hid (∀ W h, Calls Try.prog 68 #[.pointer (some ⟨p, 0, none⟩), .agg #[.int .i64 13, .int .i64 a, .int .i64 b, .int .i64 c, .slice la l.length lc, .slice va lv.length vc]] W fun x w' => x = .returned (.bool false) ∧ Below W.heap.size W w') := Lib.hid (fun W (h : WoAt W p fa sa ra fp.length sn rn fc sc rc en) => by
    have := CK.out W h
    rwa [HK.out] at this)
  go_upto_region 9 with (first | (go_at_call 68; refine (CK1.out _ S.out.wo).mono ?_; rintro e w1 ⟨rfl, hb⟩; have S := Lib.hid (S.out.below hb); clear hb f0 f1 f2 x0 x1 x2 x3 x4 x5 p0 p1 p2 p4 hpr pg pcap; obtain ⟨f0, f1, f2, x0, x1, x2, x3, x4, x5⟩ := S.out.fx.cells; obtain ⟨p0, p1, p2, pg, pcap, p4, hpr⟩ := S.out.wo.pcells; dsimp only at x0 x1 x2 x3 x4 x5))
  obtain ⟨ok, hok⟩ : ∃ ok, ((lv.length : Int) == 0) = ok := ⟨_, rfl⟩
  have hlv : liveB 13 b lv rs = ok := by unfold liveB; rw [HK.out]; simpa using hok
  rw [hok]
  have HL := Lib.hid hlv
  clear hlv hok CK CK1 CV
  go_wp2_with (first
    | (go_at_call 86; refine (CR.out _ _).mono ?_; rintro e w1 ⟨rfl, rfl⟩)
    | (go_at_call 63; refine (CI.out _ _ _).mono ?_; rintro e w1 ⟨rfl, rfl⟩)
    | (go_at_call 85; refine (CG.out _ S.out.fx.li).mono ?_; rintro e w1 ⟨rfl, hb⟩; have S := Lib.hid (S.out.below hb); clear hb f0 f1 f2 x0 x1 x2 x3 x4 x5 p0 p1 p2 p4 hpr pg pcap; obtain ⟨f0, f1, f2, x0, x1, x2, x3, x4, x5⟩ := S.out.fx.cells; obtain ⟨p0, p1, p2, pg, pcap, p4, hpr⟩ := S.out.wo.pcells; dsimp only at x0 x1 x2 x3 x4 x5)
    | (go_at_call 87; refine (CE.out _ S.out.wo S.out.fs S.out.fx.li S.out.fx.vi).mono ?_; rintro e w1 ⟨rfl, hb⟩; have S := Lib.hid (S.out.below hb); clear hb f0 f1 f2 x0 x1 x2 x3 x4 x5 p0 p1 p2 p4 hpr pg pcap; obtain ⟨f0, f1, f2, x0, x1, x2, x3, x4, x5⟩ := S.out.fx.cells; obtain ⟨p0, p1, p2, pg, pcap, p4, hpr⟩ := S.out.wo.pcells; dsimp only at x0 x1 x2 x3 x4 x5))
  all_goals (go_ret; exact ⟨ret_bool (by rw [HL.out, HU.out]; first | (simp [*]; done) | (have i0 := ins0; simp [*]; done) | (simp [*]; intros; omega)), S.out.fx.b⟩)

set_option maxHeartbeats 8000000 in
set_option maxRecDepth 8000 in
theorem form_other (op : Int) (h1 : (op == 1) = false) (h2 : (op == 2) = false) (h3 : (op == 3) = false) (h4 : (op == 4) = false) (h5 : (op == 5) = false) (h6 : (op == 6) = false) (h7 : (op == 7) = false) (h8 : (op == 8) = false) (h9 : (op == 9) = false) (h10 : (op == 10) = false) (h11 : (op == 11) = false) (h12 : (op == 12) = false) (h13 : (op == 13) = false) (p : Nat) (fa sa ra : Option Addr) (sn rn fc sc rc : Nat) (en : Int) (fp : List Int) (ps rs : Int) (ca : Option Addr) (cn cc : Nat) (a b c : Int) (l lv : List Int) (la : Option Addr) (lc : Nat) (va : Option Addr) (vc : Nat) (w : World) (hW : WoAt w p fa sa ra fp.length sn rn fc sc rc en) (hf : PsAt w fa fp) (hl : IntsAt .i64 w la l) (hv : IntsAt .i64 w va lv) (hcn : cn ≤ 1000000000) :
    Calls Try.prog 64 #[.pointer (some ⟨p, 0, none⟩), .agg #[.int .i64 ps, .int .i64 rs, .slice ca cn cc], .agg #[.int .i64 op, .int .i64 a, .int .i64 b, .int .i64 c, .slice la l.length lc, .slice va lv.length vc]] w fun e w' => e = .returned (.bool (liveB op b lv rs && formB sn rn fp cn rs op a b c l)) ∧ Below w.heap.size w w' := by
  have S := Lib.hid (fo_start (x := ⟨op, a, b, c, l, lv⟩) hW hf hl hv ps rs ca cn cc lc vc)
  have CI := Lib.hid (fun n e W => inside_any n e W)
  have CK := Lib.hid (fun W h => keeps_any p fa sa ra fp.length sn rn fc sc rc en op a b c la va l.length lc lv.length vc W h)
  have CV := Lib.hid (fun W h => regs_any va lv vc ps rs ca cn cc W h)
  have CG := Lib.hid (fun W h => regs_any la l lc ps rs ca cn cc W h)
  have CR := Lib.hid (fun n W => right_any n W)
  have hm := hv.1
  have hm2 : (lv.length : Int) ≤ 9223372036854775807 := by unfold maxLen at hm; omega
  clear hW hf hl hv hm
  go_enter Try.func64, Try.ntmps64
  go_wp2_with fail
  go_quiet (first | (go_at_call 63; refine Calls.quiet_of_same (CI.out _ _ _)))
  obtain ⟨W, hW⟩ : ∃ W, ((w.alloc (.cells #[.int .i64 ps, .int .i64 rs, .slice ca cn cc] 61)).alloc (.cells #[.int .i64 op, .int .i64 a, .int .i64 b, .int .i64 c, .slice la l.length lc, .slice va lv.length vc] 58)).drewN nq = W := ⟨_, rfl⟩
  have S1 := S.out.below (below_drewN (Below.refl _ _) nq)
  try dsimp only at S1
  rw [hW] at S1
  rw [hW]
  clear hW
  have S := Lib.hid S1
  clear S1
  obtain ⟨f0, f1, f2, x0, x1, x2, x3, x4, x5⟩ := S.out.fx.cells; obtain ⟨p0, p1, p2, pg, pcap, p4, hpr⟩ := S.out.wo.pcells; dsimp only at x0 x1 x2 x3 x4 x5
  have HK := Lib.hid (show keepsI op b = false by simp [keepsI, h2, h3, h5, h8])
  have HU := Lib.hid (show formB sn rn fp cn rs op a b c l = false by simp [formB, h1, h2, h3, h4, h5, h6, h7, h8, h9, h10, h11, h12, h13])
  have CE := Lib.hid (fun W x1 x2 x3 x4 => ending_other op h9 h10 h11 h12 h13 p fa sa ra sn rn fc sc rc en fp ps rs ca cn cc a b c l lv la lc va vc W x1 x2 x3 x4 hcn)
  have CK1 : Hid (∀ W h, Calls Try.prog 68 #[.pointer (some ⟨p, 0, none⟩), .agg #[.int .i64 op, .int .i64 a, .int .i64 b, .int .i64 c, .slice la l.length lc, .slice va lv.length vc]] W fun x w' => x = .returned (.bool false) ∧ Below W.heap.size W w') := Lib.hid (fun W (h : WoAt W p fa sa ra fp.length sn rn fc sc rc en) => by
    have := CK.out W h
    rwa [HK.out] at this)
  go_upto_region 9 with (first | (go_at_call 68; refine (CK1.out _ S.out.wo).mono ?_; rintro e w1 ⟨rfl, hb⟩; have S := Lib.hid (S.out.below hb); clear hb f0 f1 f2 x0 x1 x2 x3 x4 x5 p0 p1 p2 p4 hpr pg pcap; obtain ⟨f0, f1, f2, x0, x1, x2, x3, x4, x5⟩ := S.out.fx.cells; obtain ⟨p0, p1, p2, pg, pcap, p4, hpr⟩ := S.out.wo.pcells; dsimp only at x0 x1 x2 x3 x4 x5))
  obtain ⟨ok, hok⟩ : ∃ ok, ((lv.length : Int) == 0) = ok := ⟨_, rfl⟩
  have hlv : liveB op b lv rs = ok := by unfold liveB; rw [HK.out]; simpa using hok
  rw [hok]
  have HL := Lib.hid hlv
  clear hlv hok CK CK1 CV
  go_wp2_with (first
    | (go_at_call 86; refine (CR.out _ _).mono ?_; rintro e w1 ⟨rfl, rfl⟩)
    | (go_at_call 63; refine (CI.out _ _ _).mono ?_; rintro e w1 ⟨rfl, rfl⟩)
    | (go_at_call 85; refine (CG.out _ S.out.fx.li).mono ?_; rintro e w1 ⟨rfl, hb⟩; have S := Lib.hid (S.out.below hb); clear hb f0 f1 f2 x0 x1 x2 x3 x4 x5 p0 p1 p2 p4 hpr pg pcap; obtain ⟨f0, f1, f2, x0, x1, x2, x3, x4, x5⟩ := S.out.fx.cells; obtain ⟨p0, p1, p2, pg, pcap, p4, hpr⟩ := S.out.wo.pcells; dsimp only at x0 x1 x2 x3 x4 x5)
    | (go_at_call 87; refine (CE.out _ S.out.wo S.out.fs S.out.fx.li S.out.fx.vi).mono ?_; rintro e w1 ⟨rfl, hb⟩; have S := Lib.hid (S.out.below hb); clear hb f0 f1 f2 x0 x1 x2 x3 x4 x5 p0 p1 p2 p4 hpr pg pcap; obtain ⟨f0, f1, f2, x0, x1, x2, x3, x4, x5⟩ := S.out.fx.cells; obtain ⟨p0, p1, p2, pg, pcap, p4, hpr⟩ := S.out.wo.pcells; dsimp only at x0 x1 x2 x3 x4 x5))
  all_goals (go_ret; exact ⟨ret_bool (by rw [HL.out, HU.out]; first | (simp [*]; done) | (have i0 := ins0; simp [*]; done) | (simp [*]; intros; omega)), S.out.fx.b⟩)
end Go.Proofs.Ytgbgahdeopedpaa
