/- Walks of layer 16: an instruction's form, the program's side: a primitive; any. -/
import Derived.Test.YtgbgahdeopedpaaDq
namespace Go.Proofs.Ytgbgahdeopedpaa
open Go.RowKit
open Fx
set_option linter.unusedVariables false
attribute [local go_sem] ext_mk size_mk toList_mk get_mk take_drop_len take_tail_len ByteArray.mk_append_mk List.append_toArray

set_option maxHeartbeats 8000000 in
set_option maxRecDepth 8000 in
theorem form_8  (p : Nat) (fa sa ra : Option Addr) (sn rn fc sc rc : Nat) (en : Int) (fp : List Int) (ps rs : Int) (ca : Option Addr) (cn cc : Nat) (a b c : Int) (l lv : List Int) (la : Option Addr) (lc : Nat) (va : Option Addr) (vc : Nat) (w : World) (hW : WoAt w p fa sa ra fp.length sn rn fc sc rc en) (hf : PsAt w fa fp) (hl : IntsAt .i64 w la l) (hv : IntsAt .i64 w va lv) (hcn : cn ≤ 1000000000) :
    Calls Try.prog 64 #[.pointer (some ⟨p, 0, none⟩), .agg #[.int .i64 ps, .int .i64 rs, .slice ca cn cc], .agg #[.int .i64 8, .int .i64 a, .int .i64 b, .int .i64 c, .slice la l.length lc, .slice va lv.length vc]] w fun e w' => e = .returned (.bool (liveB 8 b lv rs && formB sn rn fp cn rs 8 a b c l)) ∧ Below w.heap.size w w' := by
  have S := Lib.hid (fo_start (x := ⟨8, a, b, c, l, lv⟩) hW hf hl hv ps rs ca cn cc lc vc)
  have CI := Lib.hid (fun n e W => inside_any n e W)
  have CK := Lib.hid (fun W h => keeps_any p fa sa ra fp.length sn rn fc sc rc en 8 a b c la va l.length lc lv.length vc W h)
  have CV := Lib.hid (fun W h => regs_any va lv vc ps rs ca cn cc W h)
  have CG := Lib.hid (fun W h => regs_any la l lc ps rs ca cn cc W h)
  have CR := Lib.hid (fun n W => right_any n W)
  have hm := hv.1
  have hm2 : (lv.length : Int) ≤ 9223372036854775807 := by unfold maxLen at hm; omega
  clear hW hf hl hv hm
  go_enter Try.func64, Try.ntmps64
  go_wp2_with fail
  go_quiet (first | (go_at_call 63; refine Calls.quiet_of_same (CI.out _ _ _)))
  obtain ⟨W, hW⟩ : ∃ W, ((w.alloc (.cells #[.int .i64 ps, .int .i64 rs, .slice ca cn cc] 61)).alloc (.cells #[.int .i64 8, .int .i64 a, .int .i64 b, .int .i64 c, .slice la l.length lc, .slice va lv.length vc] 58)).drewN nq = W := ⟨_, rfl⟩
  have S1 := S.out.below (below_drewN (Below.refl _ _) nq)
  try dsimp only at S1
  rw [hW] at S1
  rw [hW]
  clear hW
  have S := Lib.hid S1
  clear S1
  obtain ⟨f0, f1, f2, x0, x1, x2, x3, x4, x5⟩ := S.out.fx.cells; obtain ⟨p0, p1, p2, pg, pcap, p4, hpr⟩ := S.out.wo.pcells; dsimp only at x0 x1 x2 x3 x4 x5
  have HU := Lib.hid (show formB sn rn fp cn rs 8 a b c l = (insB a rs && insB b 61 && ((l.length : Int) == (prT b.toNat).2.1) && (if (prT b.toNat).2.2 = 0 then c == -1 else insB c cn) && regsB l rs) from rfl)
  cases hk : keepsI 8 b
  · have HK := Lib.hid hk
    clear hk
    have CK1 : Hid (∀ W h, Calls Try.prog 68 #[.pointer (some ⟨p, 0, none⟩), .agg #[.int .i64 8, .int .i64 a, .int .i64 b, .int .i64 c, .slice la l.length lc, .slice va lv.length vc]] W fun x w' => x = .returned (.bool false) ∧ Below W.heap.size W w') := Lib.hid (fun W (h : WoAt W p fa sa ra fp.length sn rn fc sc rc en) => by
      have := CK.out W h
      rwa [HK.out] at this)
    go_upto_region 9 with (first | (go_at_call 68; refine (CK1.out _ S.out.wo).mono ?_; rintro e w1 ⟨rfl, hb⟩; have S := Lib.hid (S.out.below hb); clear hb f0 f1 f2 x0 x1 x2 x3 x4 x5 p0 p1 p2 p4 hpr pg pcap; obtain ⟨f0, f1, f2, x0, x1, x2, x3, x4, x5⟩ := S.out.fx.cells; obtain ⟨p0, p1, p2, pg, pcap, p4, hpr⟩ := S.out.wo.pcells; dsimp only at x0 x1 x2 x3 x4 x5))
    obtain ⟨ok, hok⟩ : ∃ ok, ((lv.length : Int) == 0) = ok := ⟨_, rfl⟩
    have hlv : liveB 8 b lv rs = ok := by unfold liveB; rw [HK.out]; simpa using hok
    rw [hok]
    have HL := Lib.hid hlv
    clear hlv hok CK CK1 CV
    go_wp2_with fail
    cases hb2 : insB b 61
    · have CB := Lib.hid (fun W => inside_eq hb2 W)
      go_quiet (first | (go_at_call 63; refine Calls.quiet_of_same (CB.out _)))
      go_wp2_with fail
      go_ret
      exact ⟨ret_bool (by rw [HL.out, HU.out, hb2]; simp), below_drewN S.out.fx.b _⟩
    have CB := Lib.hid (fun W => inside_eq hb2 W)
    obtain ⟨hb0, hb1⟩ := insB_true hb2
    obtain ⟨i, rfl⟩ := Int.eq_ofNat_of_zero_le hb0
    have hi : i < 61 := by omega
    have k1 : decide ((i : Int) < 61) = true := decide_eq_true hb1
    go_quiet (first | (go_at_call 63; refine Calls.quiet_of_same (CB.out _)))
    have S5 := S.out.below (below_drewN (Below.refl _ _) nq)
    generalize hW5 : World.drewN _ nq = W5 at S5 ⊢
    clear hW5 f0 f1 f2 x0 x1 x2 x3 x4 x5 p0 p1 p2 p4 hpr S
    have S := Lib.hid S5
    clear S5
    obtain ⟨f0, f1, f2, x0, x1, x2, x3, x4, x5⟩ := S.out.fx.cells; obtain ⟨p0, p1, p2, pg, pcap, p4, hpr⟩ := S.out.wo.pcells; dsimp only at x0 x1 x2 x3 x4 x5
    obtain ⟨e3, e2, rp, rcp, e4, ⟨s0, e0⟩, z0, e1⟩ := hpr.2 i hi
    obtain ⟨ar, har⟩ : ∃ ar, (prT i).2.1 = ar := ⟨_, rfl⟩
    obtain ⟨rr, hrr⟩ : ∃ rr, (prT i).2.2 = rr := ⟨_, rfl⟩
    obtain ⟨tt, htt⟩ : ∃ tt, (prT i).1 = tt := ⟨_, rfl⟩
    have hU := HU.out
    rw [Int.toNat_natCast, har, hrr, hb2] at hU
    rw [htt, Nat.mul_comm] at e3
    rw [har, Nat.mul_comm] at e2
    rw [hrr, Nat.mul_comm] at e4
    rw [Nat.add_zero, Nat.mul_comm] at e0
    rw [Nat.mul_comm] at e1
    have HU := Lib.hid hU
    clear hU har hrr htt
    have hl1 : w.heap.size + 1 < _ := World.block_lt_of_cell? _ _ x2
    have hl2 : p < _ := World.block_lt_of_cell? _ _ p4
    have hl3 := hpr.1
    go_wp2_with fail
    go_region
    obtain ⟨V, hV⟩ : ∃ V, (W5.alloc (.cells #[.string s0, .int .i64 z0, .int .i64 ar, .string ⟨tt.toArray⟩, .slice rp rr rcp] 136)).drew = V := ⟨_, rfl⟩
    have hb5 : Below W5.heap.size W5 V := by rw [← hV]; exact ((Below.refl _ _).alloc (Nat.le_refl _) _).drew
    have y2 : V.cell? ⟨W5.heap.size, 2, none⟩ = some (.int .i64 ar) := by rw [← hV]; simp
    have y4 : V.cell? ⟨W5.heap.size, 4, none⟩ = some (.slice rp rr rcp) := by rw [← hV]; simp
    rw [hV]
    clear hV
    have S6 := S.out.below hb5
    clear hb5 f0 f1 f2 x0 x1 x2 x3 x4 x5 p0 p1 p2 p4 hpr S e0 e1 e2 e3 e4 hl1 hl2 hl3
    have S := Lib.hid S6
    clear S6
    obtain ⟨f0, f1, f2, x0, x1, x2, x3, x4, x5⟩ := S.out.fx.cells; dsimp only at x0 x1 x2 x3 x4 x5
    by_cases hr0 : rr = 0
    · have hr0' : ((rr : Int) == 0) = true := by simp [hr0]
      have HV := Lib.hid (show (if rr = 0 then c == -1 else insB c cn) = (c == -1) from if_pos hr0)
      clear hr0
      go_wp2_with (first
        | (go_at_call 85; refine (CG.out _ S.out.fx.li).mono ?_; rintro e w5 ⟨rfl, hb⟩; have S := Lib.hid (S.out.below hb); clear hb))
      all_goals (go_ret; exact ⟨ret_bool (by rw [HL.out, HU.out, HV.out]; first | (simp [*]; done) | (simp only [*, Bool.and_true, Bool.and_false, Bool.true_and, Bool.false_and, Bool.and_self]; done)), S.out.fx.b⟩)
    · have hr0' : ((rr : Int) == 0) = false := by simpa using hr0
      have HV := Lib.hid (show (if rr = 0 then c == -1 else insB c cn) = insB c cn from if_neg hr0)
      clear hr0
      go_wp2_with (first
        | (go_at_call 85; refine (CG.out _ S.out.fx.li).mono ?_; rintro e w5 ⟨rfl, hb⟩; have S := Lib.hid (S.out.below hb); clear hb))
      all_goals (go_ret; exact ⟨ret_bool (by rw [HL.out, HU.out, HV.out]; first | (simp [*]; done) | (simp only [*, Bool.and_true, Bool.and_false, Bool.true_and, Bool.false_and, Bool.and_self]; done)), S.out.fx.b⟩)
  · have HK := Lib.hid hk
    clear hk
    have CK1 : Hid (∀ W h, Calls Try.prog 68 #[.pointer (some ⟨p, 0, none⟩), .agg #[.int .i64 8, .int .i64 a, .int .i64 b, .int .i64 c, .slice la l.length lc, .slice va lv.length vc]] W fun x w' => x = .returned (.bool true) ∧ Below W.heap.size W w') := Lib.hid (fun W (h : WoAt W p fa sa ra fp.length sn rn fc sc rc en) => by
      have := CK.out W h
      rwa [HK.out] at this)
    go_wp2_with (first
      | (go_at_call 68; refine (CK1.out _ S.out.wo).mono ?_; rintro e w1 ⟨rfl, hb⟩; have S := Lib.hid (S.out.below hb); clear hb f0 f1 f2 x0 x1 x2 x3 x4 x5 p0 p1 p2 p4 hpr pg pcap; obtain ⟨f0, f1, f2, x0, x1, x2, x3, x4, x5⟩ := S.out.fx.cells; obtain ⟨p0, p1, p2, pg, pcap, p4, hpr⟩ := S.out.wo.pcells; dsimp only at x0 x1 x2 x3 x4 x5)
      | (go_at_call 85; refine (CV.out _ S.out.fx.vi).mono ?_; rintro e w1 ⟨rfl, hb⟩; have S := Lib.hid (S.out.below hb); clear hb f0 f1 f2 x0 x1 x2 x3 x4 x5 p0 p1 p2 p4 hpr pg pcap; obtain ⟨f0, f1, f2, x0, x1, x2, x3, x4, x5⟩ := S.out.fx.cells; obtain ⟨p0, p1, p2, pg, pcap, p4, hpr⟩ := S.out.wo.pcells; dsimp only at x0 x1 x2 x3 x4 x5))
    clear CK CK1 CV
    go_loopw [10, 11] (fun vo vi wr => ∃ j : Nat, vi = .int .i64 j ∧ 1 ≤ j ∧ (j ≤ lv.length ∨ (j = 1 ∧ lv.length = 0)) ∧ vo = .bool (regsB lv rs && (List.range j).all (okR lv)) ∧ FoAt w wr p w.heap.size (w.heap.size + 1) fa sa ra sn rn fc sc rc en fp ps rs ca cn cc ⟨8, a, b, c, l, lv⟩ la lc va vc) (fun _ vi _ => lv.length - (intOf vi).toNat)
    case atStart => exact ⟨1, rfl, by omega, by omega, congrArg Value.bool (by rw [show (List.range 1).all (okR lv) = true from rfl, Bool.and_true]), S.out⟩
    clear S f0 f1 f2 x0 x1 x2 x3 x4 x5 p0 p1 p2 p4 hpr pg pcap
    obtain ⟨j, rfl, hj1, hj2, rfl, hS⟩ := hrel
    have S := Lib.hid hS
    have HI := Lib.hid hS.fx.vi
    clear hS
    obtain ⟨f0, f1, f2, x0, x1, x2, x3, x4, x5⟩ := S.out.fx.cells; obtain ⟨p0, p1, p2, pg, pcap, p4, hpr⟩ := S.out.wo.pcells; dsimp only at x0 x1 x2 x3 x4 x5
    obtain ⟨ok, hok⟩ : ∃ ok, (regsB lv rs && (List.range j).all (okR lv)) = ok := ⟨_, rfl⟩
    rw [hok]
    have HO := Lib.hid hok
    clear hok
    by_cases hlt : j < lv.length
    · have HJ := Lib.hid hj2
      clear hj2 p0 p1 p2 p4 hpr pg pcap
      have hI := HI.out
      obtain ⟨bB, off, ha, c0⟩ := ints_cell hI hlt
      obtain ⟨b', off', ha', c1⟩ := ints_cell hI (show j - 1 < lv.length by omega)
      rw [ha] at ha'
      injection ha' with ha'
      injection ha' with q1 q2 _
      subst q1; subst q2; subst ha
      obtain ⟨v, hv⟩ : ∃ v, lv.getD j 0 = v := ⟨_, rfl⟩
      obtain ⟨u, hu⟩ : ∃ u, lv.getD (j - 1) 0 = u := ⟨_, rfl⟩
      rw [hv] at c0
      rw [hu] at c1
      have m1 : IntKind.i64.wrap ((j : Int) - 1) = (j : Int) - 1 := IntWalk.i64_in _ (by omega)
      have m2 : ((j : Int) - 1).toNat = j - 1 := by omega
      have m3 : decide ((j : Int) < (lv.length : Int)) = true := decide_eq_true (by omega)
      have m4 : decide (0 ≤ (j : Int) - 1) = true := decide_eq_true (by omega)
      have m5 : decide ((j : Int) - 1 < (lv.length : Int)) = true := decide_eq_true (by omega)
      have HN := Lib.hid (show okR lv j = decide (u < v) by unfold okR; rw [hv, hu, show (j == 0) = false by simp; omega]; rfl)
      clear hv hu hI
      go_wp2_with fail
      cases ok
      all_goals
        go_quiet (fail)
        go_wp2_with fail
        go_roundw
      all_goals first
        | exact ⟨j + 1, by go_num, by omega, by (have := HJ.out); omega, congrArg Value.bool (by rw [rising_next HO.out, HN.out]; first | rfl | simp), S.out.below (below_drewN (Below.refl _ _) _)⟩
        | (simp [intOf]; omega)
    have hlv : liveB 8 b lv rs = ok := by unfold liveB; rw [HK.out, ← HO.out, rising_at (by omega) hj2]; rfl
    have HL := Lib.hid hlv
    clear hlv HO HI
    have m3 : decide ((j : Int) < (lv.length : Int)) = false := decide_eq_false (by omega)
    go_upto_region 9 with fail
    go_wp2_with fail
    cases hb2 : insB b 61
    · have CB := Lib.hid (fun W => inside_eq hb2 W)
      go_quiet (first | (go_at_call 63; refine Calls.quiet_of_same (CB.out _)))
      go_wp2_with fail
      go_ret
      exact ⟨ret_bool (by rw [HL.out, HU.out, hb2]; simp), below_drewN S.out.fx.b _⟩
    have CB := Lib.hid (fun W => inside_eq hb2 W)
    obtain ⟨hb0, hb1⟩ := insB_true hb2
    obtain ⟨i, rfl⟩ := Int.eq_ofNat_of_zero_le hb0
    have hi : i < 61 := by omega
    have k1 : decide ((i : Int) < 61) = true := decide_eq_true hb1
    go_quiet (first | (go_at_call 63; refine Calls.quiet_of_same (CB.out _)))
    have S5 := S.out.below (below_drewN (Below.refl _ _) nq)
    generalize hW5 : World.drewN _ nq = W5 at S5 ⊢
    clear hW5 f0 f1 f2 x0 x1 x2 x3 x4 x5 p0 p1 p2 p4 hpr S
    have S := Lib.hid S5
    clear S5
    obtain ⟨f0, f1, f2, x0, x1, x2, x3, x4, x5⟩ := S.out.fx.cells; obtain ⟨p0, p1, p2, pg, pcap, p4, hpr⟩ := S.out.wo.pcells; dsimp only at x0 x1 x2 x3 x4 x5
    obtain ⟨e3, e2, rp, rcp, e4, ⟨s0, e0⟩, z0, e1⟩ := hpr.2 i hi
    obtain ⟨ar, har⟩ : ∃ ar, (prT i).2.1 = ar := ⟨_, rfl⟩
    obtain ⟨rr, hrr⟩ : ∃ rr, (prT i).2.2 = rr := ⟨_, rfl⟩
    obtain ⟨tt, htt⟩ : ∃ tt, (prT i).1 = tt := ⟨_, rfl⟩
    have hU := HU.out
    rw [Int.toNat_natCast, har, hrr, hb2] at hU
    rw [htt, Nat.mul_comm] at e3
    rw [har, Nat.mul_comm] at e2
    rw [hrr, Nat.mul_comm] at e4
    rw [Nat.add_zero, Nat.mul_comm] at e0
    rw [Nat.mul_comm] at e1
    have HU := Lib.hid hU
    clear hU har hrr htt
    have hl1 : w.heap.size + 1 < _ := World.block_lt_of_cell? _ _ x2
    have hl2 : p < _ := World.block_lt_of_cell? _ _ p4
    have hl3 := hpr.1
    go_wp2_with fail
    go_region
    obtain ⟨V, hV⟩ : ∃ V, (W5.alloc (.cells #[.string s0, .int .i64 z0, .int .i64 ar, .string ⟨tt.toArray⟩, .slice rp rr rcp] 136)).drew = V := ⟨_, rfl⟩
    have hb5 : Below W5.heap.size W5 V := by rw [← hV]; exact ((Below.refl _ _).alloc (Nat.le_refl _) _).drew
    have y2 : V.cell? ⟨W5.heap.size, 2, none⟩ = some (.int .i64 ar) := by rw [← hV]; simp
    have y4 : V.cell? ⟨W5.heap.size, 4, none⟩ = some (.slice rp rr rcp) := by rw [← hV]; simp
    rw [hV]
    clear hV
    have S6 := S.out.below hb5
    clear hb5 f0 f1 f2 x0 x1 x2 x3 x4 x5 p0 p1 p2 p4 hpr S e0 e1 e2 e3 e4 hl1 hl2 hl3
    have S := Lib.hid S6
    clear S6
    obtain ⟨f0, f1, f2, x0, x1, x2, x3, x4, x5⟩ := S.out.fx.cells; dsimp only at x0 x1 x2 x3 x4 x5
    by_cases hr0 : rr = 0
    · have hr0' : ((rr : Int) == 0) = true := by simp [hr0]
      have HV := Lib.hid (show (if rr = 0 then c == -1 else insB c cn) = (c == -1) from if_pos hr0)
      clear hr0
      go_wp2_with (first
        | (go_at_call 85; refine (CG.out _ S.out.fx.li).mono ?_; rintro e w5 ⟨rfl, hb⟩; have S := Lib.hid (S.out.below hb); clear hb))
      all_goals (go_ret; exact ⟨ret_bool (by rw [HL.out, HU.out, HV.out]; first | (simp [*]; done) | (simp only [*, Bool.and_true, Bool.and_false, Bool.true_and, Bool.false_and, Bool.and_self]; done)), S.out.fx.b⟩)
    · have hr0' : ((rr : Int) == 0) = false := by simpa using hr0
      have HV := Lib.hid (show (if rr = 0 then c == -1 else insB c cn) = insB c cn from if_neg hr0)
      clear hr0
      go_wp2_with (first
        | (go_at_call 85; refine (CG.out _ S.out.fx.li).mono ?_; rintro e w5 ⟨rfl, hb⟩; have S := Lib.hid (S.out.below hb); clear hb))
      all_goals (go_ret; exact ⟨ret_bool (by rw [HL.out, HU.out, HV.out]; first | (simp [*]; done) | (simp only [*, Bool.and_true, Bool.and_false, Bool.true_and, Bool.false_and, Bool.and_self]; done)), S.out.fx.b⟩)

theorem form_any (p : Nat) (fa sa ra : Option Addr) (sn rn fc sc rc : Nat) (en : Int) (fp : List Int) (ps rs : Int) (ca : Option Addr) (cn cc : Nat) (op a b c : Int) (l lv : List Int) (la : Option Addr) (lc : Nat) (va : Option Addr) (vc : Nat) (w : World) (hW : WoAt w p fa sa ra fp.length sn rn fc sc rc en) (hf : PsAt w fa fp) (hl : IntsAt .i64 w la l) (hv : IntsAt .i64 w va lv) (hcn : cn ≤ 1000000000) :
    Calls Try.prog 64 #[.pointer (some ⟨p, 0, none⟩), .agg #[.int .i64 ps, .int .i64 rs, .slice ca cn cc], .agg #[.int .i64 op, .int .i64 a, .int .i64 b, .int .i64 c, .slice la l.length lc, .slice va lv.length vc]] w fun e w' => e = .returned (.bool (liveB op b lv rs && formB sn rn fp cn rs op a b c l)) ∧ Below w.heap.size w w' := by
  rcases op_all op with (rfl | rfl | rfl | rfl | rfl | rfl | rfl | rfl | rfl | rfl | rfl | rfl | rfl) | ⟨h1, h2, h3, h4, h5, h6, h7, h8, h9, h10, h11, h12, h13⟩
  · exact form_1 p fa sa ra sn rn fc sc rc en fp ps rs ca cn cc a b c l lv la lc va vc w hW hf hl hv hcn
  · exact form_2 p fa sa ra sn rn fc sc rc en fp ps rs ca cn cc a b c l lv la lc va vc w hW hf hl hv hcn
  · exact form_3 p fa sa ra sn rn fc sc rc en fp ps rs ca cn cc a b c l lv la lc va vc w hW hf hl hv hcn
  · exact form_4 p fa sa ra sn rn fc sc rc en fp ps rs ca cn cc a b c l lv la lc va vc w hW hf hl hv hcn
  · exact form_5 p fa sa ra sn rn fc sc rc en fp ps rs ca cn cc a b c l lv la lc va vc w hW hf hl hv hcn
  · exact form_6 p fa sa ra sn rn fc sc rc en fp ps rs ca cn cc a b c l lv la lc va vc w hW hf hl hv hcn
  · exact form_7 p fa sa ra sn rn fc sc rc en fp ps rs ca cn cc a b c l lv la lc va vc w hW hf hl hv hcn
  · exact form_8 p fa sa ra sn rn fc sc rc en fp ps rs ca cn cc a b c l lv la lc va vc w hW hf hl hv hcn
  · exact form_9 p fa sa ra sn rn fc sc rc en fp ps rs ca cn cc a b c l lv la lc va vc w hW hf hl hv hcn
  · exact form_10 p fa sa ra sn rn fc sc rc en fp ps rs ca cn cc a b c l lv la lc va vc w hW hf hl hv hcn
  · exact form_11 p fa sa ra sn rn fc sc rc en fp ps rs ca cn cc a b c l lv la lc va vc w hW hf hl hv hcn
  · exact form_12 p fa sa ra sn rn fc sc rc en fp ps rs ca cn cc a b c l lv la lc va vc w hW hf hl hv hcn
  · exact form_13 p fa sa ra sn rn fc sc rc en fp ps rs ca cn cc a b c l lv la lc va vc w hW hf hl hv hcn
  · exact form_other op h1 h2 h3 h4 h5 h6 h7 h8 h9 h10 h11 h12 h13 p fa sa ra sn rn fc sc rc en fp ps rs ca cn cc a b c l lv la lc va vc w hW hf hl hv hcn
end Go.Proofs.Ytgbgahdeopedpaa
