/- Walks of layer 16: an instruction's form, the program's side: what goes elsewhere. -/
import Derived.Test.YtokjkligechcoaaGreatDoorCr
import Derived.Deep.Cut
set_option linter.unusedVariables false
namespace Go.Proofs.YtokjkligechcoaaGreatDoor
open _root_.Go.Lib (hid)
open Go.RowKit
open Fx
attribute [local go_sem] ext_mk size_mk toList_mk get_mk take_drop_len take_tail_len ByteArray.mk_append_mk List.append_toArray
section
/-- the program's world, the boxes of a function and of an instruction -/
structure FoAt (w W : World) (p F X : Nat) (fa sa ra : Option Addr) (sn rn fc sc rc : Nat) (en : Int) (fp : List Int) (ps rs : Int) (ca : Option Addr) (cn cc : Nat) (x : In) (la : Option Addr) (lc : Nat) (va : Option Addr) (vc : Nat) : Prop where
 wo : WoAt W p fa sa ra fp.length sn rn fc sc rc en
 fx : FxAt w W F X ps rs ca cn cc x la lc va vc
 fs : PsAt W fa fp
section
variable {w W V : World} {p F X : Nat} {fa sa ra : Option Addr} {sn rn fc sc rc : Nat} {en : Int} {fp : List Int} {ps rs : Int} {ca : Option Addr} {cn cc : Nat} {x : In} {la : Option Addr} {lc : Nat} {va : Option Addr} {vc : Nat}
theorem FoAt.below (h : FoAt w W p F X fa sa ra sn rn fc sc rc en fp ps rs ca cn cc x la lc va vc) (hb : Below W.heap.size W V) : FoAt w V p F X fa sa ra sn rn fc sc rc en fp ps rs ca cn cc x la lc va vc := ⟨h.wo.below hb, h.fx.below hb, h.fs.below hb⟩
theorem WoAt.pcells (h : WoAt W p fa sa ra fc sn rn sc rc cc en) : W.cell? ⟨p, 0, none⟩ = some (.slice fa fc sc) ∧ W.cell? ⟨p, 1, none⟩ = some (.slice sa sn rc) ∧ W.cell? ⟨p, 2, none⟩ = some (.slice ra rn cc) ∧ ∃ g cap, W.cell? ⟨p, 4, none⟩ = some (.slice (some ⟨g, 0, none⟩) 61 cap) ∧ PrAt W g := by
 obtain ⟨g, cap, k, c, h1, h2, h3, h4⟩ := h
 obtain ⟨⟨e0, e1, e2, e3, e4, e5⟩, _⟩ := h1.cells
 exact ⟨e0, e1, e2, g, cap, e4, h2⟩
theorem fo_start (hW : WoAt w p fa sa ra fp.length sn rn fc sc rc en) (hf : PsAt w fa fp) (hl : IntsAt .i64 w la x.l) (hv : IntsAt .i64 w va x.lv) (ps rs : Int) (ca : Option Addr) (cn cc lc vc : Nat) :
  FoAt w ((w.alloc (.cells #[.int .i64 ps, .int .i64 rs, .slice ca cn cc] 48)).alloc (.cells #[.int .i64 x.op, .int .i64 x.a, .int .i64 x.b, .int .i64 x.c, .slice la x.l.length lc, .slice va x.lv.length vc] 58)) p w.heap.size (w.heap.size + 1) fa sa ra sn rn fc sc rc en fp ps rs ca cn cc x la lc va vc := by
 have h := fx_start w ps rs ca cn cc x la lc va vc hl hv
 exact ⟨hW.below h.b, h, hf.below h.b⟩
end
set_option maxHeartbeats 4000000 in
set_option maxRecDepth 8000 in
theorem ending_9  (p : Nat) (fa sa ra : Option Addr) (sn rn fc sc rc : Nat) (en : Int) (fp : List Int) (ps rs : Int) (ca : Option Addr) (cn cc : Nat) (a b c : Int) (l lv : List Int) (la : Option Addr) (lc : Nat) (va : Option Addr) (vc : Nat) (w : World) (hW : WoAt w p fa sa ra fp.length sn rn fc sc rc en) (hf : PsAt w fa fp) (hl : IntsAt .i64 w la l) (hv : IntsAt .i64 w va lv) (hcn : cn ≤ 1000000000) :
  Calls Tryz.prog 139 #[.pointer (some ⟨p, 0, none⟩), .agg #[.int .i64 ps, .int .i64 rs, .slice ca cn cc], .agg #[.int .i64 9, .int .i64 a, .int .i64 b, .int .i64 c, .slice la l.length lc, .slice va lv.length vc]] w fun e w' => e = .returned (.bool (formB sn rn fp cn rs 9 a b c l)) ∧ Below w.heap.size w w' := by
 have S := hid (fo_start (x := ⟨9, a, b, c, l, lv⟩) hW hf hl hv ps rs ca cn cc lc vc)
 have CI := hid (fun n e W => inside_any n e W)
 clear hW hf hl hv
 go_enter Tryz.func139, Tryz.ntmps139
 go_wp2_with fail
 go_quiet (first | (go_at_call 72; refine Calls.quiet_of_same (CI.out _ _ _)))
 obtain ⟨W, hW⟩ : ∃ W, ((w.alloc (.cells #[.int .i64 ps, .int .i64 rs, .slice ca cn cc] 48)).alloc (.cells #[.int .i64 9, .int .i64 a, .int .i64 b, .int .i64 c, .slice la l.length lc, .slice va lv.length vc] 58)).drewN nq = W := ⟨_, rfl⟩
 have S1 := S.out.below (below_drewN (Below.refl _ _) nq)
 try dsimp only at S1
 rw [hW] at S1
 rw [hW]
 clear hW
 have S := hid S1
 clear S1
 obtain ⟨f0, f1, f2, x0, x1, x2, x3, x4, x5⟩ := S.out.fx.cells
 obtain ⟨p0, p1, p2, pg, pcap, p4, hpr⟩ := S.out.wo.pcells
 dsimp only at x0 x1 x2 x3 x4 x5
 have HU := hid (show formB sn rn fp cn rs 9 a b c l = ((a == 0) && (b == 0) && insB c cn && ((l.length : Int) == 0)) from rfl)
 go_wp2_with fail
 all_goals (go_ret; exact ⟨ret_bool (by rw [HU.out]; simp [*]), S.out.fx.b⟩)
set_option maxHeartbeats 4000000 in
set_option maxRecDepth 8000 in
theorem ending_10  (p : Nat) (fa sa ra : Option Addr) (sn rn fc sc rc : Nat) (en : Int) (fp : List Int) (ps rs : Int) (ca : Option Addr) (cn cc : Nat) (a b c : Int) (l lv : List Int) (la : Option Addr) (lc : Nat) (va : Option Addr) (vc : Nat) (w : World) (hW : WoAt w p fa sa ra fp.length sn rn fc sc rc en) (hf : PsAt w fa fp) (hl : IntsAt .i64 w la l) (hv : IntsAt .i64 w va lv) (hcn : cn ≤ 1000000000) :
  Calls Tryz.prog 139 #[.pointer (some ⟨p, 0, none⟩), .agg #[.int .i64 ps, .int .i64 rs, .slice ca cn cc], .agg #[.int .i64 10, .int .i64 a, .int .i64 b, .int .i64 c, .slice la l.length lc, .slice va lv.length vc]] w fun e w' => e = .returned (.bool (formB sn rn fp cn rs 10 a b c l)) ∧ Below w.heap.size w w' := by
 have S := hid (fo_start (x := ⟨10, a, b, c, l, lv⟩) hW hf hl hv ps rs ca cn cc lc vc)
 have CI := hid (fun n e W => inside_any n e W)
 clear hW hf hl hv
 go_enter Tryz.func139, Tryz.ntmps139
 go_wp2_with fail
 go_quiet (first | (go_at_call 72; refine Calls.quiet_of_same (CI.out _ _ _)))
 obtain ⟨W, hW⟩ : ∃ W, ((w.alloc (.cells #[.int .i64 ps, .int .i64 rs, .slice ca cn cc] 48)).alloc (.cells #[.int .i64 10, .int .i64 a, .int .i64 b, .int .i64 c, .slice la l.length lc, .slice va lv.length vc] 58)).drewN nq = W := ⟨_, rfl⟩
 have S1 := S.out.below (below_drewN (Below.refl _ _) nq)
 try dsimp only at S1
 rw [hW] at S1
 rw [hW]
 clear hW
 have S := hid S1
 clear S1
 obtain ⟨f0, f1, f2, x0, x1, x2, x3, x4, x5⟩ := S.out.fx.cells
 obtain ⟨p0, p1, p2, pg, pcap, p4, hpr⟩ := S.out.wo.pcells
 dsimp only at x0 x1 x2 x3 x4 x5
 have HU := hid (show formB sn rn fp cn rs 10 a b c l = ((a == 0) && insB b rs && insB c cn && casesB l cn) from rfl)
 have CC := hid (fun W h hc => cases_any la l lc ps rs ca cn cc W h hc)
 go_wp2_with (first
  | (go_at_call 181; refine (CC.out _ S.out.fx.li hcn).mono ?_; rintro e w1 ⟨rfl, hb⟩; have S := hid (S.out.below hb); clear hb f0 f1 f2 x0 x1 x2 x3 x4 x5 p0 p1 p2))
 all_goals (go_ret; exact ⟨ret_bool (by rw [HU.out]; simp [*]), S.out.fx.b⟩)
set_option maxHeartbeats 4000000 in
set_option maxRecDepth 8000 in
theorem ending_11  (p : Nat) (fa sa ra : Option Addr) (sn rn fc sc rc : Nat) (en : Int) (fp : List Int) (ps rs : Int) (ca : Option Addr) (cn cc : Nat) (a b c : Int) (l lv : List Int) (la : Option Addr) (lc : Nat) (va : Option Addr) (vc : Nat) (w : World) (hW : WoAt w p fa sa ra fp.length sn rn fc sc rc en) (hf : PsAt w fa fp) (hl : IntsAt .i64 w la l) (hv : IntsAt .i64 w va lv) (hcn : cn ≤ 1000000000) :
  Calls Tryz.prog 139 #[.pointer (some ⟨p, 0, none⟩), .agg #[.int .i64 ps, .int .i64 rs, .slice ca cn cc], .agg #[.int .i64 11, .int .i64 a, .int .i64 b, .int .i64 c, .slice la l.length lc, .slice va lv.length vc]] w fun e w' => e = .returned (.bool (formB sn rn fp cn rs 11 a b c l)) ∧ Below w.heap.size w w' := by
 have S := hid (fo_start (x := ⟨11, a, b, c, l, lv⟩) hW hf hl hv ps rs ca cn cc lc vc)
 have CI := hid (fun n e W => inside_any n e W)
 clear hW hf hl hv
 go_enter Tryz.func139, Tryz.ntmps139
 go_wp2_with fail
 go_quiet (first | (go_at_call 72; refine Calls.quiet_of_same (CI.out _ _ _)))
 obtain ⟨W, hW⟩ : ∃ W, ((w.alloc (.cells #[.int .i64 ps, .int .i64 rs, .slice ca cn cc] 48)).alloc (.cells #[.int .i64 11, .int .i64 a, .int .i64 b, .int .i64 c, .slice la l.length lc, .slice va lv.length vc] 58)).drewN nq = W := ⟨_, rfl⟩
 have S1 := S.out.below (below_drewN (Below.refl _ _) nq)
 try dsimp only at S1
 rw [hW] at S1
 rw [hW]
 clear hW
 have S := hid S1
 clear S1
 obtain ⟨f0, f1, f2, x0, x1, x2, x3, x4, x5⟩ := S.out.fx.cells
 obtain ⟨p0, p1, p2, pg, pcap, p4, hpr⟩ := S.out.wo.pcells
 dsimp only at x0 x1 x2 x3 x4 x5
 have HU := hid (show formB sn rn fp cn rs 11 a b c l = (insB a rs && (b == 0) && (c == 0) && regsB l rs) from rfl)
 have CG := hid (fun W h => regs_any la l lc ps rs ca cn cc W h)
 go_wp2_with (first
  | (go_at_call 137; refine (CG.out _ S.out.fx.li).mono ?_; rintro e w1 ⟨rfl, hb⟩; have S := hid (S.out.below hb); clear hb f0 f1 f2 x0 x1 x2 x3 x4 x5 p0 p1 p2))
 all_goals (go_ret; exact ⟨ret_bool (by rw [HU.out]; simp [*]), S.out.fx.b⟩)
set_option maxHeartbeats 4000000 in
set_option maxRecDepth 8000 in
theorem ending_13  (p : Nat) (fa sa ra : Option Addr) (sn rn fc sc rc : Nat) (en : Int) (fp : List Int) (ps rs : Int) (ca : Option Addr) (cn cc : Nat) (a b c : Int) (l lv : List Int) (la : Option Addr) (lc : Nat) (va : Option Addr) (vc : Nat) (w : World) (hW : WoAt w p fa sa ra fp.length sn rn fc sc rc en) (hf : PsAt w fa fp) (hl : IntsAt .i64 w la l) (hv : IntsAt .i64 w va lv) (hcn : cn ≤ 1000000000) :
  Calls Tryz.prog 139 #[.pointer (some ⟨p, 0, none⟩), .agg #[.int .i64 ps, .int .i64 rs, .slice ca cn cc], .agg #[.int .i64 13, .int .i64 a, .int .i64 b, .int .i64 c, .slice la l.length lc, .slice va lv.length vc]] w fun e w' => e = .returned (.bool (formB sn rn fp cn rs 13 a b c l)) ∧ Below w.heap.size w w' := by
 have S := hid (fo_start (x := ⟨13, a, b, c, l, lv⟩) hW hf hl hv ps rs ca cn cc lc vc)
 have CI := hid (fun n e W => inside_any n e W)
 clear hW hf hl hv
 go_enter Tryz.func139, Tryz.ntmps139
 go_wp2_with fail
 go_quiet (first | (go_at_call 72; refine Calls.quiet_of_same (CI.out _ _ _)))
 obtain ⟨W, hW⟩ : ∃ W, ((w.alloc (.cells #[.int .i64 ps, .int .i64 rs, .slice ca cn cc] 48)).alloc (.cells #[.int .i64 13, .int .i64 a, .int .i64 b, .int .i64 c, .slice la l.length lc, .slice va lv.length vc] 58)).drewN nq = W := ⟨_, rfl⟩
 have S1 := S.out.below (below_drewN (Below.refl _ _) nq)
 try dsimp only at S1
 rw [hW] at S1
 rw [hW]
 clear hW
 have S := hid S1
 clear S1
 obtain ⟨f0, f1, f2, x0, x1, x2, x3, x4, x5⟩ := S.out.fx.cells
 obtain ⟨p0, p1, p2, pg, pcap, p4, hpr⟩ := S.out.wo.pcells
 dsimp only at x0 x1 x2 x3 x4 x5
 have HU := hid (show formB sn rn fp cn rs 13 a b c l = (insB a rs && ((b == 0) || (b == 1)) && (c == 0) && ((l.length : Int) == 0)) from rfl)
 go_wp2_with fail
 all_goals (go_ret; exact ⟨ret_bool (by rw [HU.out]; simp [*]), S.out.fx.b⟩)
set_option maxHeartbeats 4000000 in
set_option maxRecDepth 8000 in
theorem ending_other (op : Int) (h9 : (op == 9) = false) (h10 : (op == 10) = false) (h11 : (op == 11) = false) (h12 : (op == 12) = false) (h13 : (op == 13) = false) (p : Nat) (fa sa ra : Option Addr) (sn rn fc sc rc : Nat) (en : Int) (fp : List Int) (ps rs : Int) (ca : Option Addr) (cn cc : Nat) (a b c : Int) (l lv : List Int) (la : Option Addr) (lc : Nat) (va : Option Addr) (vc : Nat) (w : World) (hW : WoAt w p fa sa ra fp.length sn rn fc sc rc en) (hf : PsAt w fa fp) (hl : IntsAt .i64 w la l) (hv : IntsAt .i64 w va lv) (hcn : cn ≤ 1000000000) :
  Calls Tryz.prog 139 #[.pointer (some ⟨p, 0, none⟩), .agg #[.int .i64 ps, .int .i64 rs, .slice ca cn cc], .agg #[.int .i64 op, .int .i64 a, .int .i64 b, .int .i64 c, .slice la l.length lc, .slice va lv.length vc]] w fun e w' => e = .returned (.bool false) ∧ Below w.heap.size w w' := by
 have S := hid (fo_start (x := ⟨op, a, b, c, l, lv⟩) hW hf hl hv ps rs ca cn cc lc vc)
 have CI := hid (fun n e W => inside_any n e W)
 clear hW hf hl hv
 go_enter Tryz.func139, Tryz.ntmps139
 go_wp2_with fail
 go_quiet (first | (go_at_call 72; refine Calls.quiet_of_same (CI.out _ _ _)))
 obtain ⟨W, hW⟩ : ∃ W, ((w.alloc (.cells #[.int .i64 ps, .int .i64 rs, .slice ca cn cc] 48)).alloc (.cells #[.int .i64 op, .int .i64 a, .int .i64 b, .int .i64 c, .slice la l.length lc, .slice va lv.length vc] 58)).drewN nq = W := ⟨_, rfl⟩
 have S1 := S.out.below (below_drewN (Below.refl _ _) nq)
 try dsimp only at S1
 rw [hW] at S1
 rw [hW]
 clear hW
 have S := hid S1
 clear S1
 obtain ⟨f0, f1, f2, x0, x1, x2, x3, x4, x5⟩ := S.out.fx.cells
 obtain ⟨p0, p1, p2, pg, pcap, p4, hpr⟩ := S.out.wo.pcells
 dsimp only at x0 x1 x2 x3 x4 x5
 go_wp2_with fail
 go_ret
 exact ⟨rfl, S.out.fx.b⟩
end
set_option maxHeartbeats 4000000 in
set_option maxRecDepth 8000 in
theorem ending_12  (p : Nat) (fa sa ra : Option Addr) (sn rn fc sc rc : Nat) (en : Int) (fp : List Int) (ps rs : Int) (ca : Option Addr) (cn cc : Nat) (a b c : Int) (l lv : List Int) (la : Option Addr) (lc : Nat) (va : Option Addr) (vc : Nat) (w : World) (hW : WoAt w p fa sa ra fp.length sn rn fc sc rc en) (hf : PsAt w fa fp) (hl : IntsAt .i64 w la l) (hv : IntsAt .i64 w va lv) (hcn : cn ≤ 1000000000) :
  Calls Tryz.prog 139 #[.pointer (some ⟨p, 0, none⟩), .agg #[.int .i64 ps, .int .i64 rs, .slice ca cn cc], .agg #[.int .i64 12, .int .i64 a, .int .i64 b, .int .i64 c, .slice la l.length lc, .slice va lv.length vc]] w fun e w' => e = .returned (.bool (formB sn rn fp cn rs 12 a b c l)) ∧ Below w.heap.size w w' := by
 have S := hid (fo_start (x := ⟨12, a, b, c, l, lv⟩) hW hf hl hv ps rs ca cn cc lc vc)
 have CI := hid (fun n e W => inside_any n e W)
 clear hW hf hl hv
 go_enter Tryz.func139, Tryz.ntmps139
 go_wp2_with fail
 go_quiet (first | (go_at_call 72; refine Calls.quiet_of_same (CI.out _ _ _)))
 obtain ⟨W, hW⟩ : ∃ W, ((w.alloc (.cells #[.int .i64 ps, .int .i64 rs, .slice ca cn cc] 48)).alloc (.cells #[.int .i64 12, .int .i64 a, .int .i64 b, .int .i64 c, .slice la l.length lc, .slice va lv.length vc] 58)).drewN nq = W := ⟨_, rfl⟩
 have S1 := S.out.below (below_drewN (Below.refl _ _) nq)
 try dsimp only at S1
 rw [hW] at S1
 rw [hW]
 clear hW
 have S := hid S1
 clear S1
 obtain ⟨f0, f1, f2, x0, x1, x2, x3, x4, x5⟩ := S.out.fx.cells
 obtain ⟨p0, p1, p2, pg, pcap, p4, hpr⟩ := S.out.wo.pcells
 dsimp only at x0 x1 x2 x3 x4 x5
 have HU := hid (show formB sn rn fp cn rs 12 a b c l = ((a == 0) && (c == 0) && insB b fp.length && regsB l rs && ((l.length : Int) == fp.getD b.toNat 0)) from rfl)
 have CG := hid (fun W h => regs_any la l lc ps rs ca cn cc W h)
 clear p4 hpr
 by_cases ha : a = 0
 rotate_left
 ·have ha' : (a == 0) = false := by simpa using ha
  have CB := hid (fun W => inside_any 0 0 W)
  go_wp2_with fail
  go_quiet (first | (go_at_call 72; refine Calls.quiet_of_same (CB.out _)))
  go_wp2_with fail
  go_ret
  exact ⟨ret_bool (by rw [HU.out]; simp [*]), below_drewN S.out.fx.b _⟩
 by_cases hc : c = 0
 rotate_left
 ·have hc' : (c == 0) = false := by simpa using hc
  have CB := hid (fun W => inside_any 0 0 W)
  go_wp2_with fail
  go_quiet (first | (go_at_call 72; refine Calls.quiet_of_same (CB.out _)))
  go_wp2_with fail
  go_ret
  exact ⟨ret_bool (by rw [HU.out]; simp [*]), below_drewN S.out.fx.b _⟩
 subst ha
 subst hc
 cases hb : insB b fp.length
 ·have CB := hid (fun W => inside_eq hb W)
  go_wp2_with fail
  go_quiet (first | (go_at_call 72; refine Calls.quiet_of_same (CB.out _)))
  go_wp2_with fail
  go_ret
  exact ⟨ret_bool (by rw [HU.out]; simp [*]), below_drewN S.out.fx.b _⟩
 have CB := hid (fun W => inside_eq hb W)
 obtain ⟨hb0, hb1⟩ := insB_true hb
 obtain ⟨i, rfl⟩ := Int.eq_ofNat_of_zero_le hb0
 have hi : i < fp.length := by omega
 obtain ⟨fB, fO, rfl, fC⟩ := ps_cell S.out.fs hi
 obtain ⟨v, hv⟩ : ∃ v, fp.getD i 0 = v := ⟨_, rfl⟩
 rw [hv, Nat.mul_comm] at fC
 have k1 : decide ((i : Int) < (fp.length : Int)) = true := decide_eq_true hb1
 obtain ⟨SS, hSS⟩ : ∃ SS : World → Prop, SS = fun V => FoAt w V p w.heap.size (w.heap.size + 1) (some ⟨fB, fO, none⟩) sa ra sn rn fc sc rc en fp ps rs ca cn cc ⟨12, 0, i, 0, l, lv⟩ la lc va vc ∧ V.cell? ⟨fB, fO + i * 3, none⟩ = some (.int .i64 v) := ⟨_, rfl⟩
 have SK : Hid (∀ A B, SS A → Below A.heap.size A B → B.cell? ⟨p, 0, none⟩ = some (.slice (some ⟨fB, fO, none⟩) fp.length fc) ∧ B.cell? ⟨w.heap.size, 0, none⟩ = some (.int .i64 ps) ∧ B.cell? ⟨w.heap.size, 1, none⟩ = some (.int .i64 rs) ∧ B.cell? ⟨w.heap.size, 2, none⟩ = some (.slice ca cn cc) ∧ B.cell? ⟨w.heap.size + 1, 1, none⟩ = some (.int .i64 0) ∧ B.cell? ⟨w.heap.size + 1, 2, none⟩ = some (.int .i64 i) ∧ B.cell? ⟨w.heap.size + 1, 3, none⟩ = some (.int .i64 0) ∧ B.cell? ⟨w.heap.size + 1, 4, none⟩ = some (.slice la l.length lc) ∧ B.cell? ⟨fB, fO + i * 3, none⟩ = some (.int .i64 v) ∧ SS B) := hid (by
  rw [hSS]
  rintro A B ⟨h, hc⟩ hb
  have h2 := h.below hb
  obtain ⟨f0, f1, f2, x0, x1, x2, x3, x4, x5⟩ := h2.fx.cells
  have hc2 := (hb.cell (p := ⟨fB, fO + i * 3, none⟩) (World.block_lt_of_cell? A _ hc)).trans hc
  exact ⟨h2.wo.pcells.1, f0, f1, f2, x1, x2, x3, x4, hc2, h2, hc2⟩)
 have hS0 : SS W.drew := by rw [hSS]; exact ⟨S.out.below (Below.refl _ _).drew, by simpa using fC⟩
 have HB : Hid (∀ V, SS V → Below w.heap.size w V) := hid (by rw [hSS]; rintro V ⟨h, _⟩; exact h.fx.b)
 have HV := hid hv
 cases hr : regsB l rs
 ·have CG2 : Hid (∀ V, SS V → Calls Tryz.prog 137 #[.slice la l.length lc, .agg #[.int .i64 ps, .int .i64 rs, .slice ca cn cc]] V fun x w' => x = .returned (.bool false) ∧ Below V.heap.size V w') := hid (by
   rw [hSS]; rintro V ⟨h, _⟩; have := CG.out V h.fx.li; rw [hr] at this; exact this)
  clear hSS hv CG S
  go_wp2_with fail
  refine wp_region_held_drew (S := (fun w' => w'.cell? ⟨p, 0, none⟩ = some (.slice (some ⟨fB, fO, none⟩) fp.length fc) ∧ w'.cell? ⟨w.heap.size, 0, none⟩ = some (.int .i64 ps) ∧ w'.cell? ⟨w.heap.size, 1, none⟩ = some (.int .i64 rs) ∧ w'.cell? ⟨w.heap.size, 2, none⟩ = some (.slice ca cn cc) ∧ w'.cell? ⟨w.heap.size + 1, 1, none⟩ = some (.int .i64 0) ∧ w'.cell? ⟨w.heap.size + 1, 2, none⟩ = some (.int .i64 i) ∧ w'.cell? ⟨w.heap.size + 1, 3, none⟩ = some (.int .i64 0) ∧ w'.cell? ⟨w.heap.size + 1, 4, none⟩ = some (.slice la l.length lc) ∧ w'.cell? ⟨fB, fO + i * 3, none⟩ = some (.int .i64 v) ∧ SS w')) (by kernel_rfl) (by first | (refine ⟨?_, ?_, ?_, ?_, ?_, ?_, ?_, ?_, ?_, hS0⟩ <;> (go_keep; done))) (fun hHeld => ?_)
  refine wpAnyH_take (i := 0) (v := ?_) (by simp only [List.getElem?_toArray]; rfl) (by kernel_rfl) (by kernel_rfl) (by kernel_rfl) (by exact fun _ _ _ h => h) (Or.inl ⟨by rfl, ?_⟩) (by assumption) ?_
  rotate_left
  ·intro w hSw
   (try dsimp only at hSw)
   go_simp
   all_goals with_reducible rfl
  try simp only [Act.put, List.setIfInBounds_toArray, List.set_cons_zero, List.set_cons_succ]
  refine wpAnyH_take (i := 1) (v := ?_) (by simp only [List.getElem?_toArray]; rfl) (by kernel_rfl) (by kernel_rfl) (by kernel_rfl) (by exact fun _ _ _ h => h) (Or.inl ⟨by rfl, ?_⟩) (by assumption) ?_
  rotate_left
  ·intro w hSw
   (try dsimp only at hSw)
   go_simp
   all_goals with_reducible rfl
  try simp only [Act.put, List.setIfInBounds_toArray, List.set_cons_zero, List.set_cons_succ]
  refine wpAnyH_take (i := 2) (v := ?_) (by simp only [List.getElem?_toArray]; rfl) (by kernel_rfl) (by kernel_rfl) (by kernel_rfl) (by exact fun _ _ _ h => h) (Or.inl ⟨by rfl, ?_⟩) (by assumption) ?_
  rotate_left
  ·intro w hSw
   (try dsimp only at hSw)
   go_simp
   all_goals with_reducible rfl
  try simp only [Act.put, List.setIfInBounds_toArray, List.set_cons_zero, List.set_cons_succ]
  refine wpAnyH_take (i := 3) (v := ?_) (by simp only [List.getElem?_toArray]; rfl) (by kernel_rfl) (by kernel_rfl) (by kernel_rfl) (by exact fun _ _ _ h => h) (Or.inl ⟨by rfl, ?_⟩) (by assumption) ?_
  rotate_left
  ·intro w hSw
   (try dsimp only at hSw)
   go_simp
   all_goals with_reducible rfl
  try simp only [Act.put, List.setIfInBounds_toArray, List.set_cons_zero, List.set_cons_succ]
  refine wpAnyH_take (i := 4) (v := ?_) (by simp only [List.getElem?_toArray]; rfl) (by kernel_rfl) (by kernel_rfl) (by kernel_rfl) (by exact fun _ _ _ h => h) (Or.inl ⟨by rfl, ?_⟩) (by assumption) ?_
  rotate_left
  ·intro w hSw
   (try dsimp only at hSw)
   go_simp
   all_goals with_reducible rfl
  try simp only [Act.put, List.setIfInBounds_toArray, List.set_cons_zero, List.set_cons_succ]
  refine wpAnyH_take (i := 5) (v := ?_) (by simp only [List.getElem?_toArray]; rfl) (by kernel_rfl) (by kernel_rfl) (by kernel_rfl) (by exact fun _ _ _ h => h) (Or.inl ⟨by rfl, ?_⟩) (by assumption) ?_
  rotate_left
  ·intro w hSw
   (try dsimp only at hSw)
   go_simp
   all_goals with_reducible rfl
  try simp only [Act.put, List.setIfInBounds_toArray, List.set_cons_zero, List.set_cons_succ]
  refine wpAnyH_take (i := 6) (v := ?_) (by simp only [List.getElem?_toArray]; rfl) (by kernel_rfl) (by kernel_rfl) (by kernel_rfl) (by exact fun _ _ _ h => h) (Or.inl ⟨by rfl, ?_⟩) (by assumption) ?_
  rotate_left
  ·intro w hSw
   (try dsimp only at hSw)
   go_simp
   all_goals with_reducible rfl
  try simp only [Act.put, List.setIfInBounds_toArray, List.set_cons_zero, List.set_cons_succ]
  refine wpAnyH_take (i := 7) (v := ?_) (by simp only [List.getElem?_toArray]; rfl) (by kernel_rfl) (by kernel_rfl) (by kernel_rfl) (by exact fun _ _ _ h => h) (Or.inl ⟨by rfl, ?_⟩) (by assumption) ?_
  rotate_left
  ·intro w hSw
   (try dsimp only at hSw)
   go_simp
   all_goals with_reducible rfl
  try simp only [Act.put, List.setIfInBounds_toArray, List.set_cons_zero, List.set_cons_succ]
  refine wpAnyH_take (i := 8) (v := ?_) (by simp only [List.getElem?_toArray]; rfl) (by kernel_rfl) (by kernel_rfl) (by kernel_rfl) (by exact fun _ _ _ h => h) (Or.inl ⟨by rfl, ?_⟩) (by assumption) ?_
  rotate_left
  ·intro w hSw
   (try dsimp only at hSw)
   go_simp
   all_goals with_reducible rfl
  try simp only [Act.put, List.setIfInBounds_toArray, List.set_cons_zero, List.set_cons_succ]
  refine wpAnyH_take (i := 9) (v := ?_) (by simp only [List.getElem?_toArray]; rfl) (by kernel_rfl) (by kernel_rfl) (by kernel_rfl) (by exact fun _ _ _ h => h) (Or.inl ⟨by rfl, ?_⟩) (by assumption) ?_
  rotate_left
  ·intro w hSw
   (try dsimp only at hSw)
   go_simp
   all_goals with_reducible rfl
  try simp only [Act.put, List.setIfInBounds_toArray, List.set_cons_zero, List.set_cons_succ]
  refine wpAnyH_take (i := 10) (v := ?_) (by simp only [List.getElem?_toArray]; rfl) (by kernel_rfl) (by kernel_rfl) (by kernel_rfl) (by exact fun _ _ _ h => h) (Or.inl ⟨by rfl, ?_⟩) (by assumption) ?_
  rotate_left
  ·intro w hSw
   (try dsimp only at hSw)
   go_simp
   all_goals with_reducible rfl
  try simp only [Act.put, List.setIfInBounds_toArray, List.set_cons_zero, List.set_cons_succ]
  refine wpAnyH_take (i := 11) (v := ?_) (by simp only [List.getElem?_toArray]; rfl) (by kernel_rfl) (by kernel_rfl) (by kernel_rfl) (by exact fun _ _ _ h => h) (Or.inl ⟨by rfl, ?_⟩) (by assumption) ?_
  rotate_left
  ·intro w hSw
   (try dsimp only at hSw)
   go_simp
   all_goals with_reducible rfl
  try simp only [Act.put, List.setIfInBounds_toArray, List.set_cons_zero, List.set_cons_succ]
  refine wpAnyH_take (i := 12) (v := ?_) (by simp only [List.getElem?_toArray]; rfl) (by kernel_rfl) (by kernel_rfl) (by kernel_rfl) (by exact fun _ _ _ h => h) (Or.inl ⟨by rfl, ?_⟩) (by assumption) ?_
  rotate_left
  ·intro w hSw
   (try dsimp only at hSw)
   go_simp
   all_goals with_reducible rfl
  try simp only [Act.put, List.setIfInBounds_toArray, List.set_cons_zero, List.set_cons_succ]
  refine wpAnyH_take (i := 13) (v := ?_) (by simp only [List.getElem?_toArray]; rfl) (by kernel_rfl) (by kernel_rfl) (by kernel_rfl) (by exact fun _ _ _ h => h) (Or.inl ⟨by rfl, ?_⟩) (by assumption) ?_
  rotate_left
  ·intro w hSw
   (try dsimp only at hSw)
   go_simp
   all_goals with_reducible rfl
  try simp only [Act.put, List.setIfInBounds_toArray, List.set_cons_zero, List.set_cons_succ]
  refine wpAnyH_take (i := 14) (v := ?_) (by simp only [List.getElem?_toArray]; rfl) (by kernel_rfl) (by kernel_rfl) (by kernel_rfl) (by exact fun _ _ _ h => h) (Or.inl ⟨by rfl, ?_⟩) (by assumption) ?_
  rotate_left
  ·intro w hSw
   (try dsimp only at hSw)
   go_simp
   all_goals with_reducible rfl
  try simp only [Act.put, List.setIfInBounds_toArray, List.set_cons_zero, List.set_cons_succ]
  refine wpAnyH_take (i := 15) (v := ?_) (by simp only [List.getElem?_toArray]; rfl) (by kernel_rfl) (by kernel_rfl) (by kernel_rfl) (by exact fun _ _ _ h => h) (Or.inl ⟨by rfl, ?_⟩) (by assumption) ?_
  rotate_left
  ·intro w hSw
   (try dsimp only at hSw)
   go_simp
   all_goals with_reducible rfl
  try simp only [Act.put, List.setIfInBounds_toArray, List.set_cons_zero, List.set_cons_succ]
  refine wpAnyH_take (i := 16) (v := ?_) (by simp only [List.getElem?_toArray]; rfl) (by kernel_rfl) (by kernel_rfl) (by kernel_rfl) (by exact fun _ _ _ h => h) (Or.inl ⟨by rfl, ?_⟩) (by assumption) ?_
  rotate_left
  ·intro w hSw
   (try dsimp only at hSw)
   go_simp
   all_goals with_reducible rfl
  try simp only [Act.put, List.setIfInBounds_toArray, List.set_cons_zero, List.set_cons_succ]
  refine wpAnyH_ready (rs := [17]) (by kernel_rfl) (by simp) ?_
  refine AllReadyH.cons (by simp only [List.getElem?_toArray]; rfl) (fun K hK => ?_) AllReadyH.nil
  rw [if_pos (by rfl)]
  go_simp
  go_at_call 72; (with_reducible refine (CB.out _).mono ?_); rintro e w1 ⟨rfl, rfl⟩
  refine hK.out _ _ (by assumption) (fun hHeld => ?_)
  try simp only [Act.put, List.setIfInBounds_toArray, List.set_cons_zero, List.set_cons_succ]
  refine wpAnyH_take (i := 18) (v := ?_) (by simp only [List.getElem?_toArray]; rfl) (by kernel_rfl) (by kernel_rfl) (by kernel_rfl) (by exact fun _ _ _ h => h) (Or.inl ⟨by rfl, ?_⟩) (by assumption) ?_
  rotate_left
  ·intro w hSw
   (try dsimp only at hSw)
   go_simp
   all_goals with_reducible rfl
  try simp only [Act.put, List.setIfInBounds_toArray, List.set_cons_zero, List.set_cons_succ]
  refine wpAnyH_take (i := 19) (v := ?_) (by simp only [List.getElem?_toArray]; rfl) (by kernel_rfl) (by kernel_rfl) (by kernel_rfl) (by exact fun _ _ _ h => h) (Or.inl ⟨by rfl, ?_⟩) (by assumption) ?_
  rotate_left
  ·intro w hSw
   (try dsimp only at hSw)
   go_simp
   all_goals with_reducible rfl
  try simp only [Act.put, List.setIfInBounds_toArray, List.set_cons_zero, List.set_cons_succ]
  refine wpAnyH_take (i := 20) (v := ?_) (by simp only [List.getElem?_toArray]; rfl) (by kernel_rfl) (by kernel_rfl) (by kernel_rfl) (by exact fun _ _ _ h => h) (Or.inl ⟨by rfl, ?_⟩) (by assumption) ?_
  rotate_left
  ·intro w hSw
   (try dsimp only at hSw)
   go_simp
   all_goals with_reducible rfl
  try simp only [Act.put, List.setIfInBounds_toArray, List.set_cons_zero, List.set_cons_succ]
  refine wpAnyH_take (i := 21) (v := ?_) (by simp only [List.getElem?_toArray]; rfl) (by kernel_rfl) (by kernel_rfl) (by kernel_rfl) (by exact fun _ _ _ h => h) (Or.inl ⟨by rfl, ?_⟩) (by assumption) ?_
  rotate_left
  ·intro w hSw
   (try dsimp only at hSw)
   go_simp
   all_goals with_reducible rfl
  try simp only [Act.put, List.setIfInBounds_toArray, List.set_cons_zero, List.set_cons_succ]
  refine wpAnyH_take (i := 22) (v := ?_) (by simp only [List.getElem?_toArray]; rfl) (by kernel_rfl) (by kernel_rfl) (by kernel_rfl) (by exact fun _ _ _ h => h) (Or.inl ⟨by rfl, ?_⟩) (by assumption) ?_
  rotate_left
  ·intro w hSw
   (try dsimp only at hSw)
   go_simp
   all_goals with_reducible rfl
  try simp only [Act.put, List.setIfInBounds_toArray, List.set_cons_zero, List.set_cons_succ]
  refine wpAnyH_ready (rs := [23]) (by kernel_rfl) (by simp) ?_
  refine AllReadyH.cons (by simp only [List.getElem?_toArray]; rfl) (fun K hK => ?_) AllReadyH.nil
  rw [if_pos (by rfl)]
  go_simp
  go_at_call 137; (with_reducible refine (CG2.out _ ?_).mono ?_)
  ·go_split_ands; assumption
  rintro e w1 ⟨rfl, hbx⟩
  refine hK.out _ _ (by go_split_ands; exact SK.out _ _ (by assumption) hbx) (fun hHeld2 => ?_)
  try simp only [Act.put, List.setIfInBounds_toArray, List.set_cons_zero, List.set_cons_succ]
  refine wpAnyH_take (i := 24) (v := ?_) (by simp only [List.getElem?_toArray]; rfl) (by kernel_rfl) (by kernel_rfl) (by kernel_rfl) (by exact fun _ _ _ h => h) (Or.inl ⟨by rfl, ?_⟩) (by assumption) ?_
  rotate_left
  ·intro w hSw
   (try dsimp only at hSw)
   go_simp
   all_goals with_reducible rfl
  try simp only [Act.put, List.setIfInBounds_toArray, List.set_cons_zero, List.set_cons_succ]
  refine wpAnyH_take (i := 25) (v := ?_) (by simp only [List.getElem?_toArray]; rfl) (by kernel_rfl) (by kernel_rfl) (by kernel_rfl) (by exact fun _ _ _ h => h) (Or.inl ⟨by rfl, ?_⟩) (by assumption) ?_
  rotate_left
  ·intro w hSw
   (try dsimp only at hSw)
   go_simp
   all_goals with_reducible rfl
  try simp only [Act.put, List.setIfInBounds_toArray, List.set_cons_zero, List.set_cons_succ]
  refine wpAnyH_take (i := 26) (v := undef) (by simp only [List.getElem?_toArray]; rfl) (by kernel_rfl) (by kernel_rfl) (by kernel_rfl) (by exact fun _ _ _ h => h) (Or.inr ⟨by rfl, rfl⟩) (by assumption) ?_
  try simp only [Act.put, List.setIfInBounds_toArray, List.set_cons_zero, List.set_cons_succ]
  refine wpAnyH_take (i := 27) (v := undef) (by simp only [List.getElem?_toArray]; rfl) (by kernel_rfl) (by kernel_rfl) (by kernel_rfl) (by exact fun _ _ _ h => h) (Or.inr ⟨by rfl, rfl⟩) (by assumption) ?_
  try simp only [Act.put, List.setIfInBounds_toArray, List.set_cons_zero, List.set_cons_succ]
  refine wpAnyH_take (i := 28) (v := undef) (by simp only [List.getElem?_toArray]; rfl) (by kernel_rfl) (by kernel_rfl) (by kernel_rfl) (by exact fun _ _ _ h => h) (Or.inr ⟨by rfl, rfl⟩) (by assumption) ?_
  try simp only [Act.put, List.setIfInBounds_toArray, List.set_cons_zero, List.set_cons_succ]
  refine wpAnyH_take (i := 29) (v := undef) (by simp only [List.getElem?_toArray]; rfl) (by kernel_rfl) (by kernel_rfl) (by kernel_rfl) (by exact fun _ _ _ h => h) (Or.inr ⟨by rfl, rfl⟩) (by assumption) ?_
  try simp only [Act.put, List.setIfInBounds_toArray, List.set_cons_zero, List.set_cons_succ]
  refine wpAnyH_take (i := 30) (v := undef) (by simp only [List.getElem?_toArray]; rfl) (by kernel_rfl) (by kernel_rfl) (by kernel_rfl) (by exact fun _ _ _ h => h) (Or.inr ⟨by rfl, rfl⟩) (by assumption) ?_
  try simp only [Act.put, List.setIfInBounds_toArray, List.set_cons_zero, List.set_cons_succ]
  refine wpAnyH_take (i := 31) (v := undef) (by simp only [List.getElem?_toArray]; rfl) (by kernel_rfl) (by kernel_rfl) (by kernel_rfl) (by exact fun _ _ _ h => h) (Or.inr ⟨by rfl, rfl⟩) (by assumption) ?_
  try simp only [Act.put, List.setIfInBounds_toArray, List.set_cons_zero, List.set_cons_succ]
  refine wpAnyH_take (i := 32) (v := undef) (by simp only [List.getElem?_toArray]; rfl) (by kernel_rfl) (by kernel_rfl) (by kernel_rfl) (by exact fun _ _ _ h => h) (Or.inr ⟨by rfl, rfl⟩) (by assumption) ?_
  try simp only [Act.put, List.setIfInBounds_toArray, List.set_cons_zero, List.set_cons_succ]
  refine wpAnyH_take (i := 33) (v := undef) (by simp only [List.getElem?_toArray]; rfl) (by kernel_rfl) (by kernel_rfl) (by kernel_rfl) (by exact fun _ _ _ h => h) (Or.inr ⟨by rfl, rfl⟩) (by assumption) ?_
  try simp only [Act.put, List.setIfInBounds_toArray, List.set_cons_zero, List.set_cons_succ]
  refine wpAnyH_take (i := 34) (v := undef) (by simp only [List.getElem?_toArray]; rfl) (by kernel_rfl) (by kernel_rfl) (by kernel_rfl) (by exact fun _ _ _ h => h) (Or.inr ⟨by rfl, rfl⟩) (by assumption) ?_
  try simp only [Act.put, List.setIfInBounds_toArray, List.set_cons_zero, List.set_cons_succ]
  refine wpAnyH_take (i := 35) (v := undef) (by simp only [List.getElem?_toArray]; rfl) (by kernel_rfl) (by kernel_rfl) (by kernel_rfl) (by exact fun _ _ _ h => h) (Or.inr ⟨by rfl, rfl⟩) (by assumption) ?_
  try simp only [Act.put, List.setIfInBounds_toArray, List.set_cons_zero, List.set_cons_succ]
  refine wpAnyH_take (i := 36) (v := undef) (by simp only [List.getElem?_toArray]; rfl) (by kernel_rfl) (by kernel_rfl) (by kernel_rfl) (by exact fun _ _ _ h => h) (Or.inr ⟨by rfl, rfl⟩) (by assumption) ?_
  try simp only [Act.put, List.setIfInBounds_toArray, List.set_cons_zero, List.set_cons_succ]
  refine wpAnyH_take (i := 37) (v := undef) (by simp only [List.getElem?_toArray]; rfl) (by kernel_rfl) (by kernel_rfl) (by kernel_rfl) (by exact fun _ _ _ h => h) (Or.inr ⟨by rfl, rfl⟩) (by assumption) ?_
  try simp only [Act.put, List.setIfInBounds_toArray, List.set_cons_zero, List.set_cons_succ]
  refine wpAnyH_take (i := 38) (v := undef) (by simp only [List.getElem?_toArray]; rfl) (by kernel_rfl) (by kernel_rfl) (by kernel_rfl) (by exact fun _ _ _ h => h) (Or.inr ⟨by rfl, rfl⟩) (by assumption) ?_
  try simp only [Act.put, List.setIfInBounds_toArray, List.set_cons_zero, List.set_cons_succ]
  refine wpAnyH_take (i := 39) (v := undef) (by simp only [List.getElem?_toArray]; rfl) (by kernel_rfl) (by kernel_rfl) (by kernel_rfl) (by exact fun _ _ _ h => h) (Or.inr ⟨by rfl, rfl⟩) (by assumption) ?_
  try simp only [Act.put, List.setIfInBounds_toArray, List.set_cons_zero, List.set_cons_succ]
  refine wpAnyH_take (i := 40) (v := ?_) (by simp only [List.getElem?_toArray]; rfl) (by kernel_rfl) (by kernel_rfl) (by kernel_rfl) (by exact fun _ _ _ h => h) (Or.inl ⟨by rfl, ?_⟩) (by assumption) ?_
  rotate_left
  ·intro w hSw
   (try dsimp only at hSw)
   go_simp
   all_goals with_reducible rfl
  try simp only [Act.put, List.setIfInBounds_toArray, List.set_cons_zero, List.set_cons_succ]
  refine wpAnyH_take (i := 41) (v := ?_) (by simp only [List.getElem?_toArray]; rfl) (by kernel_rfl) (by kernel_rfl) (by kernel_rfl) (by exact fun _ _ _ h => h) (Or.inl ⟨by rfl, ?_⟩) (by assumption) ?_
  rotate_left
  ·intro w hSw
   (try dsimp only at hSw)
   go_simp
   all_goals with_reducible rfl
  try simp only [Act.put, List.setIfInBounds_toArray, List.set_cons_zero, List.set_cons_succ]
  refine wpAnyH_done (by kernel_rfl) ?_ _
  go_wp2_with fail
  go_ret
  go_split_ands
  exact ⟨ret_bool (by rw [HU.out]; simp [*]), HB.out _ (by assumption)⟩
 ·have CG2 : Hid (∀ V, SS V → Calls Tryz.prog 137 #[.slice la l.length lc, .agg #[.int .i64 ps, .int .i64 rs, .slice ca cn cc]] V fun x w' => x = .returned (.bool true) ∧ Below V.heap.size V w') := hid (by
   rw [hSS]; rintro V ⟨h, _⟩; have := CG.out V h.fx.li; rw [hr] at this; exact this)
  clear hSS hv CG S
  go_wp2_with fail
  go_region_held3 (fun w' => w'.cell? ⟨p, 0, none⟩ = some (.slice (some ⟨fB, fO, none⟩) fp.length fc) ∧ w'.cell? ⟨w.heap.size, 0, none⟩ = some (.int .i64 ps) ∧ w'.cell? ⟨w.heap.size, 1, none⟩ = some (.int .i64 rs) ∧ w'.cell? ⟨w.heap.size, 2, none⟩ = some (.slice ca cn cc) ∧ w'.cell? ⟨w.heap.size + 1, 1, none⟩ = some (.int .i64 0) ∧ w'.cell? ⟨w.heap.size + 1, 2, none⟩ = some (.int .i64 i) ∧ w'.cell? ⟨w.heap.size + 1, 3, none⟩ = some (.int .i64 0) ∧ w'.cell? ⟨w.heap.size + 1, 4, none⟩ = some (.slice la l.length lc) ∧ w'.cell? ⟨fB, fO + i * 3, none⟩ = some (.int .i64 v) ∧ SS w')
   (first
    | (go_keep; done)
    | (refine ⟨?_, ?_, ?_, ?_, ?_, ?_, ?_, ?_, ?_, hS0⟩ <;> (go_keep; done))
    | (go_split_ands; exact SK.out _ _ (by assumption) hbx))
   (first
    | (go_at_call 72; (with_reducible refine (CB.out _).mono ?_); rintro e w1 ⟨rfl, rfl⟩)
    | (go_at_call 137; (with_reducible refine (CG2.out _ ?_).mono ?_); (go_split_ands; assumption); rintro e w1 ⟨rfl, hbx⟩))
  all_goals (go_wp2_with fail; go_ret; go_split_ands; exact ⟨ret_bool (by rw [HU.out, hr, hb, Int.toNat_natCast, HV.out]; simp), HB.out _ (by assumption)⟩)
theorem rising_at {l : List Int} {j : Nat} (h : l.length ≤ j) (h2 : j ≤ l.length ∨ (j = 1 ∧ l.length = 0)) : (List.range j).all (okR l) = risingB l := by
 rcases h2 with h2 | ⟨h2, h3⟩
 ·rw [show j = l.length by omega]; rfl
 ·subst h2
  unfold risingB
  rw [h3]
  rfl
theorem rising_next {l : List Int} {j : Nat} {B C : Bool} (h : (B && (List.range j).all (okR l)) = C) : (B && (List.range (j + 1)).all (okR l)) = (C && okR l j) := by
 rw [List.range_succ, List.all_append, ← h]
 simp [Bool.and_assoc]
theorem kinds_eq (b : Int) : ((b == 1) || (b == 2) || (b == 4) || (b == 3)) = (decide (1 ≤ b) && decide (b ≤ 4)) := by
 rw [Bool.eq_iff_iff]
 simp only [Bool.or_eq_true, Bool.and_eq_true, beq_iff_eq, decide_eq_true_eq]
 omega
set_option maxHeartbeats 8000000 in
set_option maxRecDepth 8000 in
theorem form_1  (p : Nat) (fa sa ra : Option Addr) (sn rn fc sc rc : Nat) (en : Int) (fp : List Int) (ps rs : Int) (ca : Option Addr) (cn cc : Nat) (a b c : Int) (l lv : List Int) (la : Option Addr) (lc : Nat) (va : Option Addr) (vc : Nat) (w : World) (hW : WoAt w p fa sa ra fp.length sn rn fc sc rc en) (hf : PsAt w fa fp) (hl : IntsAt .i64 w la l) (hv : IntsAt .i64 w va lv) (hcn : cn ≤ 1000000000) :
  Calls Tryz.prog 73 #[.pointer (some ⟨p, 0, none⟩), .agg #[.int .i64 ps, .int .i64 rs, .slice ca cn cc], .agg #[.int .i64 1, .int .i64 a, .int .i64 b, .int .i64 c, .slice la l.length lc, .slice va lv.length vc]] w fun e w' => e = .returned (.bool (liveB 1 b lv rs && formB sn rn fp cn rs 1 a b c l)) ∧ Below w.heap.size w w' := by
 have S := hid (fo_start (x := ⟨1, a, b, c, l, lv⟩) hW hf hl hv ps rs ca cn cc lc vc)
 have CI := hid (fun n e W => inside_any n e W)
 have CK := hid (fun W h => keeps_any p fa sa ra fp.length sn rn fc sc rc en 1 a b c la va l.length lc lv.length vc W h)
 have CV := hid (fun W h => regs_any va lv vc ps rs ca cn cc W h)
 have CG := hid (fun W h => regs_any la l lc ps rs ca cn cc W h)
 have CR := hid (fun n W => right_any n W)
 have hm := hv.1
 have hm2 : (lv.length : Int) ≤ 9223372036854775807 := by unfold maxLen at hm; omega
 clear hW hf hl hv hm
 go_enter Tryz.func73, Tryz.ntmps73
 go_wp2_with fail
 go_quiet (first | (go_at_call 72; refine Calls.quiet_of_same (CI.out _ _ _)))
 obtain ⟨W, hW⟩ : ∃ W, ((w.alloc (.cells #[.int .i64 ps, .int .i64 rs, .slice ca cn cc] 48)).alloc (.cells #[.int .i64 1, .int .i64 a, .int .i64 b, .int .i64 c, .slice la l.length lc, .slice va lv.length vc] 58)).drewN nq = W := ⟨_, rfl⟩
 have S1 := S.out.below (below_drewN (Below.refl _ _) nq)
 try dsimp only at S1
 rw [hW] at S1
 rw [hW]
 clear hW
 have S := hid S1
 clear S1
 obtain ⟨f0, f1, f2, x0, x1, x2, x3, x4, x5⟩ := S.out.fx.cells; obtain ⟨p0, p1, p2, pg, pcap, p4, hpr⟩ := S.out.wo.pcells; dsimp only at x0 x1 x2 x3 x4 x5
 have HK := hid (show keepsI 1 b = false from rfl)
 have HU := hid (show formB sn rn fp cn rs 1 a b c l = (insB a rs && rtB b && (c == 0) && ((l.length : Int) == 0)) from rfl)
 have CK1 : Hid (∀ W h, Calls Tryz.prog 77 #[.pointer (some ⟨p, 0, none⟩), .agg #[.int .i64 1, .int .i64 a, .int .i64 b, .int .i64 c, .slice la l.length lc, .slice va lv.length vc]] W fun x w' => x = .returned (.bool false) ∧ Below W.heap.size W w') := hid (fun W (h : WoAt W p fa sa ra fp.length sn rn fc sc rc en) => by
  have := CK.out W h
  rwa [HK.out] at this)
 go_upto_region 9 with (first | (go_at_call 77; refine (CK1.out _ S.out.wo).mono ?_; rintro e w1 ⟨rfl, hb⟩; have S := hid (S.out.below hb); clear hb f0 f1 f2 x0 x1 x2 x3 x4 x5 p0 p1 p2 p4 hpr pg pcap; obtain ⟨f0, f1, f2, x0, x1, x2, x3, x4, x5⟩ := S.out.fx.cells; obtain ⟨p0, p1, p2, pg, pcap, p4, hpr⟩ := S.out.wo.pcells; dsimp only at x0 x1 x2 x3 x4 x5))
 obtain ⟨ok, hok⟩ : ∃ ok, ((lv.length : Int) == 0) = ok := ⟨_, rfl⟩
 have hlv : liveB 1 b lv rs = ok := by unfold liveB; rw [HK.out]; simpa using hok
 rw [hok]
 have HL := hid hlv
 clear hlv hok CK CK1 CV
 go_wp2_with (first
  | (go_at_call 138; refine (CR.out _ _).mono ?_; rintro e w1 ⟨rfl, rfl⟩)
  | (go_at_call 72; refine (CI.out _ _ _).mono ?_; rintro e w1 ⟨rfl, rfl⟩)
  | (go_at_call 137; refine (CG.out _ S.out.fx.li).mono ?_; rintro e w1 ⟨rfl, hb⟩; have S := hid (S.out.below hb); clear hb f0 f1 f2 x0 x1 x2 x3 x4 x5 p0 p1 p2 p4 hpr pg pcap; obtain ⟨f0, f1, f2, x0, x1, x2, x3, x4, x5⟩ := S.out.fx.cells; obtain ⟨p0, p1, p2, pg, pcap, p4, hpr⟩ := S.out.wo.pcells; dsimp only at x0 x1 x2 x3 x4 x5)
  | (go_at_call 139; refine (CE.out _ S.out.wo S.out.fs S.out.fx.li S.out.fx.vi).mono ?_; rintro e w1 ⟨rfl, hb⟩; have S := hid (S.out.below hb); clear hb f0 f1 f2 x0 x1 x2 x3 x4 x5 p0 p1 p2 p4 hpr pg pcap; obtain ⟨f0, f1, f2, x0, x1, x2, x3, x4, x5⟩ := S.out.fx.cells; obtain ⟨p0, p1, p2, pg, pcap, p4, hpr⟩ := S.out.wo.pcells; dsimp only at x0 x1 x2 x3 x4 x5))
 all_goals (go_ret; exact ⟨ret_bool (by rw [HL.out, HU.out]; first | (simp [*]; done) | (have i0 := ins0; simp [*]; done) | (simp [*]; intros; omega)), S.out.fx.b⟩)
set_option maxHeartbeats 8000000 in
set_option maxRecDepth 8000 in
theorem form_2  (p : Nat) (fa sa ra : Option Addr) (sn rn fc sc rc : Nat) (en : Int) (fp : List Int) (ps rs : Int) (ca : Option Addr) (cn cc : Nat) (a b c : Int) (l lv : List Int) (la : Option Addr) (lc : Nat) (va : Option Addr) (vc : Nat) (w : World) (hW : WoAt w p fa sa ra fp.length sn rn fc sc rc en) (hf : PsAt w fa fp) (hl : IntsAt .i64 w la l) (hv : IntsAt .i64 w va lv) (hcn : cn ≤ 1000000000) :
  Calls Tryz.prog 73 #[.pointer (some ⟨p, 0, none⟩), .agg #[.int .i64 ps, .int .i64 rs, .slice ca cn cc], .agg #[.int .i64 2, .int .i64 a, .int .i64 b, .int .i64 c, .slice la l.length lc, .slice va lv.length vc]] w fun e w' => e = .returned (.bool (liveB 2 b lv rs && formB sn rn fp cn rs 2 a b c l)) ∧ Below w.heap.size w w' := by
 have S := hid (fo_start (x := ⟨2, a, b, c, l, lv⟩) hW hf hl hv ps rs ca cn cc lc vc)
 have CI := hid (fun n e W => inside_any n e W)
 have CK := hid (fun W h => keeps_any p fa sa ra fp.length sn rn fc sc rc en 2 a b c la va l.length lc lv.length vc W h)
 have CV := hid (fun W h => regs_any va lv vc ps rs ca cn cc W h)
 have CG := hid (fun W h => regs_any la l lc ps rs ca cn cc W h)
 have CR := hid (fun n W => right_any n W)
 have hm := hv.1
 have hm2 : (lv.length : Int) ≤ 9223372036854775807 := by unfold maxLen at hm; omega
 clear hW hf hl hv hm
 go_enter Tryz.func73, Tryz.ntmps73
 go_wp2_with fail
 go_quiet (first | (go_at_call 72; refine Calls.quiet_of_same (CI.out _ _ _)))
 obtain ⟨W, hW⟩ : ∃ W, ((w.alloc (.cells #[.int .i64 ps, .int .i64 rs, .slice ca cn cc] 48)).alloc (.cells #[.int .i64 2, .int .i64 a, .int .i64 b, .int .i64 c, .slice la l.length lc, .slice va lv.length vc] 58)).drewN nq = W := ⟨_, rfl⟩
 have S1 := S.out.below (below_drewN (Below.refl _ _) nq)
 try dsimp only at S1
 rw [hW] at S1
 rw [hW]
 clear hW
 have S := hid S1
 clear S1
 obtain ⟨f0, f1, f2, x0, x1, x2, x3, x4, x5⟩ := S.out.fx.cells; obtain ⟨p0, p1, p2, pg, pcap, p4, hpr⟩ := S.out.wo.pcells; dsimp only at x0 x1 x2 x3 x4 x5
 have HK := hid (show keepsI 2 b = true from rfl)
 have HU := hid (show formB sn rn fp cn rs 2 a b c l = (insB a rs && insB b sn && (c == 0) && ((l.length : Int) == 0)) from rfl)
 have CK1 : Hid (∀ W h, Calls Tryz.prog 77 #[.pointer (some ⟨p, 0, none⟩), .agg #[.int .i64 2, .int .i64 a, .int .i64 b, .int .i64 c, .slice la l.length lc, .slice va lv.length vc]] W fun x w' => x = .returned (.bool true) ∧ Below W.heap.size W w') := hid (fun W (h : WoAt W p fa sa ra fp.length sn rn fc sc rc en) => by
  have := CK.out W h
  rwa [HK.out] at this)
 go_wp2_with (first
  | (go_at_call 77; refine (CK1.out _ S.out.wo).mono ?_; rintro e w1 ⟨rfl, hb⟩; have S := hid (S.out.below hb); clear hb f0 f1 f2 x0 x1 x2 x3 x4 x5 p0 p1 p2 p4 hpr pg pcap; obtain ⟨f0, f1, f2, x0, x1, x2, x3, x4, x5⟩ := S.out.fx.cells; obtain ⟨p0, p1, p2, pg, pcap, p4, hpr⟩ := S.out.wo.pcells; dsimp only at x0 x1 x2 x3 x4 x5)
  | (go_at_call 137; refine (CV.out _ S.out.fx.vi).mono ?_; rintro e w1 ⟨rfl, hb⟩; have S := hid (S.out.below hb); clear hb f0 f1 f2 x0 x1 x2 x3 x4 x5 p0 p1 p2 p4 hpr pg pcap; obtain ⟨f0, f1, f2, x0, x1, x2, x3, x4, x5⟩ := S.out.fx.cells; obtain ⟨p0, p1, p2, pg, pcap, p4, hpr⟩ := S.out.wo.pcells; dsimp only at x0 x1 x2 x3 x4 x5))
 clear CK CK1 CV
 go_loopw [10, 11] (fun vo vi wr => ∃ j : Nat, vi = .int .i64 j ∧ 1 ≤ j ∧ (j ≤ lv.length ∨ (j = 1 ∧ lv.length = 0)) ∧ vo = .bool (regsB lv rs && (List.range j).all (okR lv)) ∧ FoAt w wr p w.heap.size (w.heap.size + 1) fa sa ra sn rn fc sc rc en fp ps rs ca cn cc ⟨2, a, b, c, l, lv⟩ la lc va vc) (fun _ vi _ => lv.length - (intOf vi).toNat)
 case atStart => exact ⟨1, rfl, by omega, by omega, congrArg Value.bool (by rw [show (List.range 1).all (okR lv) = true from rfl, Bool.and_true]), S.out⟩
 clear S f0 f1 f2 x0 x1 x2 x3 x4 x5 p0 p1 p2 p4 hpr pg pcap
 obtain ⟨j, rfl, hj1, hj2, rfl, hS⟩ := hrel
 have S := hid hS
 have HI := hid hS.fx.vi
 clear hS
 obtain ⟨f0, f1, f2, x0, x1, x2, x3, x4, x5⟩ := S.out.fx.cells; obtain ⟨p0, p1, p2, pg, pcap, p4, hpr⟩ := S.out.wo.pcells; dsimp only at x0 x1 x2 x3 x4 x5
 obtain ⟨ok, hok⟩ : ∃ ok, (regsB lv rs && (List.range j).all (okR lv)) = ok := ⟨_, rfl⟩
 rw [hok]
 have HO := hid hok
 clear hok
 by_cases hlt : j < lv.length
 ·have HJ := hid hj2
  clear hj2 p0 p1 p2 p4 hpr pg pcap
  have hI := HI.out
  obtain ⟨bB, off, ha, c0⟩ := ints_cell hI hlt
  obtain ⟨b', off', ha', c1⟩ := ints_cell hI (show j - 1 < lv.length by omega)
  rw [ha] at ha'
  injection ha' with ha'
  injection ha' with q1 q2 _
  subst q1; subst q2; subst ha
  obtain ⟨v, hv⟩ : ∃ v, lv.getD j 0 = v := ⟨_, rfl⟩
  obtain ⟨u, hu⟩ : ∃ u, lv.getD (j - 1) 0 = u := ⟨_, rfl⟩
  rw [hv] at c0
  rw [hu] at c1
  have m1 : IntKind.i64.wrap ((j : Int) - 1) = (j : Int) - 1 := IntWalk.i64_in _ (by omega)
  have m2 : ((j : Int) - 1).toNat = j - 1 := by omega
  have m3 : decide ((j : Int) < (lv.length : Int)) = true := decide_eq_true (by omega)
  have m4 : decide (0 ≤ (j : Int) - 1) = true := decide_eq_true (by omega)
  have m5 : decide ((j : Int) - 1 < (lv.length : Int)) = true := decide_eq_true (by omega)
  have HN := hid (show okR lv j = decide (u < v) by unfold okR; rw [hv, hu, show (j == 0) = false by simp; omega]; rfl)
  clear hv hu hI
  go_wp2_with fail
  cases ok
  all_goals
   go_quiet (fail)
   go_wp2_with fail
   go_roundw
  all_goals first
   | exact ⟨j + 1, by go_num, by omega, by (have := HJ.out); omega, congrArg Value.bool (by rw [rising_next HO.out, HN.out]; first | rfl | simp), S.out.below (below_drewN (Below.refl _ _) _)⟩
   | (simp [intOf]; omega)
 have hlv : liveB 2 b lv rs = ok := by unfold liveB; rw [HK.out, ← HO.out, rising_at (by omega) hj2]; rfl
 have HL := hid hlv
 clear hlv HO HI
 have m3 : decide ((j : Int) < (lv.length : Int)) = false := decide_eq_false (by omega)
 go_upto_region 9 with fail
 have hU := HU.out
 clear p4 hpr
 obtain ⟨hb, h⟩ : ∃ z, insB b sn = z := ⟨_, rfl⟩
 have CB := hid (fun W => inside_eq h W)
 rw [h] at hU
 clear h
 obtain ⟨ha, h⟩ : ∃ z, insB a rs = z := ⟨_, rfl⟩
 rw [h] at hU
 rw [h]
 clear h
 have HU := hid hU
 clear hU
 cases ok
 rotate_left
 cases ha
 rotate_left
 cases hb
 rotate_left
 by_cases hc : (c == 0) = true
 rotate_left
 have hc : (c == 0) = false := by simpa using hc
 all_goals
  go_wp2_with fail
  go_quiet (first | (go_at_call 72; refine Calls.quiet_of_same (CB.out _)))
  go_wp2_with fail
  go_ret
  exact ⟨ret_bool (by rw [HL.out, HU.out]; simp [*]), below_drewN S.out.fx.b _⟩
set_option maxHeartbeats 8000000 in
set_option maxRecDepth 8000 in
theorem form_3  (p : Nat) (fa sa ra : Option Addr) (sn rn fc sc rc : Nat) (en : Int) (fp : List Int) (ps rs : Int) (ca : Option Addr) (cn cc : Nat) (a b c : Int) (l lv : List Int) (la : Option Addr) (lc : Nat) (va : Option Addr) (vc : Nat) (w : World) (hW : WoAt w p fa sa ra fp.length sn rn fc sc rc en) (hf : PsAt w fa fp) (hl : IntsAt .i64 w la l) (hv : IntsAt .i64 w va lv) (hcn : cn ≤ 1000000000) :
  Calls Tryz.prog 73 #[.pointer (some ⟨p, 0, none⟩), .agg #[.int .i64 ps, .int .i64 rs, .slice ca cn cc], .agg #[.int .i64 3, .int .i64 a, .int .i64 b, .int .i64 c, .slice la l.length lc, .slice va lv.length vc]] w fun e w' => e = .returned (.bool (liveB 3 b lv rs && formB sn rn fp cn rs 3 a b c l)) ∧ Below w.heap.size w w' := by
 have S := hid (fo_start (x := ⟨3, a, b, c, l, lv⟩) hW hf hl hv ps rs ca cn cc lc vc)
 have CI := hid (fun n e W => inside_any n e W)
 have CK := hid (fun W h => keeps_any p fa sa ra fp.length sn rn fc sc rc en 3 a b c la va l.length lc lv.length vc W h)
 have CV := hid (fun W h => regs_any va lv vc ps rs ca cn cc W h)
 have CG := hid (fun W h => regs_any la l lc ps rs ca cn cc W h)
 have CR := hid (fun n W => right_any n W)
 have hm := hv.1
 have hm2 : (lv.length : Int) ≤ 9223372036854775807 := by unfold maxLen at hm; omega
 clear hW hf hl hv hm
 go_enter Tryz.func73, Tryz.ntmps73
 go_wp2_with fail
 go_quiet (first | (go_at_call 72; refine Calls.quiet_of_same (CI.out _ _ _)))
 obtain ⟨W, hW⟩ : ∃ W, ((w.alloc (.cells #[.int .i64 ps, .int .i64 rs, .slice ca cn cc] 48)).alloc (.cells #[.int .i64 3, .int .i64 a, .int .i64 b, .int .i64 c, .slice la l.length lc, .slice va lv.length vc] 58)).drewN nq = W := ⟨_, rfl⟩
 have S1 := S.out.below (below_drewN (Below.refl _ _) nq)
 try dsimp only at S1
 rw [hW] at S1
 rw [hW]
 clear hW
 have S := hid S1
 clear S1
 obtain ⟨f0, f1, f2, x0, x1, x2, x3, x4, x5⟩ := S.out.fx.cells; obtain ⟨p0, p1, p2, pg, pcap, p4, hpr⟩ := S.out.wo.pcells; dsimp only at x0 x1 x2 x3 x4 x5
 have HK := hid (show keepsI 3 b = true from rfl)
 have HU := hid (show formB sn rn fp cn rs 3 a b c l = (insB a rs && insB b rn && (c == 0) && ((l.length : Int) == 0)) from rfl)
 have CK1 : Hid (∀ W h, Calls Tryz.prog 77 #[.pointer (some ⟨p, 0, none⟩), .agg #[.int .i64 3, .int .i64 a, .int .i64 b, .int .i64 c, .slice la l.length lc, .slice va lv.length vc]] W fun x w' => x = .returned (.bool true) ∧ Below W.heap.size W w') := hid (fun W (h : WoAt W p fa sa ra fp.length sn rn fc sc rc en) => by
  have := CK.out W h
  rwa [HK.out] at this)
 go_wp2_with (first
  | (go_at_call 77; refine (CK1.out _ S.out.wo).mono ?_; rintro e w1 ⟨rfl, hb⟩; have S := hid (S.out.below hb); clear hb f0 f1 f2 x0 x1 x2 x3 x4 x5 p0 p1 p2 p4 hpr pg pcap; obtain ⟨f0, f1, f2, x0, x1, x2, x3, x4, x5⟩ := S.out.fx.cells; obtain ⟨p0, p1, p2, pg, pcap, p4, hpr⟩ := S.out.wo.pcells; dsimp only at x0 x1 x2 x3 x4 x5)
  | (go_at_call 137; refine (CV.out _ S.out.fx.vi).mono ?_; rintro e w1 ⟨rfl, hb⟩; have S := hid (S.out.below hb); clear hb f0 f1 f2 x0 x1 x2 x3 x4 x5 p0 p1 p2 p4 hpr pg pcap; obtain ⟨f0, f1, f2, x0, x1, x2, x3, x4, x5⟩ := S.out.fx.cells; obtain ⟨p0, p1, p2, pg, pcap, p4, hpr⟩ := S.out.wo.pcells; dsimp only at x0 x1 x2 x3 x4 x5))
 clear CK CK1 CV
 go_loopw [10, 11] (fun vo vi wr => ∃ j : Nat, vi = .int .i64 j ∧ 1 ≤ j ∧ (j ≤ lv.length ∨ (j = 1 ∧ lv.length = 0)) ∧ vo = .bool (regsB lv rs && (List.range j).all (okR lv)) ∧ FoAt w wr p w.heap.size (w.heap.size + 1) fa sa ra sn rn fc sc rc en fp ps rs ca cn cc ⟨3, a, b, c, l, lv⟩ la lc va vc) (fun _ vi _ => lv.length - (intOf vi).toNat)
 case atStart => exact ⟨1, rfl, by omega, by omega, congrArg Value.bool (by rw [show (List.range 1).all (okR lv) = true from rfl, Bool.and_true]), S.out⟩
 clear S f0 f1 f2 x0 x1 x2 x3 x4 x5 p0 p1 p2 p4 hpr pg pcap
 obtain ⟨j, rfl, hj1, hj2, rfl, hS⟩ := hrel
 have S := hid hS
 have HI := hid hS.fx.vi
 clear hS
 obtain ⟨f0, f1, f2, x0, x1, x2, x3, x4, x5⟩ := S.out.fx.cells; obtain ⟨p0, p1, p2, pg, pcap, p4, hpr⟩ := S.out.wo.pcells; dsimp only at x0 x1 x2 x3 x4 x5
 obtain ⟨ok, hok⟩ : ∃ ok, (regsB lv rs && (List.range j).all (okR lv)) = ok := ⟨_, rfl⟩
 rw [hok]
 have HO := hid hok
 clear hok
 by_cases hlt : j < lv.length
 ·have HJ := hid hj2
  clear hj2 p0 p1 p2 p4 hpr pg pcap
  have hI := HI.out
  obtain ⟨bB, off, ha, c0⟩ := ints_cell hI hlt
  obtain ⟨b', off', ha', c1⟩ := ints_cell hI (show j - 1 < lv.length by omega)
  rw [ha] at ha'
  injection ha' with ha'
  injection ha' with q1 q2 _
  subst q1; subst q2; subst ha
  obtain ⟨v, hv⟩ : ∃ v, lv.getD j 0 = v := ⟨_, rfl⟩
  obtain ⟨u, hu⟩ : ∃ u, lv.getD (j - 1) 0 = u := ⟨_, rfl⟩
  rw [hv] at c0
  rw [hu] at c1
  have m1 : IntKind.i64.wrap ((j : Int) - 1) = (j : Int) - 1 := IntWalk.i64_in _ (by omega)
  have m2 : ((j : Int) - 1).toNat = j - 1 := by omega
  have m3 : decide ((j : Int) < (lv.length : Int)) = true := decide_eq_true (by omega)
  have m4 : decide (0 ≤ (j : Int) - 1) = true := decide_eq_true (by omega)
  have m5 : decide ((j : Int) - 1 < (lv.length : Int)) = true := decide_eq_true (by omega)
  have HN := hid (show okR lv j = decide (u < v) by unfold okR; rw [hv, hu, show (j == 0) = false by simp; omega]; rfl)
  clear hv hu hI
  go_wp2_with fail
  cases ok
  all_goals
   go_quiet (fail)
   go_wp2_with fail
   go_roundw
  all_goals first
   | exact ⟨j + 1, by go_num, by omega, by (have := HJ.out); omega, congrArg Value.bool (by rw [rising_next HO.out, HN.out]; first | rfl | simp), S.out.below (below_drewN (Below.refl _ _) _)⟩
   | (simp [intOf]; omega)
 have hlv : liveB 3 b lv rs = ok := by unfold liveB; rw [HK.out, ← HO.out, rising_at (by omega) hj2]; rfl
 have HL := hid hlv
 clear hlv HO HI
 have m3 : decide ((j : Int) < (lv.length : Int)) = false := decide_eq_false (by omega)
 go_upto_region 9 with fail
 have hU := HU.out
 clear p4 hpr
 obtain ⟨hb, h⟩ : ∃ z, insB b rn = z := ⟨_, rfl⟩
 have CB := hid (fun W => inside_eq h W)
 rw [h] at hU
 clear h
 obtain ⟨ha, h⟩ : ∃ z, insB a rs = z := ⟨_, rfl⟩
 rw [h] at hU
 rw [h]
 clear h
 have HU := hid hU
 clear hU
 cases ok
 rotate_left
 cases ha
 rotate_left
 cases hb
 rotate_left
 by_cases hc : (c == 0) = true
 rotate_left
 have hc : (c == 0) = false := by simpa using hc
 all_goals
  go_wp2_with fail
  go_quiet (first | (go_at_call 72; refine Calls.quiet_of_same (CB.out _)))
  go_wp2_with fail
  go_ret
  exact ⟨ret_bool (by rw [HL.out, HU.out]; simp [*]), below_drewN S.out.fx.b _⟩
set_option maxHeartbeats 8000000 in
set_option maxRecDepth 8000 in
theorem form_4  (p : Nat) (fa sa ra : Option Addr) (sn rn fc sc rc : Nat) (en : Int) (fp : List Int) (ps rs : Int) (ca : Option Addr) (cn cc : Nat) (a b c : Int) (l lv : List Int) (la : Option Addr) (lc : Nat) (va : Option Addr) (vc : Nat) (w : World) (hW : WoAt w p fa sa ra fp.length sn rn fc sc rc en) (hf : PsAt w fa fp) (hl : IntsAt .i64 w la l) (hv : IntsAt .i64 w va lv) (hcn : cn ≤ 1000000000) :
  Calls Tryz.prog 73 #[.pointer (some ⟨p, 0, none⟩), .agg #[.int .i64 ps, .int .i64 rs, .slice ca cn cc], .agg #[.int .i64 4, .int .i64 a, .int .i64 b, .int .i64 c, .slice la l.length lc, .slice va lv.length vc]] w fun e w' => e = .returned (.bool (liveB 4 b lv rs && formB sn rn fp cn rs 4 a b c l)) ∧ Below w.heap.size w w' := by
 have S := hid (fo_start (x := ⟨4, a, b, c, l, lv⟩) hW hf hl hv ps rs ca cn cc lc vc)
 have CI := hid (fun n e W => inside_any n e W)
 have CK := hid (fun W h => keeps_any p fa sa ra fp.length sn rn fc sc rc en 4 a b c la va l.length lc lv.length vc W h)
 have CV := hid (fun W h => regs_any va lv vc ps rs ca cn cc W h)
 have CG := hid (fun W h => regs_any la l lc ps rs ca cn cc W h)
 have CR := hid (fun n W => right_any n W)
 have hm := hv.1
 have hm2 : (lv.length : Int) ≤ 9223372036854775807 := by unfold maxLen at hm; omega
 clear hW hf hl hv hm
 go_enter Tryz.func73, Tryz.ntmps73
 go_wp2_with fail
 go_quiet (first | (go_at_call 72; refine Calls.quiet_of_same (CI.out _ _ _)))
 obtain ⟨W, hW⟩ : ∃ W, ((w.alloc (.cells #[.int .i64 ps, .int .i64 rs, .slice ca cn cc] 48)).alloc (.cells #[.int .i64 4, .int .i64 a, .int .i64 b, .int .i64 c, .slice la l.length lc, .slice va lv.length vc] 58)).drewN nq = W := ⟨_, rfl⟩
 have S1 := S.out.below (below_drewN (Below.refl _ _) nq)
 try dsimp only at S1
 rw [hW] at S1
 rw [hW]
 clear hW
 have S := hid S1
 clear S1
 obtain ⟨f0, f1, f2, x0, x1, x2, x3, x4, x5⟩ := S.out.fx.cells; obtain ⟨p0, p1, p2, pg, pcap, p4, hpr⟩ := S.out.wo.pcells; dsimp only at x0 x1 x2 x3 x4 x5
 have HK := hid (show keepsI 4 b = false from rfl)
 have HU := hid (show formB sn rn fp cn rs 4 a b c l = (insB a rs && insB b rs && (c == 0) && ((l.length : Int) == 0)) from rfl)
 have CK1 : Hid (∀ W h, Calls Tryz.prog 77 #[.pointer (some ⟨p, 0, none⟩), .agg #[.int .i64 4, .int .i64 a, .int .i64 b, .int .i64 c, .slice la l.length lc, .slice va lv.length vc]] W fun x w' => x = .returned (.bool false) ∧ Below W.heap.size W w') := hid (fun W (h : WoAt W p fa sa ra fp.length sn rn fc sc rc en) => by
  have := CK.out W h
  rwa [HK.out] at this)
 go_upto_region 9 with (first | (go_at_call 77; refine (CK1.out _ S.out.wo).mono ?_; rintro e w1 ⟨rfl, hb⟩; have S := hid (S.out.below hb); clear hb f0 f1 f2 x0 x1 x2 x3 x4 x5 p0 p1 p2 p4 hpr pg pcap; obtain ⟨f0, f1, f2, x0, x1, x2, x3, x4, x5⟩ := S.out.fx.cells; obtain ⟨p0, p1, p2, pg, pcap, p4, hpr⟩ := S.out.wo.pcells; dsimp only at x0 x1 x2 x3 x4 x5))
 obtain ⟨ok, hok⟩ : ∃ ok, ((lv.length : Int) == 0) = ok := ⟨_, rfl⟩
 have hlv : liveB 4 b lv rs = ok := by unfold liveB; rw [HK.out]; simpa using hok
 rw [hok]
 have HL := hid hlv
 clear hlv hok CK CK1 CV
 go_wp2_with (first
  | (go_at_call 138; refine (CR.out _ _).mono ?_; rintro e w1 ⟨rfl, rfl⟩)
  | (go_at_call 72; refine (CI.out _ _ _).mono ?_; rintro e w1 ⟨rfl, rfl⟩)
  | (go_at_call 137; refine (CG.out _ S.out.fx.li).mono ?_; rintro e w1 ⟨rfl, hb⟩; have S := hid (S.out.below hb); clear hb f0 f1 f2 x0 x1 x2 x3 x4 x5 p0 p1 p2 p4 hpr pg pcap; obtain ⟨f0, f1, f2, x0, x1, x2, x3, x4, x5⟩ := S.out.fx.cells; obtain ⟨p0, p1, p2, pg, pcap, p4, hpr⟩ := S.out.wo.pcells; dsimp only at x0 x1 x2 x3 x4 x5)
  | (go_at_call 139; refine (CE.out _ S.out.wo S.out.fs S.out.fx.li S.out.fx.vi).mono ?_; rintro e w1 ⟨rfl, hb⟩; have S := hid (S.out.below hb); clear hb f0 f1 f2 x0 x1 x2 x3 x4 x5 p0 p1 p2 p4 hpr pg pcap; obtain ⟨f0, f1, f2, x0, x1, x2, x3, x4, x5⟩ := S.out.fx.cells; obtain ⟨p0, p1, p2, pg, pcap, p4, hpr⟩ := S.out.wo.pcells; dsimp only at x0 x1 x2 x3 x4 x5))
 all_goals (go_ret; exact ⟨ret_bool (by rw [HL.out, HU.out]; first | (simp [*]; done) | (have i0 := ins0; simp [*]; done) | (simp [*]; intros; omega)), S.out.fx.b⟩)
set_option maxHeartbeats 8000000 in
set_option maxRecDepth 8000 in
theorem form_5  (p : Nat) (fa sa ra : Option Addr) (sn rn fc sc rc : Nat) (en : Int) (fp : List Int) (ps rs : Int) (ca : Option Addr) (cn cc : Nat) (a b c : Int) (l lv : List Int) (la : Option Addr) (lc : Nat) (va : Option Addr) (vc : Nat) (w : World) (hW : WoAt w p fa sa ra fp.length sn rn fc sc rc en) (hf : PsAt w fa fp) (hl : IntsAt .i64 w la l) (hv : IntsAt .i64 w va lv) (hcn : cn ≤ 1000000000) :
  Calls Tryz.prog 73 #[.pointer (some ⟨p, 0, none⟩), .agg #[.int .i64 ps, .int .i64 rs, .slice ca cn cc], .agg #[.int .i64 5, .int .i64 a, .int .i64 b, .int .i64 c, .slice la l.length lc, .slice va lv.length vc]] w fun e w' => e = .returned (.bool (liveB 5 b lv rs && formB sn rn fp cn rs 5 a b c l)) ∧ Below w.heap.size w w' := by
 have S := hid (fo_start (x := ⟨5, a, b, c, l, lv⟩) hW hf hl hv ps rs ca cn cc lc vc)
 have CI := hid (fun n e W => inside_any n e W)
 have CK := hid (fun W h => keeps_any p fa sa ra fp.length sn rn fc sc rc en 5 a b c la va l.length lc lv.length vc W h)
 have CV := hid (fun W h => regs_any va lv vc ps rs ca cn cc W h)
 have CG := hid (fun W h => regs_any la l lc ps rs ca cn cc W h)
 have CR := hid (fun n W => right_any n W)
 have hm := hv.1
 have hm2 : (lv.length : Int) ≤ 9223372036854775807 := by unfold maxLen at hm; omega
 clear hW hf hl hv hm
 go_enter Tryz.func73, Tryz.ntmps73
 go_wp2_with fail
 go_quiet (first | (go_at_call 72; refine Calls.quiet_of_same (CI.out _ _ _)))
 obtain ⟨W, hW⟩ : ∃ W, ((w.alloc (.cells #[.int .i64 ps, .int .i64 rs, .slice ca cn cc] 48)).alloc (.cells #[.int .i64 5, .int .i64 a, .int .i64 b, .int .i64 c, .slice la l.length lc, .slice va lv.length vc] 58)).drewN nq = W := ⟨_, rfl⟩
 have S1 := S.out.below (below_drewN (Below.refl _ _) nq)
 try dsimp only at S1
 rw [hW] at S1
 rw [hW]
 clear hW
 have S := hid S1
 clear S1
 obtain ⟨f0, f1, f2, x0, x1, x2, x3, x4, x5⟩ := S.out.fx.cells; obtain ⟨p0, p1, p2, pg, pcap, p4, hpr⟩ := S.out.wo.pcells; dsimp only at x0 x1 x2 x3 x4 x5
 have HK := hid (show keepsI 5 b = true from rfl)
 have HU := hid (show formB sn rn fp cn rs 5 a b c l = (insB a rs && (decide (1 ≤ b) && decide (b ≤ 4)) && insB c 16777216 && ((c == 0) || (b == 3)) && regsB l rs) from by rw [← kinds_eq]; rfl)
 have CK1 : Hid (∀ W h, Calls Tryz.prog 77 #[.pointer (some ⟨p, 0, none⟩), .agg #[.int .i64 5, .int .i64 a, .int .i64 b, .int .i64 c, .slice la l.length lc, .slice va lv.length vc]] W fun x w' => x = .returned (.bool true) ∧ Below W.heap.size W w') := hid (fun W (h : WoAt W p fa sa ra fp.length sn rn fc sc rc en) => by
  have := CK.out W h
  rwa [HK.out] at this)
 go_wp2_with (first
  | (go_at_call 77; refine (CK1.out _ S.out.wo).mono ?_; rintro e w1 ⟨rfl, hb⟩; have S := hid (S.out.below hb); clear hb f0 f1 f2 x0 x1 x2 x3 x4 x5 p0 p1 p2 p4 hpr pg pcap; obtain ⟨f0, f1, f2, x0, x1, x2, x3, x4, x5⟩ := S.out.fx.cells; obtain ⟨p0, p1, p2, pg, pcap, p4, hpr⟩ := S.out.wo.pcells; dsimp only at x0 x1 x2 x3 x4 x5)
  | (go_at_call 137; refine (CV.out _ S.out.fx.vi).mono ?_; rintro e w1 ⟨rfl, hb⟩; have S := hid (S.out.below hb); clear hb f0 f1 f2 x0 x1 x2 x3 x4 x5 p0 p1 p2 p4 hpr pg pcap; obtain ⟨f0, f1, f2, x0, x1, x2, x3, x4, x5⟩ := S.out.fx.cells; obtain ⟨p0, p1, p2, pg, pcap, p4, hpr⟩ := S.out.wo.pcells; dsimp only at x0 x1 x2 x3 x4 x5))
 clear CK CK1 CV
 go_loopw [10, 11] (fun vo vi wr => ∃ j : Nat, vi = .int .i64 j ∧ 1 ≤ j ∧ (j ≤ lv.length ∨ (j = 1 ∧ lv.length = 0)) ∧ vo = .bool (regsB lv rs && (List.range j).all (okR lv)) ∧ FoAt w wr p w.heap.size (w.heap.size + 1) fa sa ra sn rn fc sc rc en fp ps rs ca cn cc ⟨5, a, b, c, l, lv⟩ la lc va vc) (fun _ vi _ => lv.length - (intOf vi).toNat)
 case atStart => exact ⟨1, rfl, by omega, by omega, congrArg Value.bool (by rw [show (List.range 1).all (okR lv) = true from rfl, Bool.and_true]), S.out⟩
 clear S f0 f1 f2 x0 x1 x2 x3 x4 x5 p0 p1 p2 p4 hpr pg pcap
 obtain ⟨j, rfl, hj1, hj2, rfl, hS⟩ := hrel
 have S := hid hS
 have HI := hid hS.fx.vi
 clear hS
 obtain ⟨f0, f1, f2, x0, x1, x2, x3, x4, x5⟩ := S.out.fx.cells; obtain ⟨p0, p1, p2, pg, pcap, p4, hpr⟩ := S.out.wo.pcells; dsimp only at x0 x1 x2 x3 x4 x5
 obtain ⟨ok, hok⟩ : ∃ ok, (regsB lv rs && (List.range j).all (okR lv)) = ok := ⟨_, rfl⟩
 rw [hok]
 have HO := hid hok
 clear hok
 by_cases hlt : j < lv.length
 ·have HJ := hid hj2
  clear hj2 p0 p1 p2 p4 hpr pg pcap
  have hI := HI.out
  obtain ⟨bB, off, ha, c0⟩ := ints_cell hI hlt
  obtain ⟨b', off', ha', c1⟩ := ints_cell hI (show j - 1 < lv.length by omega)
  rw [ha] at ha'
  injection ha' with ha'
  injection ha' with q1 q2 _
  subst q1; subst q2; subst ha
  obtain ⟨v, hv⟩ : ∃ v, lv.getD j 0 = v := ⟨_, rfl⟩
  obtain ⟨u, hu⟩ : ∃ u, lv.getD (j - 1) 0 = u := ⟨_, rfl⟩
  rw [hv] at c0
  rw [hu] at c1
  have m1 : IntKind.i64.wrap ((j : Int) - 1) = (j : Int) - 1 := IntWalk.i64_in _ (by omega)
  have m2 : ((j : Int) - 1).toNat = j - 1 := by omega
  have m3 : decide ((j : Int) < (lv.length : Int)) = true := decide_eq_true (by omega)
  have m4 : decide (0 ≤ (j : Int) - 1) = true := decide_eq_true (by omega)
  have m5 : decide ((j : Int) - 1 < (lv.length : Int)) = true := decide_eq_true (by omega)
  have HN := hid (show okR lv j = decide (u < v) by unfold okR; rw [hv, hu, show (j == 0) = false by simp; omega]; rfl)
  clear hv hu hI
  go_wp2_with fail
  cases ok
  all_goals
   go_quiet (fail)
   go_wp2_with fail
   go_roundw
  all_goals first
   | exact ⟨j + 1, by go_num, by omega, by (have := HJ.out); omega, congrArg Value.bool (by rw [rising_next HO.out, HN.out]; first | rfl | simp), S.out.below (below_drewN (Below.refl _ _) _)⟩
   | (simp [intOf]; omega)
 have hlv : liveB 5 b lv rs = ok := by unfold liveB; rw [HK.out, ← HO.out, rising_at (by omega) hj2]; rfl
 have HL := hid hlv
 clear hlv HO HI
 have m3 : decide ((j : Int) < (lv.length : Int)) = false := decide_eq_false (by omega)
 go_upto_region 9 with fail
 go_wp2_with (first
  | (go_at_call 138; refine (CR.out _ _).mono ?_; rintro e w1 ⟨rfl, rfl⟩)
  | (go_at_call 72; refine (CI.out _ _ _).mono ?_; rintro e w1 ⟨rfl, rfl⟩)
  | (go_at_call 137; refine (CG.out _ S.out.fx.li).mono ?_; rintro e w1 ⟨rfl, hb⟩; have S := hid (S.out.below hb); clear hb f0 f1 f2 x0 x1 x2 x3 x4 x5 p0 p1 p2 p4 hpr pg pcap; obtain ⟨f0, f1, f2, x0, x1, x2, x3, x4, x5⟩ := S.out.fx.cells; obtain ⟨p0, p1, p2, pg, pcap, p4, hpr⟩ := S.out.wo.pcells; dsimp only at x0 x1 x2 x3 x4 x5)
  | (go_at_call 139; refine (CE.out _ S.out.wo S.out.fs S.out.fx.li S.out.fx.vi).mono ?_; rintro e w1 ⟨rfl, hb⟩; have S := hid (S.out.below hb); clear hb f0 f1 f2 x0 x1 x2 x3 x4 x5 p0 p1 p2 p4 hpr pg pcap; obtain ⟨f0, f1, f2, x0, x1, x2, x3, x4, x5⟩ := S.out.fx.cells; obtain ⟨p0, p1, p2, pg, pcap, p4, hpr⟩ := S.out.wo.pcells; dsimp only at x0 x1 x2 x3 x4 x5))
 all_goals (go_ret; exact ⟨ret_bool (by rw [HL.out, HU.out]; first | (simp [*]; done) | (have i0 := ins0; simp [*]; done) | (simp [*]; intros; omega)), S.out.fx.b⟩)
set_option maxHeartbeats 8000000 in
set_option maxRecDepth 8000 in
theorem form_6  (p : Nat) (fa sa ra : Option Addr) (sn rn fc sc rc : Nat) (en : Int) (fp : List Int) (ps rs : Int) (ca : Option Addr) (cn cc : Nat) (a b c : Int) (l lv : List Int) (la : Option Addr) (lc : Nat) (va : Option Addr) (vc : Nat) (w : World) (hW : WoAt w p fa sa ra fp.length sn rn fc sc rc en) (hf : PsAt w fa fp) (hl : IntsAt .i64 w la l) (hv : IntsAt .i64 w va lv) (hcn : cn ≤ 1000000000) :
  Calls Tryz.prog 73 #[.pointer (some ⟨p, 0, none⟩), .agg #[.int .i64 ps, .int .i64 rs, .slice ca cn cc], .agg #[.int .i64 6, .int .i64 a, .int .i64 b, .int .i64 c, .slice la l.length lc, .slice va lv.length vc]] w fun e w' => e = .returned (.bool (liveB 6 b lv rs && formB sn rn fp cn rs 6 a b c l)) ∧ Below w.heap.size w w' := by
 have S := hid (fo_start (x := ⟨6, a, b, c, l, lv⟩) hW hf hl hv ps rs ca cn cc lc vc)
 have CI := hid (fun n e W => inside_any n e W)
 have CK := hid (fun W h => keeps_any p fa sa ra fp.length sn rn fc sc rc en 6 a b c la va l.length lc lv.length vc W h)
 have CV := hid (fun W h => regs_any va lv vc ps rs ca cn cc W h)
 have CG := hid (fun W h => regs_any la l lc ps rs ca cn cc W h)
 have CR := hid (fun n W => right_any n W)
 have hm := hv.1
 have hm2 : (lv.length : Int) ≤ 9223372036854775807 := by unfold maxLen at hm; omega
 clear hW hf hl hv hm
 go_enter Tryz.func73, Tryz.ntmps73
 go_wp2_with fail
 go_quiet (first | (go_at_call 72; refine Calls.quiet_of_same (CI.out _ _ _)))
 obtain ⟨W, hW⟩ : ∃ W, ((w.alloc (.cells #[.int .i64 ps, .int .i64 rs, .slice ca cn cc] 48)).alloc (.cells #[.int .i64 6, .int .i64 a, .int .i64 b, .int .i64 c, .slice la l.length lc, .slice va lv.length vc] 58)).drewN nq = W := ⟨_, rfl⟩
 have S1 := S.out.below (below_drewN (Below.refl _ _) nq)
 try dsimp only at S1
 rw [hW] at S1
 rw [hW]
 clear hW
 have S := hid S1
 clear S1
 obtain ⟨f0, f1, f2, x0, x1, x2, x3, x4, x5⟩ := S.out.fx.cells; obtain ⟨p0, p1, p2, pg, pcap, p4, hpr⟩ := S.out.wo.pcells; dsimp only at x0 x1 x2 x3 x4 x5
 have HK := hid (show keepsI 6 b = false from rfl)
 have HU := hid (show formB sn rn fp cn rs 6 a b c l = (insB a rs && insB b rs && insB c 4194305 && ((l.length : Int) == 0)) from rfl)
 have CK1 : Hid (∀ W h, Calls Tryz.prog 77 #[.pointer (some ⟨p, 0, none⟩), .agg #[.int .i64 6, .int .i64 a, .int .i64 b, .int .i64 c, .slice la l.length lc, .slice va lv.length vc]] W fun x w' => x = .returned (.bool false) ∧ Below W.heap.size W w') := hid (fun W (h : WoAt W p fa sa ra fp.length sn rn fc sc rc en) => by
  have := CK.out W h
  rwa [HK.out] at this)
 go_upto_region 9 with (first | (go_at_call 77; refine (CK1.out _ S.out.wo).mono ?_; rintro e w1 ⟨rfl, hb⟩; have S := hid (S.out.below hb); clear hb f0 f1 f2 x0 x1 x2 x3 x4 x5 p0 p1 p2 p4 hpr pg pcap; obtain ⟨f0, f1, f2, x0, x1, x2, x3, x4, x5⟩ := S.out.fx.cells; obtain ⟨p0, p1, p2, pg, pcap, p4, hpr⟩ := S.out.wo.pcells; dsimp only at x0 x1 x2 x3 x4 x5))
 obtain ⟨ok, hok⟩ : ∃ ok, ((lv.length : Int) == 0) = ok := ⟨_, rfl⟩
 have hlv : liveB 6 b lv rs = ok := by unfold liveB; rw [HK.out]; simpa using hok
 rw [hok]
 have HL := hid hlv
 clear hlv hok CK CK1 CV
 go_wp2_with (first
  | (go_at_call 138; refine (CR.out _ _).mono ?_; rintro e w1 ⟨rfl, rfl⟩)
  | (go_at_call 72; refine (CI.out _ _ _).mono ?_; rintro e w1 ⟨rfl, rfl⟩)
  | (go_at_call 137; refine (CG.out _ S.out.fx.li).mono ?_; rintro e w1 ⟨rfl, hb⟩; have S := hid (S.out.below hb); clear hb f0 f1 f2 x0 x1 x2 x3 x4 x5 p0 p1 p2 p4 hpr pg pcap; obtain ⟨f0, f1, f2, x0, x1, x2, x3, x4, x5⟩ := S.out.fx.cells; obtain ⟨p0, p1, p2, pg, pcap, p4, hpr⟩ := S.out.wo.pcells; dsimp only at x0 x1 x2 x3 x4 x5)
  | (go_at_call 139; refine (CE.out _ S.out.wo S.out.fs S.out.fx.li S.out.fx.vi).mono ?_; rintro e w1 ⟨rfl, hb⟩; have S := hid (S.out.below hb); clear hb f0 f1 f2 x0 x1 x2 x3 x4 x5 p0 p1 p2 p4 hpr pg pcap; obtain ⟨f0, f1, f2, x0, x1, x2, x3, x4, x5⟩ := S.out.fx.cells; obtain ⟨p0, p1, p2, pg, pcap, p4, hpr⟩ := S.out.wo.pcells; dsimp only at x0 x1 x2 x3 x4 x5))
 all_goals (go_ret; exact ⟨ret_bool (by rw [HL.out, HU.out]; first | (simp [*]; done) | (have i0 := ins0; simp [*]; done) | (simp [*]; intros; omega)), S.out.fx.b⟩)
set_option maxHeartbeats 8000000 in
set_option maxRecDepth 8000 in
theorem form_7  (p : Nat) (fa sa ra : Option Addr) (sn rn fc sc rc : Nat) (en : Int) (fp : List Int) (ps rs : Int) (ca : Option Addr) (cn cc : Nat) (a b c : Int) (l lv : List Int) (la : Option Addr) (lc : Nat) (va : Option Addr) (vc : Nat) (w : World) (hW : WoAt w p fa sa ra fp.length sn rn fc sc rc en) (hf : PsAt w fa fp) (hl : IntsAt .i64 w la l) (hv : IntsAt .i64 w va lv) (hcn : cn ≤ 1000000000) :
  Calls Tryz.prog 73 #[.pointer (some ⟨p, 0, none⟩), .agg #[.int .i64 ps, .int .i64 rs, .slice ca cn cc], .agg #[.int .i64 7, .int .i64 a, .int .i64 b, .int .i64 c, .slice la l.length lc, .slice va lv.length vc]] w fun e w' => e = .returned (.bool (liveB 7 b lv rs && formB sn rn fp cn rs 7 a b c l)) ∧ Below w.heap.size w w' := by
 have S := hid (fo_start (x := ⟨7, a, b, c, l, lv⟩) hW hf hl hv ps rs ca cn cc lc vc)
 have CI := hid (fun n e W => inside_any n e W)
 have CK := hid (fun W h => keeps_any p fa sa ra fp.length sn rn fc sc rc en 7 a b c la va l.length lc lv.length vc W h)
 have CV := hid (fun W h => regs_any va lv vc ps rs ca cn cc W h)
 have CG := hid (fun W h => regs_any la l lc ps rs ca cn cc W h)
 have CR := hid (fun n W => right_any n W)
 have hm := hv.1
 have hm2 : (lv.length : Int) ≤ 9223372036854775807 := by unfold maxLen at hm; omega
 clear hW hf hl hv hm
 go_enter Tryz.func73, Tryz.ntmps73
 go_wp2_with fail
 go_quiet (first | (go_at_call 72; refine Calls.quiet_of_same (CI.out _ _ _)))
 obtain ⟨W, hW⟩ : ∃ W, ((w.alloc (.cells #[.int .i64 ps, .int .i64 rs, .slice ca cn cc] 48)).alloc (.cells #[.int .i64 7, .int .i64 a, .int .i64 b, .int .i64 c, .slice la l.length lc, .slice va lv.length vc] 58)).drewN nq = W := ⟨_, rfl⟩
 have S1 := S.out.below (below_drewN (Below.refl _ _) nq)
 try dsimp only at S1
 rw [hW] at S1
 rw [hW]
 clear hW
 have S := hid S1
 clear S1
 obtain ⟨f0, f1, f2, x0, x1, x2, x3, x4, x5⟩ := S.out.fx.cells; obtain ⟨p0, p1, p2, pg, pcap, p4, hpr⟩ := S.out.wo.pcells; dsimp only at x0 x1 x2 x3 x4 x5
 have HK := hid (show keepsI 7 b = false from rfl)
 have HU := hid (show formB sn rn fp cn rs 7 a b c l = (insB a rs && insB b rs && insB c 4194305 && ((l.length : Int) == 0)) from rfl)
 have CK1 : Hid (∀ W h, Calls Tryz.prog 77 #[.pointer (some ⟨p, 0, none⟩), .agg #[.int .i64 7, .int .i64 a, .int .i64 b, .int .i64 c, .slice la l.length lc, .slice va lv.length vc]] W fun x w' => x = .returned (.bool false) ∧ Below W.heap.size W w') := hid (fun W (h : WoAt W p fa sa ra fp.length sn rn fc sc rc en) => by
  have := CK.out W h
  rwa [HK.out] at this)
 go_upto_region 9 with (first | (go_at_call 77; refine (CK1.out _ S.out.wo).mono ?_; rintro e w1 ⟨rfl, hb⟩; have S := hid (S.out.below hb); clear hb f0 f1 f2 x0 x1 x2 x3 x4 x5 p0 p1 p2 p4 hpr pg pcap; obtain ⟨f0, f1, f2, x0, x1, x2, x3, x4, x5⟩ := S.out.fx.cells; obtain ⟨p0, p1, p2, pg, pcap, p4, hpr⟩ := S.out.wo.pcells; dsimp only at x0 x1 x2 x3 x4 x5))
 obtain ⟨ok, hok⟩ : ∃ ok, ((lv.length : Int) == 0) = ok := ⟨_, rfl⟩
 have hlv : liveB 7 b lv rs = ok := by unfold liveB; rw [HK.out]; simpa using hok
 rw [hok]
 have HL := hid hlv
 clear hlv hok CK CK1 CV
 go_wp2_with (first
  | (go_at_call 138; refine (CR.out _ _).mono ?_; rintro e w1 ⟨rfl, rfl⟩)
  | (go_at_call 72; refine (CI.out _ _ _).mono ?_; rintro e w1 ⟨rfl, rfl⟩)
  | (go_at_call 137; refine (CG.out _ S.out.fx.li).mono ?_; rintro e w1 ⟨rfl, hb⟩; have S := hid (S.out.below hb); clear hb f0 f1 f2 x0 x1 x2 x3 x4 x5 p0 p1 p2 p4 hpr pg pcap; obtain ⟨f0, f1, f2, x0, x1, x2, x3, x4, x5⟩ := S.out.fx.cells; obtain ⟨p0, p1, p2, pg, pcap, p4, hpr⟩ := S.out.wo.pcells; dsimp only at x0 x1 x2 x3 x4 x5)
  | (go_at_call 139; refine (CE.out _ S.out.wo S.out.fs S.out.fx.li S.out.fx.vi).mono ?_; rintro e w1 ⟨rfl, hb⟩; have S := hid (S.out.below hb); clear hb f0 f1 f2 x0 x1 x2 x3 x4 x5 p0 p1 p2 p4 hpr pg pcap; obtain ⟨f0, f1, f2, x0, x1, x2, x3, x4, x5⟩ := S.out.fx.cells; obtain ⟨p0, p1, p2, pg, pcap, p4, hpr⟩ := S.out.wo.pcells; dsimp only at x0 x1 x2 x3 x4 x5))
 all_goals (go_ret; exact ⟨ret_bool (by rw [HL.out, HU.out]; first | (simp [*]; done) | (have i0 := ins0; simp [*]; done) | (simp [*]; intros; omega)), S.out.fx.b⟩)
set_option maxHeartbeats 8000000 in
set_option maxRecDepth 8000 in
theorem form_9  (p : Nat) (fa sa ra : Option Addr) (sn rn fc sc rc : Nat) (en : Int) (fp : List Int) (ps rs : Int) (ca : Option Addr) (cn cc : Nat) (a b c : Int) (l lv : List Int) (la : Option Addr) (lc : Nat) (va : Option Addr) (vc : Nat) (w : World) (hW : WoAt w p fa sa ra fp.length sn rn fc sc rc en) (hf : PsAt w fa fp) (hl : IntsAt .i64 w la l) (hv : IntsAt .i64 w va lv) (hcn : cn ≤ 1000000000) :
  Calls Tryz.prog 73 #[.pointer (some ⟨p, 0, none⟩), .agg #[.int .i64 ps, .int .i64 rs, .slice ca cn cc], .agg #[.int .i64 9, .int .i64 a, .int .i64 b, .int .i64 c, .slice la l.length lc, .slice va lv.length vc]] w fun e w' => e = .returned (.bool (liveB 9 b lv rs && formB sn rn fp cn rs 9 a b c l)) ∧ Below w.heap.size w w' := by
 have S := hid (fo_start (x := ⟨9, a, b, c, l, lv⟩) hW hf hl hv ps rs ca cn cc lc vc)
 have CI := hid (fun n e W => inside_any n e W)
 have CK := hid (fun W h => keeps_any p fa sa ra fp.length sn rn fc sc rc en 9 a b c la va l.length lc lv.length vc W h)
 have CV := hid (fun W h => regs_any va lv vc ps rs ca cn cc W h)
 have CG := hid (fun W h => regs_any la l lc ps rs ca cn cc W h)
 have CR := hid (fun n W => right_any n W)
 have hm := hv.1
 have hm2 : (lv.length : Int) ≤ 9223372036854775807 := by unfold maxLen at hm; omega
 clear hW hf hl hv hm
 go_enter Tryz.func73, Tryz.ntmps73
 go_wp2_with fail
 go_quiet (first | (go_at_call 72; refine Calls.quiet_of_same (CI.out _ _ _)))
 obtain ⟨W, hW⟩ : ∃ W, ((w.alloc (.cells #[.int .i64 ps, .int .i64 rs, .slice ca cn cc] 48)).alloc (.cells #[.int .i64 9, .int .i64 a, .int .i64 b, .int .i64 c, .slice la l.length lc, .slice va lv.length vc] 58)).drewN nq = W := ⟨_, rfl⟩
 have S1 := S.out.below (below_drewN (Below.refl _ _) nq)
 try dsimp only at S1
 rw [hW] at S1
 rw [hW]
 clear hW
 have S := hid S1
 clear S1
 obtain ⟨f0, f1, f2, x0, x1, x2, x3, x4, x5⟩ := S.out.fx.cells; obtain ⟨p0, p1, p2, pg, pcap, p4, hpr⟩ := S.out.wo.pcells; dsimp only at x0 x1 x2 x3 x4 x5
 have HK := hid (show keepsI 9 b = false from rfl)
 obtain ⟨fb, hfb⟩ : ∃ fb, formB sn rn fp cn rs 9 a b c l = fb := ⟨_, rfl⟩
 have HU := hid hfb
 have CE := hid (fun W h1 h2 h3 h4 => ending_9 p fa sa ra sn rn fc sc rc en fp ps rs ca cn cc a b c l lv la lc va vc W h1 h2 h3 h4 hcn)
 rw [hfb] at CE
 clear hfb
 have CK1 : Hid (∀ W h, Calls Tryz.prog 77 #[.pointer (some ⟨p, 0, none⟩), .agg #[.int .i64 9, .int .i64 a, .int .i64 b, .int .i64 c, .slice la l.length lc, .slice va lv.length vc]] W fun x w' => x = .returned (.bool false) ∧ Below W.heap.size W w') := hid (fun W (h : WoAt W p fa sa ra fp.length sn rn fc sc rc en) => by
  have := CK.out W h
  rwa [HK.out] at this)
 go_upto_region 9 with (first | (go_at_call 77; refine (CK1.out _ S.out.wo).mono ?_; rintro e w1 ⟨rfl, hb⟩; have S := hid (S.out.below hb); clear hb f0 f1 f2 x0 x1 x2 x3 x4 x5 p0 p1 p2 p4 hpr pg pcap; obtain ⟨f0, f1, f2, x0, x1, x2, x3, x4, x5⟩ := S.out.fx.cells; obtain ⟨p0, p1, p2, pg, pcap, p4, hpr⟩ := S.out.wo.pcells; dsimp only at x0 x1 x2 x3 x4 x5))
 obtain ⟨ok, hok⟩ : ∃ ok, ((lv.length : Int) == 0) = ok := ⟨_, rfl⟩
 have hlv : liveB 9 b lv rs = ok := by unfold liveB; rw [HK.out]; simpa using hok
 rw [hok]
 have HL := hid hlv
 clear hlv hok CK CK1 CV
 go_wp2_with (first
  | (go_at_call 138; refine (CR.out _ _).mono ?_; rintro e w1 ⟨rfl, rfl⟩)
  | (go_at_call 72; refine (CI.out _ _ _).mono ?_; rintro e w1 ⟨rfl, rfl⟩)
  | (go_at_call 137; refine (CG.out _ S.out.fx.li).mono ?_; rintro e w1 ⟨rfl, hb⟩; have S := hid (S.out.below hb); clear hb f0 f1 f2 x0 x1 x2 x3 x4 x5 p0 p1 p2 p4 hpr pg pcap; obtain ⟨f0, f1, f2, x0, x1, x2, x3, x4, x5⟩ := S.out.fx.cells; obtain ⟨p0, p1, p2, pg, pcap, p4, hpr⟩ := S.out.wo.pcells; dsimp only at x0 x1 x2 x3 x4 x5)
  | (go_at_call 139; refine (CE.out _ S.out.wo S.out.fs S.out.fx.li S.out.fx.vi).mono ?_; rintro e w1 ⟨rfl, hb⟩; have S := hid (S.out.below hb); clear hb f0 f1 f2 x0 x1 x2 x3 x4 x5 p0 p1 p2 p4 hpr pg pcap; obtain ⟨f0, f1, f2, x0, x1, x2, x3, x4, x5⟩ := S.out.fx.cells; obtain ⟨p0, p1, p2, pg, pcap, p4, hpr⟩ := S.out.wo.pcells; dsimp only at x0 x1 x2 x3 x4 x5))
 all_goals (go_ret; exact ⟨ret_bool (by rw [HL.out, HU.out]; first | (simp [*]; done) | (have i0 := ins0; simp [*]; done) | (simp [*]; intros; omega)), S.out.fx.b⟩)
set_option maxHeartbeats 8000000 in
set_option maxRecDepth 8000 in
theorem form_10  (p : Nat) (fa sa ra : Option Addr) (sn rn fc sc rc : Nat) (en : Int) (fp : List Int) (ps rs : Int) (ca : Option Addr) (cn cc : Nat) (a b c : Int) (l lv : List Int) (la : Option Addr) (lc : Nat) (va : Option Addr) (vc : Nat) (w : World) (hW : WoAt w p fa sa ra fp.length sn rn fc sc rc en) (hf : PsAt w fa fp) (hl : IntsAt .i64 w la l) (hv : IntsAt .i64 w va lv) (hcn : cn ≤ 1000000000) :
  Calls Tryz.prog 73 #[.pointer (some ⟨p, 0, none⟩), .agg #[.int .i64 ps, .int .i64 rs, .slice ca cn cc], .agg #[.int .i64 10, .int .i64 a, .int .i64 b, .int .i64 c, .slice la l.length lc, .slice va lv.length vc]] w fun e w' => e = .returned (.bool (liveB 10 b lv rs && formB sn rn fp cn rs 10 a b c l)) ∧ Below w.heap.size w w' := by
 have S := hid (fo_start (x := ⟨10, a, b, c, l, lv⟩) hW hf hl hv ps rs ca cn cc lc vc)
 have CI := hid (fun n e W => inside_any n e W)
 have CK := hid (fun W h => keeps_any p fa sa ra fp.length sn rn fc sc rc en 10 a b c la va l.length lc lv.length vc W h)
 have CV := hid (fun W h => regs_any va lv vc ps rs ca cn cc W h)
 have CG := hid (fun W h => regs_any la l lc ps rs ca cn cc W h)
 have CR := hid (fun n W => right_any n W)
 have hm := hv.1
 have hm2 : (lv.length : Int) ≤ 9223372036854775807 := by unfold maxLen at hm; omega
 clear hW hf hl hv hm
 go_enter Tryz.func73, Tryz.ntmps73
 go_wp2_with fail
 go_quiet (first | (go_at_call 72; refine Calls.quiet_of_same (CI.out _ _ _)))
 obtain ⟨W, hW⟩ : ∃ W, ((w.alloc (.cells #[.int .i64 ps, .int .i64 rs, .slice ca cn cc] 48)).alloc (.cells #[.int .i64 10, .int .i64 a, .int .i64 b, .int .i64 c, .slice la l.length lc, .slice va lv.length vc] 58)).drewN nq = W := ⟨_, rfl⟩
 have S1 := S.out.below (below_drewN (Below.refl _ _) nq)
 try dsimp only at S1
 rw [hW] at S1
 rw [hW]
 clear hW
 have S := hid S1
 clear S1
 obtain ⟨f0, f1, f2, x0, x1, x2, x3, x4, x5⟩ := S.out.fx.cells; obtain ⟨p0, p1, p2, pg, pcap, p4, hpr⟩ := S.out.wo.pcells; dsimp only at x0 x1 x2 x3 x4 x5
 have HK := hid (show keepsI 10 b = false from rfl)
 obtain ⟨fb, hfb⟩ : ∃ fb, formB sn rn fp cn rs 10 a b c l = fb := ⟨_, rfl⟩
 have HU := hid hfb
 have CE := hid (fun W h1 h2 h3 h4 => ending_10 p fa sa ra sn rn fc sc rc en fp ps rs ca cn cc a b c l lv la lc va vc W h1 h2 h3 h4 hcn)
 rw [hfb] at CE
 clear hfb
 have CK1 : Hid (∀ W h, Calls Tryz.prog 77 #[.pointer (some ⟨p, 0, none⟩), .agg #[.int .i64 10, .int .i64 a, .int .i64 b, .int .i64 c, .slice la l.length lc, .slice va lv.length vc]] W fun x w' => x = .returned (.bool false) ∧ Below W.heap.size W w') := hid (fun W (h : WoAt W p fa sa ra fp.length sn rn fc sc rc en) => by
  have := CK.out W h
  rwa [HK.out] at this)
 go_upto_region 9 with (first | (go_at_call 77; refine (CK1.out _ S.out.wo).mono ?_; rintro e w1 ⟨rfl, hb⟩; have S := hid (S.out.below hb); clear hb f0 f1 f2 x0 x1 x2 x3 x4 x5 p0 p1 p2 p4 hpr pg pcap; obtain ⟨f0, f1, f2, x0, x1, x2, x3, x4, x5⟩ := S.out.fx.cells; obtain ⟨p0, p1, p2, pg, pcap, p4, hpr⟩ := S.out.wo.pcells; dsimp only at x0 x1 x2 x3 x4 x5))
 obtain ⟨ok, hok⟩ : ∃ ok, ((lv.length : Int) == 0) = ok := ⟨_, rfl⟩
 have hlv : liveB 10 b lv rs = ok := by unfold liveB; rw [HK.out]; simpa using hok
 rw [hok]
 have HL := hid hlv
 clear hlv hok CK CK1 CV
 go_wp2_with (first
  | (go_at_call 138; refine (CR.out _ _).mono ?_; rintro e w1 ⟨rfl, rfl⟩)
  | (go_at_call 72; refine (CI.out _ _ _).mono ?_; rintro e w1 ⟨rfl, rfl⟩)
  | (go_at_call 137; refine (CG.out _ S.out.fx.li).mono ?_; rintro e w1 ⟨rfl, hb⟩; have S := hid (S.out.below hb); clear hb f0 f1 f2 x0 x1 x2 x3 x4 x5 p0 p1 p2 p4 hpr pg pcap; obtain ⟨f0, f1, f2, x0, x1, x2, x3, x4, x5⟩ := S.out.fx.cells; obtain ⟨p0, p1, p2, pg, pcap, p4, hpr⟩ := S.out.wo.pcells; dsimp only at x0 x1 x2 x3 x4 x5)
  | (go_at_call 139; refine (CE.out _ S.out.wo S.out.fs S.out.fx.li S.out.fx.vi).mono ?_; rintro e w1 ⟨rfl, hb⟩; have S := hid (S.out.below hb); clear hb f0 f1 f2 x0 x1 x2 x3 x4 x5 p0 p1 p2 p4 hpr pg pcap; obtain ⟨f0, f1, f2, x0, x1, x2, x3, x4, x5⟩ := S.out.fx.cells; obtain ⟨p0, p1, p2, pg, pcap, p4, hpr⟩ := S.out.wo.pcells; dsimp only at x0 x1 x2 x3 x4 x5))
 all_goals (go_ret; exact ⟨ret_bool (by rw [HL.out, HU.out]; first | (simp [*]; done) | (have i0 := ins0; simp [*]; done) | (simp [*]; intros; omega)), S.out.fx.b⟩)
set_option maxHeartbeats 8000000 in
set_option maxRecDepth 8000 in
theorem form_11  (p : Nat) (fa sa ra : Option Addr) (sn rn fc sc rc : Nat) (en : Int) (fp : List Int) (ps rs : Int) (ca : Option Addr) (cn cc : Nat) (a b c : Int) (l lv : List Int) (la : Option Addr) (lc : Nat) (va : Option Addr) (vc : Nat) (w : World) (hW : WoAt w p fa sa ra fp.length sn rn fc sc rc en) (hf : PsAt w fa fp) (hl : IntsAt .i64 w la l) (hv : IntsAt .i64 w va lv) (hcn : cn ≤ 1000000000) :
  Calls Tryz.prog 73 #[.pointer (some ⟨p, 0, none⟩), .agg #[.int .i64 ps, .int .i64 rs, .slice ca cn cc], .agg #[.int .i64 11, .int .i64 a, .int .i64 b, .int .i64 c, .slice la l.length lc, .slice va lv.length vc]] w fun e w' => e = .returned (.bool (liveB 11 b lv rs && formB sn rn fp cn rs 11 a b c l)) ∧ Below w.heap.size w w' := by
 have S := hid (fo_start (x := ⟨11, a, b, c, l, lv⟩) hW hf hl hv ps rs ca cn cc lc vc)
 have CI := hid (fun n e W => inside_any n e W)
 have CK := hid (fun W h => keeps_any p fa sa ra fp.length sn rn fc sc rc en 11 a b c la va l.length lc lv.length vc W h)
 have CV := hid (fun W h => regs_any va lv vc ps rs ca cn cc W h)
 have CG := hid (fun W h => regs_any la l lc ps rs ca cn cc W h)
 have CR := hid (fun n W => right_any n W)
 have hm := hv.1
 have hm2 : (lv.length : Int) ≤ 9223372036854775807 := by unfold maxLen at hm; omega
 clear hW hf hl hv hm
 go_enter Tryz.func73, Tryz.ntmps73
 go_wp2_with fail
 go_quiet (first | (go_at_call 72; refine Calls.quiet_of_same (CI.out _ _ _)))
 obtain ⟨W, hW⟩ : ∃ W, ((w.alloc (.cells #[.int .i64 ps, .int .i64 rs, .slice ca cn cc] 48)).alloc (.cells #[.int .i64 11, .int .i64 a, .int .i64 b, .int .i64 c, .slice la l.length lc, .slice va lv.length vc] 58)).drewN nq = W := ⟨_, rfl⟩
 have S1 := S.out.below (below_drewN (Below.refl _ _) nq)
 try dsimp only at S1
 rw [hW] at S1
 rw [hW]
 clear hW
 have S := hid S1
 clear S1
 obtain ⟨f0, f1, f2, x0, x1, x2, x3, x4, x5⟩ := S.out.fx.cells; obtain ⟨p0, p1, p2, pg, pcap, p4, hpr⟩ := S.out.wo.pcells; dsimp only at x0 x1 x2 x3 x4 x5
 have HK := hid (show keepsI 11 b = false from rfl)
 obtain ⟨fb, hfb⟩ : ∃ fb, formB sn rn fp cn rs 11 a b c l = fb := ⟨_, rfl⟩
 have HU := hid hfb
 have CE := hid (fun W h1 h2 h3 h4 => ending_11 p fa sa ra sn rn fc sc rc en fp ps rs ca cn cc a b c l lv la lc va vc W h1 h2 h3 h4 hcn)
 rw [hfb] at CE
 clear hfb
 have CK1 : Hid (∀ W h, Calls Tryz.prog 77 #[.pointer (some ⟨p, 0, none⟩), .agg #[.int .i64 11, .int .i64 a, .int .i64 b, .int .i64 c, .slice la l.length lc, .slice va lv.length vc]] W fun x w' => x = .returned (.bool false) ∧ Below W.heap.size W w') := hid (fun W (h : WoAt W p fa sa ra fp.length sn rn fc sc rc en) => by
  have := CK.out W h
  rwa [HK.out] at this)
 go_upto_region 9 with (first | (go_at_call 77; refine (CK1.out _ S.out.wo).mono ?_; rintro e w1 ⟨rfl, hb⟩; have S := hid (S.out.below hb); clear hb f0 f1 f2 x0 x1 x2 x3 x4 x5 p0 p1 p2 p4 hpr pg pcap; obtain ⟨f0, f1, f2, x0, x1, x2, x3, x4, x5⟩ := S.out.fx.cells; obtain ⟨p0, p1, p2, pg, pcap, p4, hpr⟩ := S.out.wo.pcells; dsimp only at x0 x1 x2 x3 x4 x5))
 obtain ⟨ok, hok⟩ : ∃ ok, ((lv.length : Int) == 0) = ok := ⟨_, rfl⟩
 have hlv : liveB 11 b lv rs = ok := by unfold liveB; rw [HK.out]; simpa using hok
 rw [hok]
 have HL := hid hlv
 clear hlv hok CK CK1 CV
 go_wp2_with (first
  | (go_at_call 138; refine (CR.out _ _).mono ?_; rintro e w1 ⟨rfl, rfl⟩)
  | (go_at_call 72; refine (CI.out _ _ _).mono ?_; rintro e w1 ⟨rfl, rfl⟩)
  | (go_at_call 137; refine (CG.out _ S.out.fx.li).mono ?_; rintro e w1 ⟨rfl, hb⟩; have S := hid (S.out.below hb); clear hb f0 f1 f2 x0 x1 x2 x3 x4 x5 p0 p1 p2 p4 hpr pg pcap; obtain ⟨f0, f1, f2, x0, x1, x2, x3, x4, x5⟩ := S.out.fx.cells; obtain ⟨p0, p1, p2, pg, pcap, p4, hpr⟩ := S.out.wo.pcells; dsimp only at x0 x1 x2 x3 x4 x5)
  | (go_at_call 139; refine (CE.out _ S.out.wo S.out.fs S.out.fx.li S.out.fx.vi).mono ?_; rintro e w1 ⟨rfl, hb⟩; have S := hid (S.out.below hb); clear hb f0 f1 f2 x0 x1 x2 x3 x4 x5 p0 p1 p2 p4 hpr pg pcap; obtain ⟨f0, f1, f2, x0, x1, x2, x3, x4, x5⟩ := S.out.fx.cells; obtain ⟨p0, p1, p2, pg, pcap, p4, hpr⟩ := S.out.wo.pcells; dsimp only at x0 x1 x2 x3 x4 x5))
 all_goals (go_ret; exact ⟨ret_bool (by rw [HL.out, HU.out]; first | (simp [*]; done) | (have i0 := ins0; simp [*]; done) | (simp [*]; intros; omega)), S.out.fx.b⟩)
set_option maxHeartbeats 8000000 in
set_option maxRecDepth 8000 in
theorem form_12  (p : Nat) (fa sa ra : Option Addr) (sn rn fc sc rc : Nat) (en : Int) (fp : List Int) (ps rs : Int) (ca : Option Addr) (cn cc : Nat) (a b c : Int) (l lv : List Int) (la : Option Addr) (lc : Nat) (va : Option Addr) (vc : Nat) (w : World) (hW : WoAt w p fa sa ra fp.length sn rn fc sc rc en) (hf : PsAt w fa fp) (hl : IntsAt .i64 w la l) (hv : IntsAt .i64 w va lv) (hcn : cn ≤ 1000000000) :
  Calls Tryz.prog 73 #[.pointer (some ⟨p, 0, none⟩), .agg #[.int .i64 ps, .int .i64 rs, .slice ca cn cc], .agg #[.int .i64 12, .int .i64 a, .int .i64 b, .int .i64 c, .slice la l.length lc, .slice va lv.length vc]] w fun e w' => e = .returned (.bool (liveB 12 b lv rs && formB sn rn fp cn rs 12 a b c l)) ∧ Below w.heap.size w w' := by
 have S := hid (fo_start (x := ⟨12, a, b, c, l, lv⟩) hW hf hl hv ps rs ca cn cc lc vc)
 have CI := hid (fun n e W => inside_any n e W)
 have CK := hid (fun W h => keeps_any p fa sa ra fp.length sn rn fc sc rc en 12 a b c la va l.length lc lv.length vc W h)
 have CV := hid (fun W h => regs_any va lv vc ps rs ca cn cc W h)
 have CG := hid (fun W h => regs_any la l lc ps rs ca cn cc W h)
 have CR := hid (fun n W => right_any n W)
 have hm := hv.1
 have hm2 : (lv.length : Int) ≤ 9223372036854775807 := by unfold maxLen at hm; omega
 clear hW hf hl hv hm
 go_enter Tryz.func73, Tryz.ntmps73
 go_wp2_with fail
 go_quiet (first | (go_at_call 72; refine Calls.quiet_of_same (CI.out _ _ _)))
 obtain ⟨W, hW⟩ : ∃ W, ((w.alloc (.cells #[.int .i64 ps, .int .i64 rs, .slice ca cn cc] 48)).alloc (.cells #[.int .i64 12, .int .i64 a, .int .i64 b, .int .i64 c, .slice la l.length lc, .slice va lv.length vc] 58)).drewN nq = W := ⟨_, rfl⟩
 have S1 := S.out.below (below_drewN (Below.refl _ _) nq)
 try dsimp only at S1
 rw [hW] at S1
 rw [hW]
 clear hW
 have S := hid S1
 clear S1
 obtain ⟨f0, f1, f2, x0, x1, x2, x3, x4, x5⟩ := S.out.fx.cells; obtain ⟨p0, p1, p2, pg, pcap, p4, hpr⟩ := S.out.wo.pcells; dsimp only at x0 x1 x2 x3 x4 x5
 have HK := hid (show keepsI 12 b = false from rfl)
 obtain ⟨fb, hfb⟩ : ∃ fb, formB sn rn fp cn rs 12 a b c l = fb := ⟨_, rfl⟩
 have HU := hid hfb
 have CE := hid (fun W h1 h2 h3 h4 => ending_12 p fa sa ra sn rn fc sc rc en fp ps rs ca cn cc a b c l lv la lc va vc W h1 h2 h3 h4 hcn)
 rw [hfb] at CE
 clear hfb
 have CK1 : Hid (∀ W h, Calls Tryz.prog 77 #[.pointer (some ⟨p, 0, none⟩), .agg #[.int .i64 12, .int .i64 a, .int .i64 b, .int .i64 c, .slice la l.length lc, .slice va lv.length vc]] W fun x w' => x = .returned (.bool false) ∧ Below W.heap.size W w') := hid (fun W (h : WoAt W p fa sa ra fp.length sn rn fc sc rc en) => by
  have := CK.out W h
  rwa [HK.out] at this)
 go_upto_region 9 with (first | (go_at_call 77; refine (CK1.out _ S.out.wo).mono ?_; rintro e w1 ⟨rfl, hb⟩; have S := hid (S.out.below hb); clear hb f0 f1 f2 x0 x1 x2 x3 x4 x5 p0 p1 p2 p4 hpr pg pcap; obtain ⟨f0, f1, f2, x0, x1, x2, x3, x4, x5⟩ := S.out.fx.cells; obtain ⟨p0, p1, p2, pg, pcap, p4, hpr⟩ := S.out.wo.pcells; dsimp only at x0 x1 x2 x3 x4 x5))
 obtain ⟨ok, hok⟩ : ∃ ok, ((lv.length : Int) == 0) = ok := ⟨_, rfl⟩
 have hlv : liveB 12 b lv rs = ok := by unfold liveB; rw [HK.out]; simpa using hok
 rw [hok]
 have HL := hid hlv
 clear hlv hok CK CK1 CV
 go_wp2_with (first
  | (go_at_call 138; refine (CR.out _ _).mono ?_; rintro e w1 ⟨rfl, rfl⟩)
  | (go_at_call 72; refine (CI.out _ _ _).mono ?_; rintro e w1 ⟨rfl, rfl⟩)
  | (go_at_call 137; refine (CG.out _ S.out.fx.li).mono ?_; rintro e w1 ⟨rfl, hb⟩; have S := hid (S.out.below hb); clear hb f0 f1 f2 x0 x1 x2 x3 x4 x5 p0 p1 p2 p4 hpr pg pcap; obtain ⟨f0, f1, f2, x0, x1, x2, x3, x4, x5⟩ := S.out.fx.cells; obtain ⟨p0, p1, p2, pg, pcap, p4, hpr⟩ := S.out.wo.pcells; dsimp only at x0 x1 x2 x3 x4 x5)
  | (go_at_call 139; refine (CE.out _ S.out.wo S.out.fs S.out.fx.li S.out.fx.vi).mono ?_; rintro e w1 ⟨rfl, hb⟩; have S := hid (S.out.below hb); clear hb f0 f1 f2 x0 x1 x2 x3 x4 x5 p0 p1 p2 p4 hpr pg pcap; obtain ⟨f0, f1, f2, x0, x1, x2, x3, x4, x5⟩ := S.out.fx.cells; obtain ⟨p0, p1, p2, pg, pcap, p4, hpr⟩ := S.out.wo.pcells; dsimp only at x0 x1 x2 x3 x4 x5))
 all_goals (go_ret; exact ⟨ret_bool (by rw [HL.out, HU.out]; first | (simp [*]; done) | (have i0 := ins0; simp [*]; done) | (simp [*]; intros; omega)), S.out.fx.b⟩)
set_option maxHeartbeats 8000000 in
set_option maxRecDepth 8000 in
theorem form_13  (p : Nat) (fa sa ra : Option Addr) (sn rn fc sc rc : Nat) (en : Int) (fp : List Int) (ps rs : Int) (ca : Option Addr) (cn cc : Nat) (a b c : Int) (l lv : List Int) (la : Option Addr) (lc : Nat) (va : Option Addr) (vc : Nat) (w : World) (hW : WoAt w p fa sa ra fp.length sn rn fc sc rc en) (hf : PsAt w fa fp) (hl : IntsAt .i64 w la l) (hv : IntsAt .i64 w va lv) (hcn : cn ≤ 1000000000) :
  Calls Tryz.prog 73 #[.pointer (some ⟨p, 0, none⟩), .agg #[.int .i64 ps, .int .i64 rs, .slice ca cn cc], .agg #[.int .i64 13, .int .i64 a, .int .i64 b, .int .i64 c, .slice la l.length lc, .slice va lv.length vc]] w fun e w' => e = .returned (.bool (liveB 13 b lv rs && formB sn rn fp cn rs 13 a b c l)) ∧ Below w.heap.size w w' := by
 have S := hid (fo_start (x := ⟨13, a, b, c, l, lv⟩) hW hf hl hv ps rs ca cn cc lc vc)
 have CI := hid (fun n e W => inside_any n e W)
 have CK := hid (fun W h => keeps_any p fa sa ra fp.length sn rn fc sc rc en 13 a b c la va l.length lc lv.length vc W h)
 have CV := hid (fun W h => regs_any va lv vc ps rs ca cn cc W h)
 have CG := hid (fun W h => regs_any la l lc ps rs ca cn cc W h)
 have CR := hid (fun n W => right_any n W)
 have hm := hv.1
 have hm2 : (lv.length : Int) ≤ 9223372036854775807 := by unfold maxLen at hm; omega
 clear hW hf hl hv hm
 go_enter Tryz.func73, Tryz.ntmps73
 go_wp2_with fail
 go_quiet (first | (go_at_call 72; refine Calls.quiet_of_same (CI.out _ _ _)))
 obtain ⟨W, hW⟩ : ∃ W, ((w.alloc (.cells #[.int .i64 ps, .int .i64 rs, .slice ca cn cc] 48)).alloc (.cells #[.int .i64 13, .int .i64 a, .int .i64 b, .int .i64 c, .slice la l.length lc, .slice va lv.length vc] 58)).drewN nq = W := ⟨_, rfl⟩
 have S1 := S.out.below (below_drewN (Below.refl _ _) nq)
 try dsimp only at S1
 rw [hW] at S1
 rw [hW]
 clear hW
 have S := hid S1
 clear S1
 obtain ⟨f0, f1, f2, x0, x1, x2, x3, x4, x5⟩ := S.out.fx.cells; obtain ⟨p0, p1, p2, pg, pcap, p4, hpr⟩ := S.out.wo.pcells; dsimp only at x0 x1 x2 x3 x4 x5
 have HK := hid (show keepsI 13 b = false from rfl)
 obtain ⟨fb, hfb⟩ : ∃ fb, formB sn rn fp cn rs 13 a b c l = fb := ⟨_, rfl⟩
 have HU := hid hfb
 have CE := hid (fun W h1 h2 h3 h4 => ending_13 p fa sa ra sn rn fc sc rc en fp ps rs ca cn cc a b c l lv la lc va vc W h1 h2 h3 h4 hcn)
 rw [hfb] at CE
 clear hfb
 have CK1 : Hid (∀ W h, Calls Tryz.prog 77 #[.pointer (some ⟨p, 0, none⟩), .agg #[.int .i64 13, .int .i64 a, .int .i64 b, .int .i64 c, .slice la l.length lc, .slice va lv.length vc]] W fun x w' => x = .returned (.bool false) ∧ Below W.heap.size W w') := hid (fun W (h : WoAt W p fa sa ra fp.length sn rn fc sc rc en) => by
  have := CK.out W h
  rwa [HK.out] at this)
 go_upto_region 9 with (first | (go_at_call 77; refine (CK1.out _ S.out.wo).mono ?_; rintro e w1 ⟨rfl, hb⟩; have S := hid (S.out.below hb); clear hb f0 f1 f2 x0 x1 x2 x3 x4 x5 p0 p1 p2 p4 hpr pg pcap; obtain ⟨f0, f1, f2, x0, x1, x2, x3, x4, x5⟩ := S.out.fx.cells; obtain ⟨p0, p1, p2, pg, pcap, p4, hpr⟩ := S.out.wo.pcells; dsimp only at x0 x1 x2 x3 x4 x5))
 obtain ⟨ok, hok⟩ : ∃ ok, ((lv.length : Int) == 0) = ok := ⟨_, rfl⟩
 have hlv : liveB 13 b lv rs = ok := by unfold liveB; rw [HK.out]; simpa using hok
 rw [hok]
 have HL := hid hlv
 clear hlv hok CK CK1 CV
 go_wp2_with (first
  | (go_at_call 138; refine (CR.out _ _).mono ?_; rintro e w1 ⟨rfl, rfl⟩)
  | (go_at_call 72; refine (CI.out _ _ _).mono ?_; rintro e w1 ⟨rfl, rfl⟩)
  | (go_at_call 137; refine (CG.out _ S.out.fx.li).mono ?_; rintro e w1 ⟨rfl, hb⟩; have S := hid (S.out.below hb); clear hb f0 f1 f2 x0 x1 x2 x3 x4 x5 p0 p1 p2 p4 hpr pg pcap; obtain ⟨f0, f1, f2, x0, x1, x2, x3, x4, x5⟩ := S.out.fx.cells; obtain ⟨p0, p1, p2, pg, pcap, p4, hpr⟩ := S.out.wo.pcells; dsimp only at x0 x1 x2 x3 x4 x5)
  | (go_at_call 139; refine (CE.out _ S.out.wo S.out.fs S.out.fx.li S.out.fx.vi).mono ?_; rintro e w1 ⟨rfl, hb⟩; have S := hid (S.out.below hb); clear hb f0 f1 f2 x0 x1 x2 x3 x4 x5 p0 p1 p2 p4 hpr pg pcap; obtain ⟨f0, f1, f2, x0, x1, x2, x3, x4, x5⟩ := S.out.fx.cells; obtain ⟨p0, p1, p2, pg, pcap, p4, hpr⟩ := S.out.wo.pcells; dsimp only at x0 x1 x2 x3 x4 x5))
 all_goals (go_ret; exact ⟨ret_bool (by rw [HL.out, HU.out]; first | (simp [*]; done) | (have i0 := ins0; simp [*]; done) | (simp [*]; intros; omega)), S.out.fx.b⟩)
set_option maxHeartbeats 8000000 in
set_option maxRecDepth 8000 in
theorem form_other (op : Int) (h1 : (op == 1) = false) (h2 : (op == 2) = false) (h3 : (op == 3) = false) (h4 : (op == 4) = false) (h5 : (op == 5) = false) (h6 : (op == 6) = false) (h7 : (op == 7) = false) (h8 : (op == 8) = false) (h9 : (op == 9) = false) (h10 : (op == 10) = false) (h11 : (op == 11) = false) (h12 : (op == 12) = false) (h13 : (op == 13) = false) (p : Nat) (fa sa ra : Option Addr) (sn rn fc sc rc : Nat) (en : Int) (fp : List Int) (ps rs : Int) (ca : Option Addr) (cn cc : Nat) (a b c : Int) (l lv : List Int) (la : Option Addr) (lc : Nat) (va : Option Addr) (vc : Nat) (w : World) (hW : WoAt w p fa sa ra fp.length sn rn fc sc rc en) (hf : PsAt w fa fp) (hl : IntsAt .i64 w la l) (hv : IntsAt .i64 w va lv) (hcn : cn ≤ 1000000000) :
  Calls Tryz.prog 73 #[.pointer (some ⟨p, 0, none⟩), .agg #[.int .i64 ps, .int .i64 rs, .slice ca cn cc], .agg #[.int .i64 op, .int .i64 a, .int .i64 b, .int .i64 c, .slice la l.length lc, .slice va lv.length vc]] w fun e w' => e = .returned (.bool (liveB op b lv rs && formB sn rn fp cn rs op a b c l)) ∧ Below w.heap.size w w' := by
 have S := hid (fo_start (x := ⟨op, a, b, c, l, lv⟩) hW hf hl hv ps rs ca cn cc lc vc)
 have CI := hid (fun n e W => inside_any n e W)
 have CK := hid (fun W h => keeps_any p fa sa ra fp.length sn rn fc sc rc en op a b c la va l.length lc lv.length vc W h)
 have CV := hid (fun W h => regs_any va lv vc ps rs ca cn cc W h)
 have CG := hid (fun W h => regs_any la l lc ps rs ca cn cc W h)
 have CR := hid (fun n W => right_any n W)
 have hm := hv.1
 have hm2 : (lv.length : Int) ≤ 9223372036854775807 := by unfold maxLen at hm; omega
 clear hW hf hl hv hm
 go_enter Tryz.func73, Tryz.ntmps73
 go_wp2_with fail
 go_quiet (first | (go_at_call 72; refine Calls.quiet_of_same (CI.out _ _ _)))
 obtain ⟨W, hW⟩ : ∃ W, ((w.alloc (.cells #[.int .i64 ps, .int .i64 rs, .slice ca cn cc] 48)).alloc (.cells #[.int .i64 op, .int .i64 a, .int .i64 b, .int .i64 c, .slice la l.length lc, .slice va lv.length vc] 58)).drewN nq = W := ⟨_, rfl⟩
 have S1 := S.out.below (below_drewN (Below.refl _ _) nq)
 try dsimp only at S1
 rw [hW] at S1
 rw [hW]
 clear hW
 have S := hid S1
 clear S1
 obtain ⟨f0, f1, f2, x0, x1, x2, x3, x4, x5⟩ := S.out.fx.cells; obtain ⟨p0, p1, p2, pg, pcap, p4, hpr⟩ := S.out.wo.pcells; dsimp only at x0 x1 x2 x3 x4 x5
 have HK := hid (show keepsI op b = false by simp [keepsI, h2, h3, h5, h8])
 have HU := hid (show formB sn rn fp cn rs op a b c l = false by simp [formB, h1, h2, h3, h4, h5, h6, h7, h8, h9, h10, h11, h12, h13])
 have CE := hid (fun W x1 x2 x3 x4 => ending_other op h9 h10 h11 h12 h13 p fa sa ra sn rn fc sc rc en fp ps rs ca cn cc a b c l lv la lc va vc W x1 x2 x3 x4 hcn)
 have CK1 : Hid (∀ W h, Calls Tryz.prog 77 #[.pointer (some ⟨p, 0, none⟩), .agg #[.int .i64 op, .int .i64 a, .int .i64 b, .int .i64 c, .slice la l.length lc, .slice va lv.length vc]] W fun x w' => x = .returned (.bool false) ∧ Below W.heap.size W w') := hid (fun W (h : WoAt W p fa sa ra fp.length sn rn fc sc rc en) => by
  have := CK.out W h
  rwa [HK.out] at this)
 go_upto_region 9 with (first | (go_at_call 77; refine (CK1.out _ S.out.wo).mono ?_; rintro e w1 ⟨rfl, hb⟩; have S := hid (S.out.below hb); clear hb f0 f1 f2 x0 x1 x2 x3 x4 x5 p0 p1 p2 p4 hpr pg pcap; obtain ⟨f0, f1, f2, x0, x1, x2, x3, x4, x5⟩ := S.out.fx.cells; obtain ⟨p0, p1, p2, pg, pcap, p4, hpr⟩ := S.out.wo.pcells; dsimp only at x0 x1 x2 x3 x4 x5))
 obtain ⟨ok, hok⟩ : ∃ ok, ((lv.length : Int) == 0) = ok := ⟨_, rfl⟩
 have hlv : liveB op b lv rs = ok := by unfold liveB; rw [HK.out]; simpa using hok
 rw [hok]
 have HL := hid hlv
 clear hlv hok CK CK1 CV
 go_wp2_with (first
  | (go_at_call 138; refine (CR.out _ _).mono ?_; rintro e w1 ⟨rfl, rfl⟩)
  | (go_at_call 72; refine (CI.out _ _ _).mono ?_; rintro e w1 ⟨rfl, rfl⟩)
  | (go_at_call 137; refine (CG.out _ S.out.fx.li).mono ?_; rintro e w1 ⟨rfl, hb⟩; have S := hid (S.out.below hb); clear hb f0 f1 f2 x0 x1 x2 x3 x4 x5 p0 p1 p2 p4 hpr pg pcap; obtain ⟨f0, f1, f2, x0, x1, x2, x3, x4, x5⟩ := S.out.fx.cells; obtain ⟨p0, p1, p2, pg, pcap, p4, hpr⟩ := S.out.wo.pcells; dsimp only at x0 x1 x2 x3 x4 x5)
  | (go_at_call 139; refine (CE.out _ S.out.wo S.out.fs S.out.fx.li S.out.fx.vi).mono ?_; rintro e w1 ⟨rfl, hb⟩; have S := hid (S.out.below hb); clear hb f0 f1 f2 x0 x1 x2 x3 x4 x5 p0 p1 p2 p4 hpr pg pcap; obtain ⟨f0, f1, f2, x0, x1, x2, x3, x4, x5⟩ := S.out.fx.cells; obtain ⟨p0, p1, p2, pg, pcap, p4, hpr⟩ := S.out.wo.pcells; dsimp only at x0 x1 x2 x3 x4 x5))
 all_goals (go_ret; exact ⟨ret_bool (by rw [HL.out, HU.out]; first | (simp [*]; done) | (have i0 := ins0; simp [*]; done) | (simp [*]; intros; omega)), S.out.fx.b⟩)
set_option maxHeartbeats 8000000 in
set_option maxRecDepth 8000 in
theorem form_8  (p : Nat) (fa sa ra : Option Addr) (sn rn fc sc rc : Nat) (en : Int) (fp : List Int) (ps rs : Int) (ca : Option Addr) (cn cc : Nat) (a b c : Int) (l lv : List Int) (la : Option Addr) (lc : Nat) (va : Option Addr) (vc : Nat) (w : World) (hW : WoAt w p fa sa ra fp.length sn rn fc sc rc en) (hf : PsAt w fa fp) (hl : IntsAt .i64 w la l) (hv : IntsAt .i64 w va lv) (hcn : cn ≤ 1000000000) :
  Calls Tryz.prog 73 #[.pointer (some ⟨p, 0, none⟩), .agg #[.int .i64 ps, .int .i64 rs, .slice ca cn cc], .agg #[.int .i64 8, .int .i64 a, .int .i64 b, .int .i64 c, .slice la l.length lc, .slice va lv.length vc]] w fun e w' => e = .returned (.bool (liveB 8 b lv rs && formB sn rn fp cn rs 8 a b c l)) ∧ Below w.heap.size w w' := by
 have S := hid (fo_start (x := ⟨8, a, b, c, l, lv⟩) hW hf hl hv ps rs ca cn cc lc vc)
 have CI := hid (fun n e W => inside_any n e W)
 have CK := hid (fun W h => keeps_any p fa sa ra fp.length sn rn fc sc rc en 8 a b c la va l.length lc lv.length vc W h)
 have CV := hid (fun W h => regs_any va lv vc ps rs ca cn cc W h)
 have CG := hid (fun W h => regs_any la l lc ps rs ca cn cc W h)
 have CR := hid (fun n W => right_any n W)
 have hm := hv.1
 have hm2 : (lv.length : Int) ≤ 9223372036854775807 := by unfold maxLen at hm; omega
 clear hW hf hl hv hm
 go_enter Tryz.func73, Tryz.ntmps73
 go_wp2_with fail
 go_quiet (first | (go_at_call 72; refine Calls.quiet_of_same (CI.out _ _ _)))
 obtain ⟨W, hW⟩ : ∃ W, ((w.alloc (.cells #[.int .i64 ps, .int .i64 rs, .slice ca cn cc] 48)).alloc (.cells #[.int .i64 8, .int .i64 a, .int .i64 b, .int .i64 c, .slice la l.length lc, .slice va lv.length vc] 58)).drewN nq = W := ⟨_, rfl⟩
 have S1 := S.out.below (below_drewN (Below.refl _ _) nq)
 try dsimp only at S1
 rw [hW] at S1
 rw [hW]
 clear hW
 have S := hid S1
 clear S1
 obtain ⟨f0, f1, f2, x0, x1, x2, x3, x4, x5⟩ := S.out.fx.cells; obtain ⟨p0, p1, p2, pg, pcap, p4, hpr⟩ := S.out.wo.pcells; dsimp only at x0 x1 x2 x3 x4 x5
 have HU := hid (show formB sn rn fp cn rs 8 a b c l = (insB a rs && insB b 61 && ((l.length : Int) == (prT b.toNat).2.1) && (if (prT b.toNat).2.2 = 0 then c == -1 else insB c cn) && regsB l rs) from rfl)
 cases hk : keepsI 8 b
 ·have HK := hid hk
  clear hk
  have CK1 : Hid (∀ W h, Calls Tryz.prog 77 #[.pointer (some ⟨p, 0, none⟩), .agg #[.int .i64 8, .int .i64 a, .int .i64 b, .int .i64 c, .slice la l.length lc, .slice va lv.length vc]] W fun x w' => x = .returned (.bool false) ∧ Below W.heap.size W w') := hid (fun W (h : WoAt W p fa sa ra fp.length sn rn fc sc rc en) => by
   have := CK.out W h
   rwa [HK.out] at this)
  go_upto_region 9 with (first | (go_at_call 77; refine (CK1.out _ S.out.wo).mono ?_; rintro e w1 ⟨rfl, hb⟩; have S := hid (S.out.below hb); clear hb f0 f1 f2 x0 x1 x2 x3 x4 x5 p0 p1 p2 p4 hpr pg pcap; obtain ⟨f0, f1, f2, x0, x1, x2, x3, x4, x5⟩ := S.out.fx.cells; obtain ⟨p0, p1, p2, pg, pcap, p4, hpr⟩ := S.out.wo.pcells; dsimp only at x0 x1 x2 x3 x4 x5))
  obtain ⟨ok, hok⟩ : ∃ ok, ((lv.length : Int) == 0) = ok := ⟨_, rfl⟩
  have hlv : liveB 8 b lv rs = ok := by unfold liveB; rw [HK.out]; simpa using hok
  rw [hok]
  have HL := hid hlv
  clear hlv hok CK CK1 CV
  go_wp2_with fail
  cases hb2 : insB b 61
  ·have CB := hid (fun W => inside_eq hb2 W)
   go_quiet (first | (go_at_call 72; refine Calls.quiet_of_same (CB.out _)))
   go_wp2_with fail
   go_ret
   exact ⟨ret_bool (by rw [HL.out, HU.out, hb2]; simp), below_drewN S.out.fx.b _⟩
  have CB := hid (fun W => inside_eq hb2 W)
  obtain ⟨hb0, hb1⟩ := insB_true hb2
  obtain ⟨i, rfl⟩ := Int.eq_ofNat_of_zero_le hb0
  have hi : i < 61 := by omega
  have k1 : decide ((i : Int) < 61) = true := decide_eq_true hb1
  go_quiet (first | (go_at_call 72; refine Calls.quiet_of_same (CB.out _)))
  have S5 := S.out.below (below_drewN (Below.refl _ _) nq)
  generalize hW5 : World.drewN _ nq = W5 at S5 ⊢
  clear hW5 f0 f1 f2 x0 x1 x2 x3 x4 x5 p0 p1 p2 p4 hpr S
  have S := hid S5
  clear S5
  obtain ⟨f0, f1, f2, x0, x1, x2, x3, x4, x5⟩ := S.out.fx.cells; obtain ⟨p0, p1, p2, pg, pcap, p4, hpr⟩ := S.out.wo.pcells; dsimp only at x0 x1 x2 x3 x4 x5
  obtain ⟨e3, e2, rp, rcp, e4, ⟨s0, e0⟩, z0, e1⟩ := hpr.2 i hi
  obtain ⟨ar, har⟩ : ∃ ar, (prT i).2.1 = ar := ⟨_, rfl⟩
  obtain ⟨rr, hrr⟩ : ∃ rr, (prT i).2.2 = rr := ⟨_, rfl⟩
  obtain ⟨tt, htt⟩ : ∃ tt, (prT i).1 = tt := ⟨_, rfl⟩
  have hU := HU.out
  rw [Int.toNat_natCast, har, hrr, hb2] at hU
  rw [htt, Nat.mul_comm] at e3
  rw [har, Nat.mul_comm] at e2
  rw [hrr, Nat.mul_comm] at e4
  rw [Nat.add_zero, Nat.mul_comm] at e0
  rw [Nat.mul_comm] at e1
  have HU := hid hU
  clear hU har hrr htt
  have hl1 : w.heap.size + 1 < _ := World.block_lt_of_cell? _ _ x2
  have hl2 : p < _ := World.block_lt_of_cell? _ _ p4
  have hl3 := hpr.1
  go_wp2_with fail
  go_region
  obtain ⟨V, hV⟩ : ∃ V, (W5.alloc (.cells #[.string s0, .int .i64 z0, .int .i64 ar, .string ⟨tt.toArray⟩, .slice rp rr rcp] 77)).drew = V := ⟨_, rfl⟩
  have hb5 : Below W5.heap.size W5 V := by rw [← hV]; exact ((Below.refl _ _).alloc (Nat.le_refl _) _).drew
  have y2 : V.cell? ⟨W5.heap.size, 2, none⟩ = some (.int .i64 ar) := by rw [← hV]; simp
  have y4 : V.cell? ⟨W5.heap.size, 4, none⟩ = some (.slice rp rr rcp) := by rw [← hV]; simp
  rw [hV]
  clear hV
  have S6 := S.out.below hb5
  clear hb5 f0 f1 f2 x0 x1 x2 x3 x4 x5 p0 p1 p2 p4 hpr S e0 e1 e2 e3 e4 hl1 hl2 hl3
  have S := hid S6
  clear S6
  obtain ⟨f0, f1, f2, x0, x1, x2, x3, x4, x5⟩ := S.out.fx.cells; dsimp only at x0 x1 x2 x3 x4 x5
  by_cases hr0 : rr = 0
  ·have hr0' : ((rr : Int) == 0) = true := by simp [hr0]
   have HV := hid (show (if rr = 0 then c == -1 else insB c cn) = (c == -1) from if_pos hr0)
   clear hr0
   go_wp2_with (first
    | (go_at_call 137; refine (CG.out _ S.out.fx.li).mono ?_; rintro e w5 ⟨rfl, hb⟩; have S := hid (S.out.below hb); clear hb))
   all_goals (go_ret; exact ⟨ret_bool (by rw [HL.out, HU.out, HV.out]; first | (simp [*]; done) | (simp only [*, Bool.and_true, Bool.and_false, Bool.true_and, Bool.false_and, Bool.and_self]; done)), S.out.fx.b⟩)
  ·have hr0' : ((rr : Int) == 0) = false := by simpa using hr0
   have HV := hid (show (if rr = 0 then c == -1 else insB c cn) = insB c cn from if_neg hr0)
   clear hr0
   go_wp2_with (first
    | (go_at_call 137; refine (CG.out _ S.out.fx.li).mono ?_; rintro e w5 ⟨rfl, hb⟩; have S := hid (S.out.below hb); clear hb))
   all_goals (go_ret; exact ⟨ret_bool (by rw [HL.out, HU.out, HV.out]; first | (simp [*]; done) | (simp only [*, Bool.and_true, Bool.and_false, Bool.true_and, Bool.false_and, Bool.and_self]; done)), S.out.fx.b⟩)
 ·have HK := hid hk
  clear hk
  have CK1 : Hid (∀ W h, Calls Tryz.prog 77 #[.pointer (some ⟨p, 0, none⟩), .agg #[.int .i64 8, .int .i64 a, .int .i64 b, .int .i64 c, .slice la l.length lc, .slice va lv.length vc]] W fun x w' => x = .returned (.bool true) ∧ Below W.heap.size W w') := hid (fun W (h : WoAt W p fa sa ra fp.length sn rn fc sc rc en) => by
   have := CK.out W h
   rwa [HK.out] at this)
  go_wp2_with (first
   | (go_at_call 77; refine (CK1.out _ S.out.wo).mono ?_; rintro e w1 ⟨rfl, hb⟩; have S := hid (S.out.below hb); clear hb f0 f1 f2 x0 x1 x2 x3 x4 x5 p0 p1 p2 p4 hpr pg pcap; obtain ⟨f0, f1, f2, x0, x1, x2, x3, x4, x5⟩ := S.out.fx.cells; obtain ⟨p0, p1, p2, pg, pcap, p4, hpr⟩ := S.out.wo.pcells; dsimp only at x0 x1 x2 x3 x4 x5)
   | (go_at_call 137; refine (CV.out _ S.out.fx.vi).mono ?_; rintro e w1 ⟨rfl, hb⟩; have S := hid (S.out.below hb); clear hb f0 f1 f2 x0 x1 x2 x3 x4 x5 p0 p1 p2 p4 hpr pg pcap; obtain ⟨f0, f1, f2, x0, x1, x2, x3, x4, x5⟩ := S.out.fx.cells; obtain ⟨p0, p1, p2, pg, pcap, p4, hpr⟩ := S.out.wo.pcells; dsimp only at x0 x1 x2 x3 x4 x5))
  clear CK CK1 CV
  go_loopw [10, 11] (fun vo vi wr => ∃ j : Nat, vi = .int .i64 j ∧ 1 ≤ j ∧ (j ≤ lv.length ∨ (j = 1 ∧ lv.length = 0)) ∧ vo = .bool (regsB lv rs && (List.range j).all (okR lv)) ∧ FoAt w wr p w.heap.size (w.heap.size + 1) fa sa ra sn rn fc sc rc en fp ps rs ca cn cc ⟨8, a, b, c, l, lv⟩ la lc va vc) (fun _ vi _ => lv.length - (intOf vi).toNat)
  case atStart => exact ⟨1, rfl, by omega, by omega, congrArg Value.bool (by rw [show (List.range 1).all (okR lv) = true from rfl, Bool.and_true]), S.out⟩
  clear S f0 f1 f2 x0 x1 x2 x3 x4 x5 p0 p1 p2 p4 hpr pg pcap
  obtain ⟨j, rfl, hj1, hj2, rfl, hS⟩ := hrel
  have S := hid hS
  have HI := hid hS.fx.vi
  clear hS
  obtain ⟨f0, f1, f2, x0, x1, x2, x3, x4, x5⟩ := S.out.fx.cells; obtain ⟨p0, p1, p2, pg, pcap, p4, hpr⟩ := S.out.wo.pcells; dsimp only at x0 x1 x2 x3 x4 x5
  obtain ⟨ok, hok⟩ : ∃ ok, (regsB lv rs && (List.range j).all (okR lv)) = ok := ⟨_, rfl⟩
  rw [hok]
  have HO := hid hok
  clear hok
  by_cases hlt : j < lv.length
  ·have HJ := hid hj2
   clear hj2 p0 p1 p2 p4 hpr pg pcap
   have hI := HI.out
   obtain ⟨bB, off, ha, c0⟩ := ints_cell hI hlt
   obtain ⟨b', off', ha', c1⟩ := ints_cell hI (show j - 1 < lv.length by omega)
   rw [ha] at ha'
   injection ha' with ha'
   injection ha' with q1 q2 _
   subst q1; subst q2; subst ha
   obtain ⟨v, hv⟩ : ∃ v, lv.getD j 0 = v := ⟨_, rfl⟩
   obtain ⟨u, hu⟩ : ∃ u, lv.getD (j - 1) 0 = u := ⟨_, rfl⟩
   rw [hv] at c0
   rw [hu] at c1
   have m1 : IntKind.i64.wrap ((j : Int) - 1) = (j : Int) - 1 := IntWalk.i64_in _ (by omega)
   have m2 : ((j : Int) - 1).toNat = j - 1 := by omega
   have m3 : decide ((j : Int) < (lv.length : Int)) = true := decide_eq_true (by omega)
   have m4 : decide (0 ≤ (j : Int) - 1) = true := decide_eq_true (by omega)
   have m5 : decide ((j : Int) - 1 < (lv.length : Int)) = true := decide_eq_true (by omega)
   have HN := hid (show okR lv j = decide (u < v) by unfold okR; rw [hv, hu, show (j == 0) = false by simp; omega]; rfl)
   clear hv hu hI
   go_wp2_with fail
   cases ok
   all_goals
    go_quiet (fail)
    go_wp2_with fail
    go_roundw
   all_goals first
    | exact ⟨j + 1, by go_num, by omega, by (have := HJ.out); omega, congrArg Value.bool (by rw [rising_next HO.out, HN.out]; first | rfl | simp), S.out.below (below_drewN (Below.refl _ _) _)⟩
    | (simp [intOf]; omega)
  have hlv : liveB 8 b lv rs = ok := by unfold liveB; rw [HK.out, ← HO.out, rising_at (by omega) hj2]; rfl
  have HL := hid hlv
  clear hlv HO HI
  have m3 : decide ((j : Int) < (lv.length : Int)) = false := decide_eq_false (by omega)
  go_upto_region 9 with fail
  go_wp2_with fail
  cases hb2 : insB b 61
  ·have CB := hid (fun W => inside_eq hb2 W)
   go_quiet (first | (go_at_call 72; refine Calls.quiet_of_same (CB.out _)))
   go_wp2_with fail
   go_ret
   exact ⟨ret_bool (by rw [HL.out, HU.out, hb2]; simp), below_drewN S.out.fx.b _⟩
  have CB := hid (fun W => inside_eq hb2 W)
  obtain ⟨hb0, hb1⟩ := insB_true hb2
  obtain ⟨i, rfl⟩ := Int.eq_ofNat_of_zero_le hb0
  have hi : i < 61 := by omega
  have k1 : decide ((i : Int) < 61) = true := decide_eq_true hb1
  go_quiet (first | (go_at_call 72; refine Calls.quiet_of_same (CB.out _)))
  have S5 := S.out.below (below_drewN (Below.refl _ _) nq)
  generalize hW5 : World.drewN _ nq = W5 at S5 ⊢
  clear hW5 f0 f1 f2 x0 x1 x2 x3 x4 x5 p0 p1 p2 p4 hpr S
  have S := hid S5
  clear S5
  obtain ⟨f0, f1, f2, x0, x1, x2, x3, x4, x5⟩ := S.out.fx.cells; obtain ⟨p0, p1, p2, pg, pcap, p4, hpr⟩ := S.out.wo.pcells; dsimp only at x0 x1 x2 x3 x4 x5
  obtain ⟨e3, e2, rp, rcp, e4, ⟨s0, e0⟩, z0, e1⟩ := hpr.2 i hi
  obtain ⟨ar, har⟩ : ∃ ar, (prT i).2.1 = ar := ⟨_, rfl⟩
  obtain ⟨rr, hrr⟩ : ∃ rr, (prT i).2.2 = rr := ⟨_, rfl⟩
  obtain ⟨tt, htt⟩ : ∃ tt, (prT i).1 = tt := ⟨_, rfl⟩
  have hU := HU.out
  rw [Int.toNat_natCast, har, hrr, hb2] at hU
  rw [htt, Nat.mul_comm] at e3
  rw [har, Nat.mul_comm] at e2
  rw [hrr, Nat.mul_comm] at e4
  rw [Nat.add_zero, Nat.mul_comm] at e0
  rw [Nat.mul_comm] at e1
  have HU := hid hU
  clear hU har hrr htt
  have hl1 : w.heap.size + 1 < _ := World.block_lt_of_cell? _ _ x2
  have hl2 : p < _ := World.block_lt_of_cell? _ _ p4
  have hl3 := hpr.1
  go_wp2_with fail
  go_region
  obtain ⟨V, hV⟩ : ∃ V, (W5.alloc (.cells #[.string s0, .int .i64 z0, .int .i64 ar, .string ⟨tt.toArray⟩, .slice rp rr rcp] 77)).drew = V := ⟨_, rfl⟩
  have hb5 : Below W5.heap.size W5 V := by rw [← hV]; exact ((Below.refl _ _).alloc (Nat.le_refl _) _).drew
  have y2 : V.cell? ⟨W5.heap.size, 2, none⟩ = some (.int .i64 ar) := by rw [← hV]; simp
  have y4 : V.cell? ⟨W5.heap.size, 4, none⟩ = some (.slice rp rr rcp) := by rw [← hV]; simp
  rw [hV]
  clear hV
  have S6 := S.out.below hb5
  clear hb5 f0 f1 f2 x0 x1 x2 x3 x4 x5 p0 p1 p2 p4 hpr S e0 e1 e2 e3 e4 hl1 hl2 hl3
  have S := hid S6
  clear S6
  obtain ⟨f0, f1, f2, x0, x1, x2, x3, x4, x5⟩ := S.out.fx.cells; dsimp only at x0 x1 x2 x3 x4 x5
  by_cases hr0 : rr = 0
  ·have hr0' : ((rr : Int) == 0) = true := by simp [hr0]
   have HV := hid (show (if rr = 0 then c == -1 else insB c cn) = (c == -1) from if_pos hr0)
   clear hr0
   go_wp2_with (first
    | (go_at_call 137; refine (CG.out _ S.out.fx.li).mono ?_; rintro e w5 ⟨rfl, hb⟩; have S := hid (S.out.below hb); clear hb))
   all_goals (go_ret; exact ⟨ret_bool (by rw [HL.out, HU.out, HV.out]; first | (simp [*]; done) | (simp only [*, Bool.and_true, Bool.and_false, Bool.true_and, Bool.false_and, Bool.and_self]; done)), S.out.fx.b⟩)
  ·have hr0' : ((rr : Int) == 0) = false := by simpa using hr0
   have HV := hid (show (if rr = 0 then c == -1 else insB c cn) = insB c cn from if_neg hr0)
   clear hr0
   go_wp2_with (first
    | (go_at_call 137; refine (CG.out _ S.out.fx.li).mono ?_; rintro e w5 ⟨rfl, hb⟩; have S := hid (S.out.below hb); clear hb))
   all_goals (go_ret; exact ⟨ret_bool (by rw [HL.out, HU.out, HV.out]; first | (simp [*]; done) | (simp only [*, Bool.and_true, Bool.and_false, Bool.true_and, Bool.false_and, Bool.and_self]; done)), S.out.fx.b⟩)
theorem form_any (p : Nat) (fa sa ra : Option Addr) (sn rn fc sc rc : Nat) (en : Int) (fp : List Int) (ps rs : Int) (ca : Option Addr) (cn cc : Nat) (op a b c : Int) (l lv : List Int) (la : Option Addr) (lc : Nat) (va : Option Addr) (vc : Nat) (w : World) (hW : WoAt w p fa sa ra fp.length sn rn fc sc rc en) (hf : PsAt w fa fp) (hl : IntsAt .i64 w la l) (hv : IntsAt .i64 w va lv) (hcn : cn ≤ 1000000000) :
  Calls Tryz.prog 73 #[.pointer (some ⟨p, 0, none⟩), .agg #[.int .i64 ps, .int .i64 rs, .slice ca cn cc], .agg #[.int .i64 op, .int .i64 a, .int .i64 b, .int .i64 c, .slice la l.length lc, .slice va lv.length vc]] w fun e w' => e = .returned (.bool (liveB op b lv rs && formB sn rn fp cn rs op a b c l)) ∧ Below w.heap.size w w' := by
 rcases op_all op with (rfl | rfl | rfl | rfl | rfl | rfl | rfl | rfl | rfl | rfl | rfl | rfl | rfl) | ⟨h1, h2, h3, h4, h5, h6, h7, h8, h9, h10, h11, h12, h13⟩
 ·exact form_1 p fa sa ra sn rn fc sc rc en fp ps rs ca cn cc a b c l lv la lc va vc w hW hf hl hv hcn
 ·exact form_2 p fa sa ra sn rn fc sc rc en fp ps rs ca cn cc a b c l lv la lc va vc w hW hf hl hv hcn
 ·exact form_3 p fa sa ra sn rn fc sc rc en fp ps rs ca cn cc a b c l lv la lc va vc w hW hf hl hv hcn
 ·exact form_4 p fa sa ra sn rn fc sc rc en fp ps rs ca cn cc a b c l lv la lc va vc w hW hf hl hv hcn
 ·exact form_5 p fa sa ra sn rn fc sc rc en fp ps rs ca cn cc a b c l lv la lc va vc w hW hf hl hv hcn
 ·exact form_6 p fa sa ra sn rn fc sc rc en fp ps rs ca cn cc a b c l lv la lc va vc w hW hf hl hv hcn
 ·exact form_7 p fa sa ra sn rn fc sc rc en fp ps rs ca cn cc a b c l lv la lc va vc w hW hf hl hv hcn
 ·exact form_8 p fa sa ra sn rn fc sc rc en fp ps rs ca cn cc a b c l lv la lc va vc w hW hf hl hv hcn
 ·exact form_9 p fa sa ra sn rn fc sc rc en fp ps rs ca cn cc a b c l lv la lc va vc w hW hf hl hv hcn
 ·exact form_10 p fa sa ra sn rn fc sc rc en fp ps rs ca cn cc a b c l lv la lc va vc w hW hf hl hv hcn
 ·exact form_11 p fa sa ra sn rn fc sc rc en fp ps rs ca cn cc a b c l lv la lc va vc w hW hf hl hv hcn
 ·exact form_12 p fa sa ra sn rn fc sc rc en fp ps rs ca cn cc a b c l lv la lc va vc w hW hf hl hv hcn
 ·exact form_13 p fa sa ra sn rn fc sc rc en fp ps rs ca cn cc a b c l lv la lc va vc w hW hf hl hv hcn
 ·exact form_other op h1 h2 h3 h4 h5 h6 h7 h8 h9 h10 h11 h12 h13 p fa sa ra sn rn fc sc rc en fp ps rs ca cn cc a b c l lv la lc va vc w hW hf hl hv hcn
end Go.Proofs.YtokjkligechcoaaGreatDoor
