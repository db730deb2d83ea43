/- Walks of layer 16: an instruction's form, the program's side: what goes elsewhere. -/
import Derived.Test.YtgbgahdeopedpaaCn
import Derived.Test.YtgbgahdeopedpaaCq
namespace Go.Proofs.Ytgbgahdeopedpaa
open Go.RowKit
open Fx
set_option linter.unusedVariables false
attribute [local go_sem] ext_mk size_mk toList_mk get_mk take_drop_len take_tail_len ByteArray.mk_append_mk List.append_toArray

/-- the program's world, the boxes of a function and of an instruction -/
structure FoAt (w W : World) (p F X : Nat) (fa sa ra : Option Addr) (sn rn fc sc rc : Nat) (en : Int) (fp : List Int) (ps rs : Int) (ca : Option Addr) (cn cc : Nat) (x : In) (la : Option Addr) (lc : Nat) (va : Option Addr) (vc : Nat) : Prop where
  wo : WoAt W p fa sa ra fp.length sn rn fc sc rc en
  fx : FxAt w W F X ps rs ca cn cc x la lc va vc
  fs : PsAt W fa fp
section
variable {w W V : World} {p F X : Nat} {fa sa ra : Option Addr} {sn rn fc sc rc : Nat} {en : Int} {fp : List Int} {ps rs : Int} {ca : Option Addr} {cn cc : Nat} {x : In} {la : Option Addr} {lc : Nat} {va : Option Addr} {vc : Nat}

theorem FoAt.below (h : FoAt w W p F X fa sa ra sn rn fc sc rc en fp ps rs ca cn cc x la lc va vc) (hb : Below W.heap.size W V) : FoAt w V p F X fa sa ra sn rn fc sc rc en fp ps rs ca cn cc x la lc va vc := ⟨h.wo.below hb, h.fx.below hb, h.fs.below hb⟩

theorem WoAt.pcells (h : WoAt W p fa sa ra fc sn rn sc rc cc en) : W.cell? ⟨p, 0, none⟩ = some (.slice fa fc sc) ∧ W.cell? ⟨p, 1, none⟩ = some (.slice sa sn rc) ∧ W.cell? ⟨p, 2, none⟩ = some (.slice ra rn cc) ∧ ∃ g cap, W.cell? ⟨p, 4, none⟩ = some (.slice (some ⟨g, 0, none⟩) 61 cap) ∧ PrAt W g := by
  obtain ⟨g, cap, k, c, h1, h2, h3, h4⟩ := h
  obtain ⟨⟨e0, e1, e2, e3, e4, e5⟩, _⟩ := h1.cells
  exact ⟨e0, e1, e2, g, cap, e4, h2⟩

theorem fo_start (hW : WoAt w p fa sa ra fp.length sn rn fc sc rc en) (hf : PsAt w fa fp) (hl : IntsAt .i64 w la x.l) (hv : IntsAt .i64 w va x.lv) (ps rs : Int) (ca : Option Addr) (cn cc lc vc : Nat) :
    FoAt w ((w.alloc (.cells #[.int .i64 ps, .int .i64 rs, .slice ca cn cc] 61)).alloc (.cells #[.int .i64 x.op, .int .i64 x.a, .int .i64 x.b, .int .i64 x.c, .slice la x.l.length lc, .slice va x.lv.length vc] 58)) p w.heap.size (w.heap.size + 1) fa sa ra sn rn fc sc rc en fp ps rs ca cn cc x la lc va vc := by
  have h := fx_start w ps rs ca cn cc x la lc va vc hl hv
  exact ⟨hW.below h.b, h, hf.below h.b⟩
end

set_option maxHeartbeats 4000000 in
set_option maxRecDepth 8000 in
theorem ending_9  (p : Nat) (fa sa ra : Option Addr) (sn rn fc sc rc : Nat) (en : Int) (fp : List Int) (ps rs : Int) (ca : Option Addr) (cn cc : Nat) (a b c : Int) (l lv : List Int) (la : Option Addr) (lc : Nat) (va : Option Addr) (vc : Nat) (w : World) (hW : WoAt w p fa sa ra fp.length sn rn fc sc rc en) (hf : PsAt w fa fp) (hl : IntsAt .i64 w la l) (hv : IntsAt .i64 w va lv) (hcn : cn ≤ 1000000000) :
    Calls Try.prog 87 #[.pointer (some ⟨p, 0, none⟩), .agg #[.int .i64 ps, .int .i64 rs, .slice ca cn cc], .agg #[.int .i64 9, .int .i64 a, .int .i64 b, .int .i64 c, .slice la l.length lc, .slice va lv.length vc]] w fun e w' => e = .returned (.bool (formB sn rn fp cn rs 9 a b c l)) ∧ Below w.heap.size w w' := by
  have S := Lib.hid (fo_start (x := ⟨9, a, b, c, l, lv⟩) hW hf hl hv ps rs ca cn cc lc vc)
  have CI := Lib.hid (fun n e W => inside_any n e W)
  clear hW hf hl hv
  go_enter Try.func87, Try.ntmps87
  go_wp2_with fail
  go_quiet (first | (go_at_call 63; refine Calls.quiet_of_same (CI.out _ _ _)))
  obtain ⟨W, hW⟩ : ∃ W, ((w.alloc (.cells #[.int .i64 ps, .int .i64 rs, .slice ca cn cc] 61)).alloc (.cells #[.int .i64 9, .int .i64 a, .int .i64 b, .int .i64 c, .slice la l.length lc, .slice va lv.length vc] 58)).drewN nq = W := ⟨_, rfl⟩
  have S1 := S.out.below (below_drewN (Below.refl _ _) nq)
  try dsimp only at S1
  rw [hW] at S1
  rw [hW]
  clear hW
  have S := Lib.hid S1
  clear S1
  obtain ⟨f0, f1, f2, x0, x1, x2, x3, x4, x5⟩ := S.out.fx.cells
  obtain ⟨p0, p1, p2, pg, pcap, p4, hpr⟩ := S.out.wo.pcells
  dsimp only at x0 x1 x2 x3 x4 x5
  have HU := Lib.hid (show formB sn rn fp cn rs 9 a b c l = ((a == 0) && (b == 0) && insB c cn && ((l.length : Int) == 0)) from rfl)
  go_wp2_with fail
  all_goals (go_ret; exact ⟨ret_bool (by rw [HU.out]; simp [*]), S.out.fx.b⟩)

set_option maxHeartbeats 4000000 in
set_option maxRecDepth 8000 in
theorem ending_10  (p : Nat) (fa sa ra : Option Addr) (sn rn fc sc rc : Nat) (en : Int) (fp : List Int) (ps rs : Int) (ca : Option Addr) (cn cc : Nat) (a b c : Int) (l lv : List Int) (la : Option Addr) (lc : Nat) (va : Option Addr) (vc : Nat) (w : World) (hW : WoAt w p fa sa ra fp.length sn rn fc sc rc en) (hf : PsAt w fa fp) (hl : IntsAt .i64 w la l) (hv : IntsAt .i64 w va lv) (hcn : cn ≤ 1000000000) :
    Calls Try.prog 87 #[.pointer (some ⟨p, 0, none⟩), .agg #[.int .i64 ps, .int .i64 rs, .slice ca cn cc], .agg #[.int .i64 10, .int .i64 a, .int .i64 b, .int .i64 c, .slice la l.length lc, .slice va lv.length vc]] w fun e w' => e = .returned (.bool (formB sn rn fp cn rs 10 a b c l)) ∧ Below w.heap.size w w' := by
  have S := Lib.hid (fo_start (x := ⟨10, a, b, c, l, lv⟩) hW hf hl hv ps rs ca cn cc lc vc)
  have CI := Lib.hid (fun n e W => inside_any n e W)
  clear hW hf hl hv
  go_enter Try.func87, Try.ntmps87
  go_wp2_with fail
  go_quiet (first | (go_at_call 63; refine Calls.quiet_of_same (CI.out _ _ _)))
  obtain ⟨W, hW⟩ : ∃ W, ((w.alloc (.cells #[.int .i64 ps, .int .i64 rs, .slice ca cn cc] 61)).alloc (.cells #[.int .i64 10, .int .i64 a, .int .i64 b, .int .i64 c, .slice la l.length lc, .slice va lv.length vc] 58)).drewN nq = W := ⟨_, rfl⟩
  have S1 := S.out.below (below_drewN (Below.refl _ _) nq)
  try dsimp only at S1
  rw [hW] at S1
  rw [hW]
  clear hW
  have S := Lib.hid S1
  clear S1
  obtain ⟨f0, f1, f2, x0, x1, x2, x3, x4, x5⟩ := S.out.fx.cells
  obtain ⟨p0, p1, p2, pg, pcap, p4, hpr⟩ := S.out.wo.pcells
  dsimp only at x0 x1 x2 x3 x4 x5
  have HU := Lib.hid (show formB sn rn fp cn rs 10 a b c l = ((a == 0) && insB b rs && insB c cn && casesB l cn) from rfl)
  have CC := Lib.hid (fun W h hc => cases_any la l lc ps rs ca cn cc W h hc)
  go_wp2_with (first
    | (go_at_call 99; refine (CC.out _ S.out.fx.li hcn).mono ?_; rintro e w1 ⟨rfl, hb⟩; have S := Lib.hid (S.out.below hb); clear hb f0 f1 f2 x0 x1 x2 x3 x4 x5 p0 p1 p2))
  all_goals (go_ret; exact ⟨ret_bool (by rw [HU.out]; simp [*]), S.out.fx.b⟩)

set_option maxHeartbeats 4000000 in
set_option maxRecDepth 8000 in
theorem ending_11  (p : Nat) (fa sa ra : Option Addr) (sn rn fc sc rc : Nat) (en : Int) (fp : List Int) (ps rs : Int) (ca : Option Addr) (cn cc : Nat) (a b c : Int) (l lv : List Int) (la : Option Addr) (lc : Nat) (va : Option Addr) (vc : Nat) (w : World) (hW : WoAt w p fa sa ra fp.length sn rn fc sc rc en) (hf : PsAt w fa fp) (hl : IntsAt .i64 w la l) (hv : IntsAt .i64 w va lv) (hcn : cn ≤ 1000000000) :
    Calls Try.prog 87 #[.pointer (some ⟨p, 0, none⟩), .agg #[.int .i64 ps, .int .i64 rs, .slice ca cn cc], .agg #[.int .i64 11, .int .i64 a, .int .i64 b, .int .i64 c, .slice la l.length lc, .slice va lv.length vc]] w fun e w' => e = .returned (.bool (formB sn rn fp cn rs 11 a b c l)) ∧ Below w.heap.size w w' := by
  have S := Lib.hid (fo_start (x := ⟨11, a, b, c, l, lv⟩) hW hf hl hv ps rs ca cn cc lc vc)
  have CI := Lib.hid (fun n e W => inside_any n e W)
  clear hW hf hl hv
  go_enter Try.func87, Try.ntmps87
  go_wp2_with fail
  go_quiet (first | (go_at_call 63; refine Calls.quiet_of_same (CI.out _ _ _)))
  obtain ⟨W, hW⟩ : ∃ W, ((w.alloc (.cells #[.int .i64 ps, .int .i64 rs, .slice ca cn cc] 61)).alloc (.cells #[.int .i64 11, .int .i64 a, .int .i64 b, .int .i64 c, .slice la l.length lc, .slice va lv.length vc] 58)).drewN nq = W := ⟨_, rfl⟩
  have S1 := S.out.below (below_drewN (Below.refl _ _) nq)
  try dsimp only at S1
  rw [hW] at S1
  rw [hW]
  clear hW
  have S := Lib.hid S1
  clear S1
  obtain ⟨f0, f1, f2, x0, x1, x2, x3, x4, x5⟩ := S.out.fx.cells
  obtain ⟨p0, p1, p2, pg, pcap, p4, hpr⟩ := S.out.wo.pcells
  dsimp only at x0 x1 x2 x3 x4 x5
  have HU := Lib.hid (show formB sn rn fp cn rs 11 a b c l = (insB a rs && (b == 0) && (c == 0) && regsB l rs) from rfl)
  have CG := Lib.hid (fun W h => regs_any la l lc ps rs ca cn cc W h)
  go_wp2_with (first
    | (go_at_call 85; refine (CG.out _ S.out.fx.li).mono ?_; rintro e w1 ⟨rfl, hb⟩; have S := Lib.hid (S.out.below hb); clear hb f0 f1 f2 x0 x1 x2 x3 x4 x5 p0 p1 p2))
  all_goals (go_ret; exact ⟨ret_bool (by rw [HU.out]; simp [*]), S.out.fx.b⟩)

set_option maxHeartbeats 4000000 in
set_option maxRecDepth 8000 in
theorem ending_13  (p : Nat) (fa sa ra : Option Addr) (sn rn fc sc rc : Nat) (en : Int) (fp : List Int) (ps rs : Int) (ca : Option Addr) (cn cc : Nat) (a b c : Int) (l lv : List Int) (la : Option Addr) (lc : Nat) (va : Option Addr) (vc : Nat) (w : World) (hW : WoAt w p fa sa ra fp.length sn rn fc sc rc en) (hf : PsAt w fa fp) (hl : IntsAt .i64 w la l) (hv : IntsAt .i64 w va lv) (hcn : cn ≤ 1000000000) :
    Calls Try.prog 87 #[.pointer (some ⟨p, 0, none⟩), .agg #[.int .i64 ps, .int .i64 rs, .slice ca cn cc], .agg #[.int .i64 13, .int .i64 a, .int .i64 b, .int .i64 c, .slice la l.length lc, .slice va lv.length vc]] w fun e w' => e = .returned (.bool (formB sn rn fp cn rs 13 a b c l)) ∧ Below w.heap.size w w' := by
  have S := Lib.hid (fo_start (x := ⟨13, a, b, c, l, lv⟩) hW hf hl hv ps rs ca cn cc lc vc)
  have CI := Lib.hid (fun n e W => inside_any n e W)
  clear hW hf hl hv
  go_enter Try.func87, Try.ntmps87
  go_wp2_with fail
  go_quiet (first | (go_at_call 63; refine Calls.quiet_of_same (CI.out _ _ _)))
  obtain ⟨W, hW⟩ : ∃ W, ((w.alloc (.cells #[.int .i64 ps, .int .i64 rs, .slice ca cn cc] 61)).alloc (.cells #[.int .i64 13, .int .i64 a, .int .i64 b, .int .i64 c, .slice la l.length lc, .slice va lv.length vc] 58)).drewN nq = W := ⟨_, rfl⟩
  have S1 := S.out.below (below_drewN (Below.refl _ _) nq)
  try dsimp only at S1
  rw [hW] at S1
  rw [hW]
  clear hW
  have S := Lib.hid S1
  clear S1
  obtain ⟨f0, f1, f2, x0, x1, x2, x3, x4, x5⟩ := S.out.fx.cells
  obtain ⟨p0, p1, p2, pg, pcap, p4, hpr⟩ := S.out.wo.pcells
  dsimp only at x0 x1 x2 x3 x4 x5
  have HU := Lib.hid (show formB sn rn fp cn rs 13 a b c l = (insB a rs && ((b == 0) || (b == 1)) && (c == 0) && ((l.length : Int) == 0)) from rfl)
  go_wp2_with fail
  all_goals (go_ret; exact ⟨ret_bool (by rw [HU.out]; simp [*]), S.out.fx.b⟩)

set_option maxHeartbeats 4000000 in
set_option maxRecDepth 8000 in
theorem ending_other (op : Int) (h9 : (op == 9) = false) (h10 : (op == 10) = false) (h11 : (op == 11) = false) (h12 : (op == 12) = false) (h13 : (op == 13) = false) (p : Nat) (fa sa ra : Option Addr) (sn rn fc sc rc : Nat) (en : Int) (fp : List Int) (ps rs : Int) (ca : Option Addr) (cn cc : Nat) (a b c : Int) (l lv : List Int) (la : Option Addr) (lc : Nat) (va : Option Addr) (vc : Nat) (w : World) (hW : WoAt w p fa sa ra fp.length sn rn fc sc rc en) (hf : PsAt w fa fp) (hl : IntsAt .i64 w la l) (hv : IntsAt .i64 w va lv) (hcn : cn ≤ 1000000000) :
    Calls Try.prog 87 #[.pointer (some ⟨p, 0, none⟩), .agg #[.int .i64 ps, .int .i64 rs, .slice ca cn cc], .agg #[.int .i64 op, .int .i64 a, .int .i64 b, .int .i64 c, .slice la l.length lc, .slice va lv.length vc]] w fun e w' => e = .returned (.bool false) ∧ Below w.heap.size w w' := by
  have S := Lib.hid (fo_start (x := ⟨op, a, b, c, l, lv⟩) hW hf hl hv ps rs ca cn cc lc vc)
  have CI := Lib.hid (fun n e W => inside_any n e W)
  clear hW hf hl hv
  go_enter Try.func87, Try.ntmps87
  go_wp2_with fail
  go_quiet (first | (go_at_call 63; refine Calls.quiet_of_same (CI.out _ _ _)))
  obtain ⟨W, hW⟩ : ∃ W, ((w.alloc (.cells #[.int .i64 ps, .int .i64 rs, .slice ca cn cc] 61)).alloc (.cells #[.int .i64 op, .int .i64 a, .int .i64 b, .int .i64 c, .slice la l.length lc, .slice va lv.length vc] 58)).drewN nq = W := ⟨_, rfl⟩
  have S1 := S.out.below (below_drewN (Below.refl _ _) nq)
  try dsimp only at S1
  rw [hW] at S1
  rw [hW]
  clear hW
  have S := Lib.hid S1
  clear S1
  obtain ⟨f0, f1, f2, x0, x1, x2, x3, x4, x5⟩ := S.out.fx.cells
  obtain ⟨p0, p1, p2, pg, pcap, p4, hpr⟩ := S.out.wo.pcells
  dsimp only at x0 x1 x2 x3 x4 x5
  go_wp2_with fail
  go_ret
  exact ⟨rfl, S.out.fx.b⟩
end Go.Proofs.Ytgbgahdeopedpaa
