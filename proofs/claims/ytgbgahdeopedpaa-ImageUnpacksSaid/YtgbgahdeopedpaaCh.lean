/- Walks of layer 16's reference: an instruction's form. -/
import Derived.Test.YtgbgahdeopedpaaCg
namespace Go.Proofs.Ytgbgahdeopedpaa
open Go.RowKit
open Fx
set_option linter.unusedVariables false
attribute [local go_sem] ext_mk size_mk toList_mk get_mk take_drop_len take_tail_len ByteArray.mk_append_mk List.append_toArray

/-- is an instruction as the table says? ns, nr: how many strings and reals; fp: the functions' numbers of parameters; cn: the code's length; rs: the registers -/
def formB (ns nr : Nat) (fp : List Int) (cn : Nat) (rs : Int) (op a b c : Int) (l : List Int) : Bool :=
  if op == 1 then insB a rs && rtB b && (c == 0) && ((l.length : Int) == 0)
  else if op == 2 then insB a rs && insB b ns && (c == 0) && ((l.length : Int) == 0)
  else if op == 3 then insB a rs && insB b nr && (c == 0) && ((l.length : Int) == 0)
  else if op == 4 then insB a rs && insB b rs && (c == 0) && ((l.length : Int) == 0)
  else if op == 5 then insB a rs && ((b == 1) || (b == 2) || (b == 4) || (b == 3)) && insB c 16777216 && ((c == 0) || (b == 3)) && regsB l rs
  else if op == 6 || op == 7 then insB a rs && insB b rs && insB c 4194305 && ((l.length : Int) == 0)
  else if op == 8 then insB a rs && insB b 61 && ((l.length : Int) == (prT b.toNat).2.1) && (if (prT b.toNat).2.2 = 0 then c == -1 else insB c cn) && regsB l rs
  else if op == 9 then (a == 0) && (b == 0) && insB c cn && ((l.length : Int) == 0)
  else if op == 10 then (a == 0) && insB b rs && insB c cn && casesB l cn
  else if op == 11 then insB a rs && (b == 0) && (c == 0) && regsB l rs
  else if op == 12 then (a == 0) && (c == 0) && insB b fp.length && regsB l rs && ((l.length : Int) == fp.getD b.toNat 0)
  else if op == 13 then insB a rs && ((b == 0) || (b == 1)) && (c == 0) && ((l.length : Int) == 0)
  else false

/-- the functions' numbers of parameters lie -/
def PsAt (w : World) (a : Option Addr) (fp : List Int) : Prop :=
  fp.length ≤ 65536 ∧ (fp = [] ∨ ∃ b off, a = some ⟨b, off, none⟩ ∧ ∀ i, i < fp.length → w.cell? ⟨b, off + 3 * i, none⟩ = some (.int .i64 (fp.getD i 0)))

theorem PsAt.below {w w' : World} {a : Option Addr} {fp : List Int} (h : PsAt w a fp) (hb : Below w.heap.size w w') : PsAt w' a fp := by
  obtain ⟨hm, h | ⟨b, off, ha, hc⟩⟩ := h
  · exact ⟨hm, .inl h⟩
  · exact ⟨hm, .inr ⟨b, off, ha, fun i hi => (hb.cell (p := ⟨b, off + 3 * i, none⟩) (World.block_lt_of_cell? w _ (hc i hi))).trans (hc i hi)⟩⟩

theorem ps_cell {w : World} {a : Option Addr} {fp : List Int} (h : PsAt w a fp) {i : Nat} (hi : i < fp.length) : ∃ b off, a = some ⟨b, off, none⟩ ∧ w.cell? ⟨b, off + 3 * i, none⟩ = some (.int .i64 (fp.getD i 0)) := by
  rcases h.2 with h | ⟨b, off, ha, hc⟩
  · rw [h] at hi; simp at hi
  · exact ⟨b, off, ha, hc i hi⟩

/-- the boxes of the program, of a function, of an instruction -/
structure FmAt (w W : World) (P F X : Nat) (fa sa ra : Option Addr) (sn rn fc sc rc : Nat) (en : Int) (fp : List Int) (ps rs : Int) (ca : Option Addr) (cn cc : Nat) (x : In) (la : Option Addr) (lc : Nat) (va : Option Addr) (vc : Nat) : Prop where
  p : KAt W P (.cells #[.slice fa fp.length fc, .slice sa sn sc, .slice ra rn rc, .int .i64 en] 31 (0, 0))
  fx : FxAt w W F X ps rs ca cn cc x la lc va vc
  fs : PsAt W fa fp

theorem FmAt.below {w W V : World} {P F X : Nat} {fa sa ra : Option Addr} {sn rn fc sc rc : Nat} {en : Int} {fp : List Int} {ps rs : Int} {ca : Option Addr} {cn cc : Nat} {x : In} {la : Option Addr} {lc : Nat} {va : Option Addr} {vc : Nat} (h : FmAt w W P F X fa sa ra sn rn fc sc rc en fp ps rs ca cn cc x la lc va vc) (hb : Below W.heap.size W V) : FmAt w V P F X fa sa ra sn rn fc sc rc en fp ps rs ca cn cc x la lc va vc :=
  ⟨h.p.below hb, h.fx.below hb, h.fs.below hb⟩

theorem FmAt.pcells {w W : World} {P F X : Nat} {fa sa ra : Option Addr} {sn rn fc sc rc : Nat} {en : Int} {fp : List Int} {ps rs : Int} {ca : Option Addr} {cn cc : Nat} {x : In} {la : Option Addr} {lc : Nat} {va : Option Addr} {vc : Nat} (h : FmAt w W P F X fa sa ra sn rn fc sc rc en fp ps rs ca cn cc x la lc va vc) :
    W.cell? ⟨P, 0, none⟩ = some (.slice fa fp.length fc) ∧ W.cell? ⟨P, 1, none⟩ = some (.slice sa sn sc) ∧ W.cell? ⟨P, 2, none⟩ = some (.slice ra rn rc) := by
  refine ⟨?_, ?_, ?_⟩
  all_goals (rw [cell_of_row _ _ _ _ _ _ h.p.x]; rfl)

theorem fm_start (w : World) (fa sa ra : Option Addr) (sn rn fc sc rc : Nat) (en : Int) (fp : List Int) (ps rs : Int) (ca : Option Addr) (cn cc : Nat) (x : In) (la : Option Addr) (lc : Nat) (va : Option Addr) (vc : Nat) (hf : PsAt w fa fp) (hl : IntsAt .i64 w la x.l) (hv : IntsAt .i64 w va x.lv) :
    FmAt w (((w.alloc (.cells #[.slice fa fp.length fc, .slice sa sn sc, .slice ra rn rc, .int .i64 en] 31)).alloc (.cells #[.int .i64 ps, .int .i64 rs, .slice ca cn cc] 61)).alloc (.cells #[.int .i64 x.op, .int .i64 x.a, .int .i64 x.b, .int .i64 x.c, .slice la x.l.length lc, .slice va x.lv.length vc] 58)) w.heap.size (w.heap.size + 1) (w.heap.size + 1 + 1) fa sa ra sn rn fc sc rc en fp ps rs ca cn cc x la lc va vc := by
  obtain ⟨A, hA⟩ : ∃ A, w.alloc (.cells #[.slice fa fp.length fc, .slice sa sn sc, .slice ra rn rc, .int .i64 en] 31) = A := ⟨_, rfl⟩
  have hb : Below w.heap.size w A := by rw [← hA]; exact (Below.refl _ _).alloc (Nat.le_refl _) _
  have kp : KAt A w.heap.size (.cells #[.slice fa fp.length fc, .slice sa sn sc, .slice ra rn rc, .int .i64 en] 31 (0, 0)) := by rw [← hA]; exact KAt.new _ _
  have zA : A.heap.size = w.heap.size + 1 := by rw [← hA]; simp
  rw [hA, ← zA]
  have h := fx_start A ps rs ca cn cc x la lc va vc (hl.below hb) (hv.below hb)
  exact ⟨kp.below h.b, ⟨hb.trans (h.b.mono (by omega)), h.f, h.xk, h.li, h.vi⟩, (hf.below hb).below h.b⟩

set_option maxHeartbeats 4000000 in
set_option maxRecDepth 8000 in
theorem rform_1 (fa sa ra : Option Addr) (sn rn fc sc rc : Nat) (en : Int) (fp : List Int) (ps rs : Int) (ca : Option Addr) (cn cc : Nat) (a b c : Int) (l lv : List Int) (la : Option Addr) (lc : Nat) (va : Option Addr) (vc : Nat) (w : World) (hf : PsAt w fa fp) (hl : IntsAt .i64 w la l) (hv : IntsAt .i64 w va lv) :
    Calls Try.prog 75 #[.agg #[.slice fa fp.length fc, .slice sa sn sc, .slice ra rn rc, .int .i64 en], .agg #[.int .i64 ps, .int .i64 rs, .slice ca cn cc], .agg #[.int .i64 1, .int .i64 a, .int .i64 b, .int .i64 c, .slice la l.length lc, .slice va lv.length vc]] w fun e w' => e = .returned (.bool (formB sn rn fp cn rs 1 a b c l)) ∧ Below w.heap.size w w' := by
  have S := Lib.hid (fm_start w fa sa ra sn rn fc sc rc en fp ps rs ca cn cc ⟨1, a, b, c, l, lv⟩ la lc va vc hf hl hv)
  have CI := Lib.hid (fun n e W => within_any n e W)
  clear hf hl hv
  go_enter Try.func75, Try.ntmps75
  go_wp2_with fail
  go_quiet (first | (go_at_call 74; refine Calls.quiet_of_same (CI.out _ _ _)))
  obtain ⟨W, hW⟩ : ∃ W, (((w.alloc (.cells #[.slice fa fp.length fc, .slice sa sn sc, .slice ra rn rc, .int .i64 en] 31)).alloc (.cells #[.int .i64 ps, .int .i64 rs, .slice ca cn cc] 61)).alloc (.cells #[.int .i64 1, .int .i64 a, .int .i64 b, .int .i64 c, .slice la l.length lc, .slice va lv.length vc] 58)).drewN nq = W := ⟨_, rfl⟩
  have S1 := S.out.below (below_drewN (Below.refl _ _) nq)
  try dsimp only at S1
  rw [hW] at S1
  rw [hW]
  clear hW
  obtain ⟨f0, f1, f2, x0, x1, x2, x3, x4, x5⟩ := S1.fx.cells
  obtain ⟨p0, p1, p2⟩ := S1.pcells
  dsimp only at x0 x1 x2 x3 x4 x5
  have S := Lib.hid S1
  clear S1
  have HU := Lib.hid (show formB sn rn fp cn rs 1 a b c l = (insB a rs && rtB b && (c == 0) && ((l.length : Int) == 0)) from rfl)
  have CR := Lib.hid (fun n W => rright_any n W)
  have CG := Lib.hid (fun W h => rregs_any la l lc ps rs ca cn cc W h)
  go_wp2_with (first
    | (go_at_call 88; refine (CR.out _ _).mono ?_; rintro e w1 ⟨rfl, rfl⟩)
    | (go_at_call 74; refine (CI.out _ _ _).mono ?_; rintro e w1 ⟨rfl, rfl⟩)
    | (go_at_call 89; refine (CG.out _ S.out.fx.li).mono ?_; rintro e w1 ⟨rfl, hb⟩; have S := Lib.hid (S.out.below hb); clear hb f0 f1 f2 x0 x1 x2 x3 x4 x5 p0 p1 p2; obtain ⟨f0, f1, f2, x0, x1, x2, x3, x4, x5⟩ := S.out.fx.cells; obtain ⟨p0, p1, p2⟩ := S.out.pcells; dsimp only at x0 x1 x2 x3 x4 x5))
  all_goals (go_ret; exact ⟨ret_bool (by rw [HU.out]; simp [*]), S.out.fx.b⟩)

set_option maxHeartbeats 4000000 in
set_option maxRecDepth 8000 in
theorem rform_2 (fa sa ra : Option Addr) (sn rn fc sc rc : Nat) (en : Int) (fp : List Int) (ps rs : Int) (ca : Option Addr) (cn cc : Nat) (a b c : Int) (l lv : List Int) (la : Option Addr) (lc : Nat) (va : Option Addr) (vc : Nat) (w : World) (hf : PsAt w fa fp) (hl : IntsAt .i64 w la l) (hv : IntsAt .i64 w va lv) :
    Calls Try.prog 75 #[.agg #[.slice fa fp.length fc, .slice sa sn sc, .slice ra rn rc, .int .i64 en], .agg #[.int .i64 ps, .int .i64 rs, .slice ca cn cc], .agg #[.int .i64 2, .int .i64 a, .int .i64 b, .int .i64 c, .slice la l.length lc, .slice va lv.length vc]] w fun e w' => e = .returned (.bool (formB sn rn fp cn rs 2 a b c l)) ∧ Below w.heap.size w w' := by
  have S := Lib.hid (fm_start w fa sa ra sn rn fc sc rc en fp ps rs ca cn cc ⟨2, a, b, c, l, lv⟩ la lc va vc hf hl hv)
  have CI := Lib.hid (fun n e W => within_any n e W)
  clear hf hl hv
  go_enter Try.func75, Try.ntmps75
  go_wp2_with fail
  go_quiet (first | (go_at_call 74; refine Calls.quiet_of_same (CI.out _ _ _)))
  obtain ⟨W, hW⟩ : ∃ W, (((w.alloc (.cells #[.slice fa fp.length fc, .slice sa sn sc, .slice ra rn rc, .int .i64 en] 31)).alloc (.cells #[.int .i64 ps, .int .i64 rs, .slice ca cn cc] 61)).alloc (.cells #[.int .i64 2, .int .i64 a, .int .i64 b, .int .i64 c, .slice la l.length lc, .slice va lv.length vc] 58)).drewN nq = W := ⟨_, rfl⟩
  have S1 := S.out.below (below_drewN (Below.refl _ _) nq)
  try dsimp only at S1
  rw [hW] at S1
  rw [hW]
  clear hW
  obtain ⟨f0, f1, f2, x0, x1, x2, x3, x4, x5⟩ := S1.fx.cells
  obtain ⟨p0, p1, p2⟩ := S1.pcells
  dsimp only at x0 x1 x2 x3 x4 x5
  have S := Lib.hid S1
  clear S1
  have HU := Lib.hid (show formB sn rn fp cn rs 2 a b c l = (insB a rs && insB b sn && (c == 0) && ((l.length : Int) == 0)) from rfl)
  have CR := Lib.hid (fun n W => rright_any n W)
  have CG := Lib.hid (fun W h => rregs_any la l lc ps rs ca cn cc W h)
  go_wp2_with (first
    | (go_at_call 88; refine (CR.out _ _).mono ?_; rintro e w1 ⟨rfl, rfl⟩)
    | (go_at_call 74; refine (CI.out _ _ _).mono ?_; rintro e w1 ⟨rfl, rfl⟩)
    | (go_at_call 89; refine (CG.out _ S.out.fx.li).mono ?_; rintro e w1 ⟨rfl, hb⟩; have S := Lib.hid (S.out.below hb); clear hb f0 f1 f2 x0 x1 x2 x3 x4 x5 p0 p1 p2; obtain ⟨f0, f1, f2, x0, x1, x2, x3, x4, x5⟩ := S.out.fx.cells; obtain ⟨p0, p1, p2⟩ := S.out.pcells; dsimp only at x0 x1 x2 x3 x4 x5))
  all_goals (go_ret; exact ⟨ret_bool (by rw [HU.out]; simp [*]), S.out.fx.b⟩)

set_option maxHeartbeats 4000000 in
set_option maxRecDepth 8000 in
theorem rform_3 (fa sa ra : Option Addr) (sn rn fc sc rc : Nat) (en : Int) (fp : List Int) (ps rs : Int) (ca : Option Addr) (cn cc : Nat) (a b c : Int) (l lv : List Int) (la : Option Addr) (lc : Nat) (va : Option Addr) (vc : Nat) (w : World) (hf : PsAt w fa fp) (hl : IntsAt .i64 w la l) (hv : IntsAt .i64 w va lv) :
    Calls Try.prog 75 #[.agg #[.slice fa fp.length fc, .slice sa sn sc, .slice ra rn rc, .int .i64 en], .agg #[.int .i64 ps, .int .i64 rs, .slice ca cn cc], .agg #[.int .i64 3, .int .i64 a, .int .i64 b, .int .i64 c, .slice la l.length lc, .slice va lv.length vc]] w fun e w' => e = .returned (.bool (formB sn rn fp cn rs 3 a b c l)) ∧ Below w.heap.size w w' := by
  have S := Lib.hid (fm_start w fa sa ra sn rn fc sc rc en fp ps rs ca cn cc ⟨3, a, b, c, l, lv⟩ la lc va vc hf hl hv)
  have CI := Lib.hid (fun n e W => within_any n e W)
  clear hf hl hv
  go_enter Try.func75, Try.ntmps75
  go_wp2_with fail
  go_quiet (first | (go_at_call 74; refine Calls.quiet_of_same (CI.out _ _ _)))
  obtain ⟨W, hW⟩ : ∃ W, (((w.alloc (.cells #[.slice fa fp.length fc, .slice sa sn sc, .slice ra rn rc, .int .i64 en] 31)).alloc (.cells #[.int .i64 ps, .int .i64 rs, .slice ca cn cc] 61)).alloc (.cells #[.int .i64 3, .int .i64 a, .int .i64 b, .int .i64 c, .slice la l.length lc, .slice va lv.length vc] 58)).drewN nq = W := ⟨_, rfl⟩
  have S1 := S.out.below (below_drewN (Below.refl _ _) nq)
  try dsimp only at S1
  rw [hW] at S1
  rw [hW]
  clear hW
  obtain ⟨f0, f1, f2, x0, x1, x2, x3, x4, x5⟩ := S1.fx.cells
  obtain ⟨p0, p1, p2⟩ := S1.pcells
  dsimp only at x0 x1 x2 x3 x4 x5
  have S := Lib.hid S1
  clear S1
  have HU := Lib.hid (show formB sn rn fp cn rs 3 a b c l = (insB a rs && insB b rn && (c == 0) && ((l.length : Int) == 0)) from rfl)
  have CR := Lib.hid (fun n W => rright_any n W)
  have CG := Lib.hid (fun W h => rregs_any la l lc ps rs ca cn cc W h)
  go_wp2_with (first
    | (go_at_call 88; refine (CR.out _ _).mono ?_; rintro e w1 ⟨rfl, rfl⟩)
    | (go_at_call 74; refine (CI.out _ _ _).mono ?_; rintro e w1 ⟨rfl, rfl⟩)
    | (go_at_call 89; refine (CG.out _ S.out.fx.li).mono ?_; rintro e w1 ⟨rfl, hb⟩; have S := Lib.hid (S.out.below hb); clear hb f0 f1 f2 x0 x1 x2 x3 x4 x5 p0 p1 p2; obtain ⟨f0, f1, f2, x0, x1, x2, x3, x4, x5⟩ := S.out.fx.cells; obtain ⟨p0, p1, p2⟩ := S.out.pcells; dsimp only at x0 x1 x2 x3 x4 x5))
  all_goals (go_ret; exact ⟨ret_bool (by rw [HU.out]; simp [*]), S.out.fx.b⟩)

set_option maxHeartbeats 4000000 in
set_option maxRecDepth 8000 in
theorem rform_4 (fa sa ra : Option Addr) (sn rn fc sc rc : Nat) (en : Int) (fp : List Int) (ps rs : Int) (ca : Option Addr) (cn cc : Nat) (a b c : Int) (l lv : List Int) (la : Option Addr) (lc : Nat) (va : Option Addr) (vc : Nat) (w : World) (hf : PsAt w fa fp) (hl : IntsAt .i64 w la l) (hv : IntsAt .i64 w va lv) :
    Calls Try.prog 75 #[.agg #[.slice fa fp.length fc, .slice sa sn sc, .slice ra rn rc, .int .i64 en], .agg #[.int .i64 ps, .int .i64 rs, .slice ca cn cc], .agg #[.int .i64 4, .int .i64 a, .int .i64 b, .int .i64 c, .slice la l.length lc, .slice va lv.length vc]] w fun e w' => e = .returned (.bool (formB sn rn fp cn rs 4 a b c l)) ∧ Below w.heap.size w w' := by
  have S := Lib.hid (fm_start w fa sa ra sn rn fc sc rc en fp ps rs ca cn cc ⟨4, a, b, c, l, lv⟩ la lc va vc hf hl hv)
  have CI := Lib.hid (fun n e W => within_any n e W)
  clear hf hl hv
  go_enter Try.func75, Try.ntmps75
  go_wp2_with fail
  go_quiet (first | (go_at_call 74; refine Calls.quiet_of_same (CI.out _ _ _)))
  obtain ⟨W, hW⟩ : ∃ W, (((w.alloc (.cells #[.slice fa fp.length fc, .slice sa sn sc, .slice ra rn rc, .int .i64 en] 31)).alloc (.cells #[.int .i64 ps, .int .i64 rs, .slice ca cn cc] 61)).alloc (.cells #[.int .i64 4, .int .i64 a, .int .i64 b, .int .i64 c, .slice la l.length lc, .slice va lv.length vc] 58)).drewN nq = W := ⟨_, rfl⟩
  have S1 := S.out.below (below_drewN (Below.refl _ _) nq)
  try dsimp only at S1
  rw [hW] at S1
  rw [hW]
  clear hW
  obtain ⟨f0, f1, f2, x0, x1, x2, x3, x4, x5⟩ := S1.fx.cells
  obtain ⟨p0, p1, p2⟩ := S1.pcells
  dsimp only at x0 x1 x2 x3 x4 x5
  have S := Lib.hid S1
  clear S1
  have HU := Lib.hid (show formB sn rn fp cn rs 4 a b c l = (insB a rs && insB b rs && (c == 0) && ((l.length : Int) == 0)) from rfl)
  have CR := Lib.hid (fun n W => rright_any n W)
  have CG := Lib.hid (fun W h => rregs_any la l lc ps rs ca cn cc W h)
  go_wp2_with (first
    | (go_at_call 88; refine (CR.out _ _).mono ?_; rintro e w1 ⟨rfl, rfl⟩)
    | (go_at_call 74; refine (CI.out _ _ _).mono ?_; rintro e w1 ⟨rfl, rfl⟩)
    | (go_at_call 89; refine (CG.out _ S.out.fx.li).mono ?_; rintro e w1 ⟨rfl, hb⟩; have S := Lib.hid (S.out.below hb); clear hb f0 f1 f2 x0 x1 x2 x3 x4 x5 p0 p1 p2; obtain ⟨f0, f1, f2, x0, x1, x2, x3, x4, x5⟩ := S.out.fx.cells; obtain ⟨p0, p1, p2⟩ := S.out.pcells; dsimp only at x0 x1 x2 x3 x4 x5))
  all_goals (go_ret; exact ⟨ret_bool (by rw [HU.out]; simp [*]), S.out.fx.b⟩)

set_option maxHeartbeats 4000000 in
set_option maxRecDepth 8000 in
theorem rform_6 (fa sa ra : Option Addr) (sn rn fc sc rc : Nat) (en : Int) (fp : List Int) (ps rs : Int) (ca : Option Addr) (cn cc : Nat) (a b c : Int) (l lv : List Int) (la : Option Addr) (lc : Nat) (va : Option Addr) (vc : Nat) (w : World) (hf : PsAt w fa fp) (hl : IntsAt .i64 w la l) (hv : IntsAt .i64 w va lv) :
    Calls Try.prog 75 #[.agg #[.slice fa fp.length fc, .slice sa sn sc, .slice ra rn rc, .int .i64 en], .agg #[.int .i64 ps, .int .i64 rs, .slice ca cn cc], .agg #[.int .i64 6, .int .i64 a, .int .i64 b, .int .i64 c, .slice la l.length lc, .slice va lv.length vc]] w fun e w' => e = .returned (.bool (formB sn rn fp cn rs 6 a b c l)) ∧ Below w.heap.size w w' := by
  have S := Lib.hid (fm_start w fa sa ra sn rn fc sc rc en fp ps rs ca cn cc ⟨6, a, b, c, l, lv⟩ la lc va vc hf hl hv)
  have CI := Lib.hid (fun n e W => within_any n e W)
  clear hf hl hv
  go_enter Try.func75, Try.ntmps75
  go_wp2_with fail
  go_quiet (first | (go_at_call 74; refine Calls.quiet_of_same (CI.out _ _ _)))
  obtain ⟨W, hW⟩ : ∃ W, (((w.alloc (.cells #[.slice fa fp.length fc, .slice sa sn sc, .slice ra rn rc, .int .i64 en] 31)).alloc (.cells #[.int .i64 ps, .int .i64 rs, .slice ca cn cc] 61)).alloc (.cells #[.int .i64 6, .int .i64 a, .int .i64 b, .int .i64 c, .slice la l.length lc, .slice va lv.length vc] 58)).drewN nq = W := ⟨_, rfl⟩
  have S1 := S.out.below (below_drewN (Below.refl _ _) nq)
  try dsimp only at S1
  rw [hW] at S1
  rw [hW]
  clear hW
  obtain ⟨f0, f1, f2, x0, x1, x2, x3, x4, x5⟩ := S1.fx.cells
  obtain ⟨p0, p1, p2⟩ := S1.pcells
  dsimp only at x0 x1 x2 x3 x4 x5
  have S := Lib.hid S1
  clear S1
  have HU := Lib.hid (show formB sn rn fp cn rs 6 a b c l = (insB a rs && insB b rs && insB c 4194305 && ((l.length : Int) == 0)) from rfl)
  have CR := Lib.hid (fun n W => rright_any n W)
  have CG := Lib.hid (fun W h => rregs_any la l lc ps rs ca cn cc W h)
  go_wp2_with (first
    | (go_at_call 88; refine (CR.out _ _).mono ?_; rintro e w1 ⟨rfl, rfl⟩)
    | (go_at_call 74; refine (CI.out _ _ _).mono ?_; rintro e w1 ⟨rfl, rfl⟩)
    | (go_at_call 89; refine (CG.out _ S.out.fx.li).mono ?_; rintro e w1 ⟨rfl, hb⟩; have S := Lib.hid (S.out.below hb); clear hb f0 f1 f2 x0 x1 x2 x3 x4 x5 p0 p1 p2; obtain ⟨f0, f1, f2, x0, x1, x2, x3, x4, x5⟩ := S.out.fx.cells; obtain ⟨p0, p1, p2⟩ := S.out.pcells; dsimp only at x0 x1 x2 x3 x4 x5))
  all_goals (go_ret; exact ⟨ret_bool (by rw [HU.out]; simp [*]), S.out.fx.b⟩)

set_option maxHeartbeats 4000000 in
set_option maxRecDepth 8000 in
theorem rform_7 (fa sa ra : Option Addr) (sn rn fc sc rc : Nat) (en : Int) (fp : List Int) (ps rs : Int) (ca : Option Addr) (cn cc : Nat) (a b c : Int) (l lv : List Int) (la : Option Addr) (lc : Nat) (va : Option Addr) (vc : Nat) (w : World) (hf : PsAt w fa fp) (hl : IntsAt .i64 w la l) (hv : IntsAt .i64 w va lv) :
    Calls Try.prog 75 #[.agg #[.slice fa fp.length fc, .slice sa sn sc, .slice ra rn rc, .int .i64 en], .agg #[.int .i64 ps, .int .i64 rs, .slice ca cn cc], .agg #[.int .i64 7, .int .i64 a, .int .i64 b, .int .i64 c, .slice la l.length lc, .slice va lv.length vc]] w fun e w' => e = .returned (.bool (formB sn rn fp cn rs 7 a b c l)) ∧ Below w.heap.size w w' := by
  have S := Lib.hid (fm_start w fa sa ra sn rn fc sc rc en fp ps rs ca cn cc ⟨7, a, b, c, l, lv⟩ la lc va vc hf hl hv)
  have CI := Lib.hid (fun n e W => within_any n e W)
  clear hf hl hv
  go_enter Try.func75, Try.ntmps75
  go_wp2_with fail
  go_quiet (first | (go_at_call 74; refine Calls.quiet_of_same (CI.out _ _ _)))
  obtain ⟨W, hW⟩ : ∃ W, (((w.alloc (.cells #[.slice fa fp.length fc, .slice sa sn sc, .slice ra rn rc, .int .i64 en] 31)).alloc (.cells #[.int .i64 ps, .int .i64 rs, .slice ca cn cc] 61)).alloc (.cells #[.int .i64 7, .int .i64 a, .int .i64 b, .int .i64 c, .slice la l.length lc, .slice va lv.length vc] 58)).drewN nq = W := ⟨_, rfl⟩
  have S1 := S.out.below (below_drewN (Below.refl _ _) nq)
  try dsimp only at S1
  rw [hW] at S1
  rw [hW]
  clear hW
  obtain ⟨f0, f1, f2, x0, x1, x2, x3, x4, x5⟩ := S1.fx.cells
  obtain ⟨p0, p1, p2⟩ := S1.pcells
  dsimp only at x0 x1 x2 x3 x4 x5
  have S := Lib.hid S1
  clear S1
  have HU := Lib.hid (show formB sn rn fp cn rs 7 a b c l = (insB a rs && insB b rs && insB c 4194305 && ((l.length : Int) == 0)) from rfl)
  have CR := Lib.hid (fun n W => rright_any n W)
  have CG := Lib.hid (fun W h => rregs_any la l lc ps rs ca cn cc W h)
  go_wp2_with (first
    | (go_at_call 88; refine (CR.out _ _).mono ?_; rintro e w1 ⟨rfl, rfl⟩)
    | (go_at_call 74; refine (CI.out _ _ _).mono ?_; rintro e w1 ⟨rfl, rfl⟩)
    | (go_at_call 89; refine (CG.out _ S.out.fx.li).mono ?_; rintro e w1 ⟨rfl, hb⟩; have S := Lib.hid (S.out.below hb); clear hb f0 f1 f2 x0 x1 x2 x3 x4 x5 p0 p1 p2; obtain ⟨f0, f1, f2, x0, x1, x2, x3, x4, x5⟩ := S.out.fx.cells; obtain ⟨p0, p1, p2⟩ := S.out.pcells; dsimp only at x0 x1 x2 x3 x4 x5))
  all_goals (go_ret; exact ⟨ret_bool (by rw [HU.out]; simp [*]), S.out.fx.b⟩)

set_option maxHeartbeats 4000000 in
set_option maxRecDepth 8000 in
theorem rform_9 (fa sa ra : Option Addr) (sn rn fc sc rc : Nat) (en : Int) (fp : List Int) (ps rs : Int) (ca : Option Addr) (cn cc : Nat) (a b c : Int) (l lv : List Int) (la : Option Addr) (lc : Nat) (va : Option Addr) (vc : Nat) (w : World) (hf : PsAt w fa fp) (hl : IntsAt .i64 w la l) (hv : IntsAt .i64 w va lv) :
    Calls Try.prog 75 #[.agg #[.slice fa fp.length fc, .slice sa sn sc, .slice ra rn rc, .int .i64 en], .agg #[.int .i64 ps, .int .i64 rs, .slice ca cn cc], .agg #[.int .i64 9, .int .i64 a, .int .i64 b, .int .i64 c, .slice la l.length lc, .slice va lv.length vc]] w fun e w' => e = .returned (.bool (formB sn rn fp cn rs 9 a b c l)) ∧ Below w.heap.size w w' := by
  have S := Lib.hid (fm_start w fa sa ra sn rn fc sc rc en fp ps rs ca cn cc ⟨9, a, b, c, l, lv⟩ la lc va vc hf hl hv)
  have CI := Lib.hid (fun n e W => within_any n e W)
  clear hf hl hv
  go_enter Try.func75, Try.ntmps75
  go_wp2_with fail
  go_quiet (first | (go_at_call 74; refine Calls.quiet_of_same (CI.out _ _ _)))
  obtain ⟨W, hW⟩ : ∃ W, (((w.alloc (.cells #[.slice fa fp.length fc, .slice sa sn sc, .slice ra rn rc, .int .i64 en] 31)).alloc (.cells #[.int .i64 ps, .int .i64 rs, .slice ca cn cc] 61)).alloc (.cells #[.int .i64 9, .int .i64 a, .int .i64 b, .int .i64 c, .slice la l.length lc, .slice va lv.length vc] 58)).drewN nq = W := ⟨_, rfl⟩
  have S1 := S.out.below (below_drewN (Below.refl _ _) nq)
  try dsimp only at S1
  rw [hW] at S1
  rw [hW]
  clear hW
  obtain ⟨f0, f1, f2, x0, x1, x2, x3, x4, x5⟩ := S1.fx.cells
  obtain ⟨p0, p1, p2⟩ := S1.pcells
  dsimp only at x0 x1 x2 x3 x4 x5
  have S := Lib.hid S1
  clear S1
  have HU := Lib.hid (show formB sn rn fp cn rs 9 a b c l = ((a == 0) && (b == 0) && insB c cn && ((l.length : Int) == 0)) from rfl)
  have CR := Lib.hid (fun n W => rright_any n W)
  have CG := Lib.hid (fun W h => rregs_any la l lc ps rs ca cn cc W h)
  go_wp2_with (first
    | (go_at_call 88; refine (CR.out _ _).mono ?_; rintro e w1 ⟨rfl, rfl⟩)
    | (go_at_call 74; refine (CI.out _ _ _).mono ?_; rintro e w1 ⟨rfl, rfl⟩)
    | (go_at_call 89; refine (CG.out _ S.out.fx.li).mono ?_; rintro e w1 ⟨rfl, hb⟩; have S := Lib.hid (S.out.below hb); clear hb f0 f1 f2 x0 x1 x2 x3 x4 x5 p0 p1 p2; obtain ⟨f0, f1, f2, x0, x1, x2, x3, x4, x5⟩ := S.out.fx.cells; obtain ⟨p0, p1, p2⟩ := S.out.pcells; dsimp only at x0 x1 x2 x3 x4 x5))
  all_goals (go_ret; exact ⟨ret_bool (by rw [HU.out]; simp [*]), S.out.fx.b⟩)

set_option maxHeartbeats 4000000 in
set_option maxRecDepth 8000 in
theorem rform_11 (fa sa ra : Option Addr) (sn rn fc sc rc : Nat) (en : Int) (fp : List Int) (ps rs : Int) (ca : Option Addr) (cn cc : Nat) (a b c : Int) (l lv : List Int) (la : Option Addr) (lc : Nat) (va : Option Addr) (vc : Nat) (w : World) (hf : PsAt w fa fp) (hl : IntsAt .i64 w la l) (hv : IntsAt .i64 w va lv) :
    Calls Try.prog 75 #[.agg #[.slice fa fp.length fc, .slice sa sn sc, .slice ra rn rc, .int .i64 en], .agg #[.int .i64 ps, .int .i64 rs, .slice ca cn cc], .agg #[.int .i64 11, .int .i64 a, .int .i64 b, .int .i64 c, .slice la l.length lc, .slice va lv.length vc]] w fun e w' => e = .returned (.bool (formB sn rn fp cn rs 11 a b c l)) ∧ Below w.heap.size w w' := by
  have S := Lib.hid (fm_start w fa sa ra sn rn fc sc rc en fp ps rs ca cn cc ⟨11, a, b, c, l, lv⟩ la lc va vc hf hl hv)
  have CI := Lib.hid (fun n e W => within_any n e W)
  clear hf hl hv
  go_enter Try.func75, Try.ntmps75
  go_wp2_with fail
  go_quiet (first | (go_at_call 74; refine Calls.quiet_of_same (CI.out _ _ _)))
  obtain ⟨W, hW⟩ : ∃ W, (((w.alloc (.cells #[.slice fa fp.length fc, .slice sa sn sc, .slice ra rn rc, .int .i64 en] 31)).alloc (.cells #[.int .i64 ps, .int .i64 rs, .slice ca cn cc] 61)).alloc (.cells #[.int .i64 11, .int .i64 a, .int .i64 b, .int .i64 c, .slice la l.length lc, .slice va lv.length vc] 58)).drewN nq = W := ⟨_, rfl⟩
  have S1 := S.out.below (below_drewN (Below.refl _ _) nq)
  try dsimp only at S1
  rw [hW] at S1
  rw [hW]
  clear hW
  obtain ⟨f0, f1, f2, x0, x1, x2, x3, x4, x5⟩ := S1.fx.cells
  obtain ⟨p0, p1, p2⟩ := S1.pcells
  dsimp only at x0 x1 x2 x3 x4 x5
  have S := Lib.hid S1
  clear S1
  have HU := Lib.hid (show formB sn rn fp cn rs 11 a b c l = (insB a rs && (b == 0) && (c == 0) && regsB l rs) from rfl)
  have CR := Lib.hid (fun n W => rright_any n W)
  have CG := Lib.hid (fun W h => rregs_any la l lc ps rs ca cn cc W h)
  go_wp2_with (first
    | (go_at_call 88; refine (CR.out _ _).mono ?_; rintro e w1 ⟨rfl, rfl⟩)
    | (go_at_call 74; refine (CI.out _ _ _).mono ?_; rintro e w1 ⟨rfl, rfl⟩)
    | (go_at_call 89; refine (CG.out _ S.out.fx.li).mono ?_; rintro e w1 ⟨rfl, hb⟩; have S := Lib.hid (S.out.below hb); clear hb f0 f1 f2 x0 x1 x2 x3 x4 x5 p0 p1 p2; obtain ⟨f0, f1, f2, x0, x1, x2, x3, x4, x5⟩ := S.out.fx.cells; obtain ⟨p0, p1, p2⟩ := S.out.pcells; dsimp only at x0 x1 x2 x3 x4 x5))
  all_goals (go_ret; exact ⟨ret_bool (by rw [HU.out]; simp [*]), S.out.fx.b⟩)

set_option maxHeartbeats 4000000 in
set_option maxRecDepth 8000 in
theorem rform_13 (fa sa ra : Option Addr) (sn rn fc sc rc : Nat) (en : Int) (fp : List Int) (ps rs : Int) (ca : Option Addr) (cn cc : Nat) (a b c : Int) (l lv : List Int) (la : Option Addr) (lc : Nat) (va : Option Addr) (vc : Nat) (w : World) (hf : PsAt w fa fp) (hl : IntsAt .i64 w la l) (hv : IntsAt .i64 w va lv) :
    Calls Try.prog 75 #[.agg #[.slice fa fp.length fc, .slice sa sn sc, .slice ra rn rc, .int .i64 en], .agg #[.int .i64 ps, .int .i64 rs, .slice ca cn cc], .agg #[.int .i64 13, .int .i64 a, .int .i64 b, .int .i64 c, .slice la l.length lc, .slice va lv.length vc]] w fun e w' => e = .returned (.bool (formB sn rn fp cn rs 13 a b c l)) ∧ Below w.heap.size w w' := by
  have S := Lib.hid (fm_start w fa sa ra sn rn fc sc rc en fp ps rs ca cn cc ⟨13, a, b, c, l, lv⟩ la lc va vc hf hl hv)
  have CI := Lib.hid (fun n e W => within_any n e W)
  clear hf hl hv
  go_enter Try.func75, Try.ntmps75
  go_wp2_with fail
  go_quiet (first | (go_at_call 74; refine Calls.quiet_of_same (CI.out _ _ _)))
  obtain ⟨W, hW⟩ : ∃ W, (((w.alloc (.cells #[.slice fa fp.length fc, .slice sa sn sc, .slice ra rn rc, .int .i64 en] 31)).alloc (.cells #[.int .i64 ps, .int .i64 rs, .slice ca cn cc] 61)).alloc (.cells #[.int .i64 13, .int .i64 a, .int .i64 b, .int .i64 c, .slice la l.length lc, .slice va lv.length vc] 58)).drewN nq = W := ⟨_, rfl⟩
  have S1 := S.out.below (below_drewN (Below.refl _ _) nq)
  try dsimp only at S1
  rw [hW] at S1
  rw [hW]
  clear hW
  obtain ⟨f0, f1, f2, x0, x1, x2, x3, x4, x5⟩ := S1.fx.cells
  obtain ⟨p0, p1, p2⟩ := S1.pcells
  dsimp only at x0 x1 x2 x3 x4 x5
  have S := Lib.hid S1
  clear S1
  have HU := Lib.hid (show formB sn rn fp cn rs 13 a b c l = (insB a rs && ((b == 0) || (b == 1)) && (c == 0) && ((l.length : Int) == 0)) from rfl)
  have CR := Lib.hid (fun n W => rright_any n W)
  have CG := Lib.hid (fun W h => rregs_any la l lc ps rs ca cn cc W h)
  go_wp2_with (first
    | (go_at_call 88; refine (CR.out _ _).mono ?_; rintro e w1 ⟨rfl, rfl⟩)
    | (go_at_call 74; refine (CI.out _ _ _).mono ?_; rintro e w1 ⟨rfl, rfl⟩)
    | (go_at_call 89; refine (CG.out _ S.out.fx.li).mono ?_; rintro e w1 ⟨rfl, hb⟩; have S := Lib.hid (S.out.below hb); clear hb f0 f1 f2 x0 x1 x2 x3 x4 x5 p0 p1 p2; obtain ⟨f0, f1, f2, x0, x1, x2, x3, x4, x5⟩ := S.out.fx.cells; obtain ⟨p0, p1, p2⟩ := S.out.pcells; dsimp only at x0 x1 x2 x3 x4 x5))
  all_goals (go_ret; exact ⟨ret_bool (by rw [HU.out]; simp [*]), S.out.fx.b⟩)
end Go.Proofs.Ytgbgahdeopedpaa
