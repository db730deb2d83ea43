/- Walks of layer 16's reference: an instruction's form, the rest. -/
import Derived.Test.YtokjkligechcoaaGreatDoorCh
import Derived.Deep.RegionWith
set_option linter.unusedVariables false
namespace Go.Proofs.YtokjkligechcoaaGreatDoor
open _root_.Go.Lib (hid)
open Go.RowKit
open Fx
attribute [local go_sem] ext_mk size_mk toList_mk get_mk take_drop_len take_tail_len ByteArray.mk_append_mk List.append_toArray
theorem ins0 : insB 0 16777216 = true := by decide
set_option maxHeartbeats 4000000 in
set_option maxRecDepth 8000 in
theorem rform_5 (fa sa ra : Option Addr) (sn rn fc sc rc : Nat) (en : Int) (fp : List Int) (ps rs : Int) (ca : Option Addr) (cn cc : Nat) (a b c : Int) (l lv : List Int) (la : Option Addr) (lc : Nat) (va : Option Addr) (vc : Nat) (w : World) (hf : PsAt w fa fp) (hl : IntsAt .i64 w la l) (hv : IntsAt .i64 w va lv) (hcn : cn ≤ 1000000000) :
  Calls Tryz.prog 84 #[.agg #[.slice fa fp.length fc, .slice sa sn sc, .slice ra rn rc, .int .i64 en], .agg #[.int .i64 ps, .int .i64 rs, .slice ca cn cc], .agg #[.int .i64 5, .int .i64 a, .int .i64 b, .int .i64 c, .slice la l.length lc, .slice va lv.length vc]] w fun e w' => e = .returned (.bool (formB sn rn fp cn rs 5 a b c l)) ∧ Below w.heap.size w w' := by
 have S := hid (fm_start w fa sa ra sn rn fc sc rc en fp ps rs ca cn cc ⟨5, a, b, c, l, lv⟩ la lc va vc hf hl hv)
 have CI := hid (fun n e W => within_any n e W)
 clear hf hl hv
 go_enter Tryz.func84, Tryz.ntmps84
 go_wp2_with fail
 go_quiet (first | (go_at_call 83; refine Calls.quiet_of_same (CI.out _ _ _)))
 obtain ⟨W, hW⟩ : ∃ W, (((w.alloc (.cells #[.slice fa fp.length fc, .slice sa sn sc, .slice ra rn rc, .int .i64 en] 26)).alloc (.cells #[.int .i64 ps, .int .i64 rs, .slice ca cn cc] 48)).alloc (.cells #[.int .i64 5, .int .i64 a, .int .i64 b, .int .i64 c, .slice la l.length lc, .slice va lv.length vc] 58)).drewN nq = W := ⟨_, rfl⟩
 have S1 := S.out.below (below_drewN (Below.refl _ _) nq)
 try dsimp only at S1
 rw [hW] at S1
 rw [hW]
 clear hW
 obtain ⟨f0, f1, f2, x0, x1, x2, x3, x4, x5⟩ := S1.fx.cells
 obtain ⟨p0, p1, p2⟩ := S1.pcells
 dsimp only at x0 x1 x2 x3 x4 x5
 have S := hid S1
 clear S1
 have HU := hid (show formB sn rn fp cn rs 5 a b c l = (insB a rs && ((b == 1) || (b == 2) || (b == 4) || (b == 3)) && insB c 16777216 && ((c == 0) || (b == 3)) && regsB l rs) from rfl)
 have CR := hid (fun n W => rright_any n W)
 have CG := hid (fun W h => rregs_any la l lc ps rs ca cn cc W h)
 go_wp2_with (first
  | (go_at_call 140; refine (CR.out _ _).mono ?_; rintro e w1 ⟨rfl, rfl⟩)
  | (go_at_call 83; refine (CI.out _ _ _).mono ?_; rintro e w1 ⟨rfl, rfl⟩)
  | (go_at_call 141; refine (CG.out _ S.out.fx.li).mono ?_; rintro e w1 ⟨rfl, hb⟩; have S := hid (S.out.below hb); clear hb f0 f1 f2 x0 x1 x2 x3 x4 x5 p0 p1 p2; obtain ⟨f0, f1, f2, x0, x1, x2, x3, x4, x5⟩ := S.out.fx.cells; obtain ⟨p0, p1, p2⟩ := S.out.pcells; dsimp only at x0 x1 x2 x3 x4 x5))
 all_goals (go_ret; exact ⟨ret_bool (by rw [HU.out]; simp [*, ins0]), S.out.fx.b⟩)
set_option maxHeartbeats 4000000 in
set_option maxRecDepth 8000 in
theorem rform_10 (fa sa ra : Option Addr) (sn rn fc sc rc : Nat) (en : Int) (fp : List Int) (ps rs : Int) (ca : Option Addr) (cn cc : Nat) (a b c : Int) (l lv : List Int) (la : Option Addr) (lc : Nat) (va : Option Addr) (vc : Nat) (w : World) (hf : PsAt w fa fp) (hl : IntsAt .i64 w la l) (hv : IntsAt .i64 w va lv) (hcn : cn ≤ 1000000000) :
  Calls Tryz.prog 84 #[.agg #[.slice fa fp.length fc, .slice sa sn sc, .slice ra rn rc, .int .i64 en], .agg #[.int .i64 ps, .int .i64 rs, .slice ca cn cc], .agg #[.int .i64 10, .int .i64 a, .int .i64 b, .int .i64 c, .slice la l.length lc, .slice va lv.length vc]] w fun e w' => e = .returned (.bool (formB sn rn fp cn rs 10 a b c l)) ∧ Below w.heap.size w w' := by
 have S := hid (fm_start w fa sa ra sn rn fc sc rc en fp ps rs ca cn cc ⟨10, a, b, c, l, lv⟩ la lc va vc hf hl hv)
 have CI := hid (fun n e W => within_any n e W)
 clear hf hl hv
 go_enter Tryz.func84, Tryz.ntmps84
 go_wp2_with fail
 go_quiet (first | (go_at_call 83; refine Calls.quiet_of_same (CI.out _ _ _)))
 obtain ⟨W, hW⟩ : ∃ W, (((w.alloc (.cells #[.slice fa fp.length fc, .slice sa sn sc, .slice ra rn rc, .int .i64 en] 26)).alloc (.cells #[.int .i64 ps, .int .i64 rs, .slice ca cn cc] 48)).alloc (.cells #[.int .i64 10, .int .i64 a, .int .i64 b, .int .i64 c, .slice la l.length lc, .slice va lv.length vc] 58)).drewN nq = W := ⟨_, rfl⟩
 have S1 := S.out.below (below_drewN (Below.refl _ _) nq)
 try dsimp only at S1
 rw [hW] at S1
 rw [hW]
 clear hW
 obtain ⟨f0, f1, f2, x0, x1, x2, x3, x4, x5⟩ := S1.fx.cells
 obtain ⟨p0, p1, p2⟩ := S1.pcells
 dsimp only at x0 x1 x2 x3 x4 x5
 have S := hid S1
 clear S1
 have HU := hid (show formB sn rn fp cn rs 10 a b c l = ((a == 0) && insB b rs && insB c cn && casesB l cn) from rfl)
 have CC := hid (fun W h hc => rcases_any la l lc ps rs ca cn cc W h hc)
 go_wp2_with (first
  | (go_at_call 83; refine (CI.out _ _ _).mono ?_; rintro e w1 ⟨rfl, rfl⟩)
  | (go_at_call 142; refine (CC.out _ S.out.fx.li hcn).mono ?_; rintro e w1 ⟨rfl, hb⟩; have S := hid (S.out.below hb); clear hb f0 f1 f2 x0 x1 x2 x3 x4 x5 p0 p1 p2))
 all_goals (go_ret; exact ⟨ret_bool (by rw [HU.out]; simp [*]), S.out.fx.b⟩)
set_option maxHeartbeats 1000000 in
set_option maxRecDepth 8000 in
theorem rform_12 (fa sa ra : Option Addr) (sn rn fc sc rc : Nat) (en : Int) (fp : List Int) (ps rs : Int) (ca : Option Addr) (cn cc : Nat) (a b c : Int) (l lv : List Int) (la : Option Addr) (lc : Nat) (va : Option Addr) (vc : Nat) (w : World) (hf : PsAt w fa fp) (hl : IntsAt .i64 w la l) (hv : IntsAt .i64 w va lv) (hcn : cn ≤ 1000000000) :
  Calls Tryz.prog 84 #[.agg #[.slice fa fp.length fc, .slice sa sn sc, .slice ra rn rc, .int .i64 en], .agg #[.int .i64 ps, .int .i64 rs, .slice ca cn cc], .agg #[.int .i64 12, .int .i64 a, .int .i64 b, .int .i64 c, .slice la l.length lc, .slice va lv.length vc]] w fun e w' => e = .returned (.bool (formB sn rn fp cn rs 12 a b c l)) ∧ Below w.heap.size w w' := by
 have S := hid (fm_start w fa sa ra sn rn fc sc rc en fp ps rs ca cn cc ⟨12, a, b, c, l, lv⟩ la lc va vc hf hl hv)
 have CI := hid (fun n e W => within_any n e W)
 clear hf hl hv
 go_enter Tryz.func84, Tryz.ntmps84
 go_wp2_with fail
 go_quiet (first | (go_at_call 83; refine Calls.quiet_of_same (CI.out _ _ _)))
 obtain ⟨W, hW⟩ : ∃ W, (((w.alloc (.cells #[.slice fa fp.length fc, .slice sa sn sc, .slice ra rn rc, .int .i64 en] 26)).alloc (.cells #[.int .i64 ps, .int .i64 rs, .slice ca cn cc] 48)).alloc (.cells #[.int .i64 12, .int .i64 a, .int .i64 b, .int .i64 c, .slice la l.length lc, .slice va lv.length vc] 58)).drewN nq = W := ⟨_, rfl⟩
 have S1 := S.out.below (below_drewN (Below.refl _ _) nq)
 try dsimp only at S1
 rw [hW] at S1
 rw [hW]
 clear hW
 obtain ⟨f0, f1, f2, x0, x1, x2, x3, x4, x5⟩ := S1.fx.cells
 obtain ⟨p0, p1, p2⟩ := S1.pcells
 dsimp only at x0 x1 x2 x3 x4 x5
 have S := hid S1
 clear S1
 have HU := hid (show formB sn rn fp cn rs 12 a b c l = ((a == 0) && (c == 0) && insB b fp.length && regsB l rs && ((l.length : Int) == fp.getD b.toNat 0)) from rfl)
 have CG := hid (fun W h => rregs_any la l lc ps rs ca cn cc W h)
 by_cases ha : a = 0
 rotate_left
 ·have ha' : (a == 0) = false := by simpa using ha
  have CB := hid (fun W => within_any 0 0 W)
  go_wp2_with fail
  go_quiet (first | (go_at_call 83; refine Calls.quiet_of_same (CB.out _)))
  go_wp2_with fail
  go_ret
  exact ⟨ret_bool (by rw [HU.out]; simp [*]), below_drewN S.out.fx.b _⟩
 by_cases hc : c = 0
 rotate_left
 ·have hc' : (c == 0) = false := by simpa using hc
  have CB := hid (fun W => within_any 0 0 W)
  go_wp2_with fail
  go_quiet (first | (go_at_call 83; refine Calls.quiet_of_same (CB.out _)))
  go_wp2_with fail
  go_ret
  exact ⟨ret_bool (by rw [HU.out]; simp [*]), below_drewN S.out.fx.b _⟩
 subst ha
 subst hc
 cases hb : insB b fp.length
 ·have CB := hid (fun W => within_eq hb W)
  go_wp2_with fail
  go_quiet (first | (go_at_call 83; refine Calls.quiet_of_same (CB.out _)))
  go_wp2_with fail
  go_ret
  exact ⟨ret_bool (by rw [HU.out]; simp [*]), below_drewN S.out.fx.b _⟩
 have CB := hid (fun W => within_eq hb W)
 obtain ⟨hb0, hb1⟩ := insB_true hb
 obtain ⟨i, rfl⟩ := Int.eq_ofNat_of_zero_le hb0
 have hi : i < fp.length := by omega
 obtain ⟨fB, fO, rfl, fC⟩ := ps_cell S.out.fs hi
 obtain ⟨v, hv⟩ : ∃ v, fp.getD i 0 = v := ⟨_, rfl⟩
 rw [hv, Nat.mul_comm] at fC
 have k1 : decide ((i : Int) < (fp.length : Int)) = true := decide_eq_true hb1
 obtain ⟨SS, hSS⟩ : ∃ SS : World → Prop, SS = fun V => FmAt w V w.heap.size (w.heap.size + 1) (w.heap.size + 1 + 1) (some ⟨fB, fO, none⟩) sa ra sn rn fc sc rc en fp ps rs ca cn cc ⟨12, 0, i, 0, l, lv⟩ la lc va vc ∧ V.cell? ⟨fB, fO + i * 3, none⟩ = some (.int .i64 v) := ⟨_, rfl⟩
 have SK : Hid (∀ A B, SS A → Below A.heap.size A B → B.cell? ⟨w.heap.size, 0, none⟩ = some (.slice (some ⟨fB, fO, none⟩) fp.length fc) ∧ B.cell? ⟨w.heap.size + 1, 0, none⟩ = some (.int .i64 ps) ∧ B.cell? ⟨w.heap.size + 1, 1, none⟩ = some (.int .i64 rs) ∧ B.cell? ⟨w.heap.size + 1, 2, none⟩ = some (.slice ca cn cc) ∧ B.cell? ⟨w.heap.size + 1 + 1, 1, none⟩ = some (.int .i64 0) ∧ B.cell? ⟨w.heap.size + 1 + 1, 2, none⟩ = some (.int .i64 i) ∧ B.cell? ⟨w.heap.size + 1 + 1, 3, none⟩ = some (.int .i64 0) ∧ B.cell? ⟨w.heap.size + 1 + 1, 4, none⟩ = some (.slice la l.length lc) ∧ B.cell? ⟨fB, fO + i * 3, none⟩ = some (.int .i64 v) ∧ SS B) := hid (by
  rw [hSS]
  rintro A B ⟨h, hc⟩ hb
  have h2 := h.below hb
  obtain ⟨f0, f1, f2, x0, x1, x2, x3, x4, x5⟩ := h2.fx.cells
  have hc2 := (hb.cell (p := ⟨fB, fO + i * 3, none⟩) (World.block_lt_of_cell? A _ hc)).trans hc
  exact ⟨h2.pcells.1, f0, f1, f2, x1, x2, x3, x4, hc2, h2, hc2⟩)
 have hS0 : SS W.drew := by rw [hSS]; exact ⟨S.out.below (Below.refl _ _).drew, by simpa using fC⟩
 have HB : Hid (∀ V, SS V → Below w.heap.size w V) := hid (by rw [hSS]; rintro V ⟨h, _⟩; exact h.fx.b)
 have HV := hid hv
 cases hr : regsB l rs
 ·have CG2 : Hid (∀ V, SS V → Calls Tryz.prog 141 #[.slice la l.length lc, .agg #[.int .i64 ps, .int .i64 rs, .slice ca cn cc]] V fun x w' => x = .returned (.bool false) ∧ Below V.heap.size V w') := hid (by
   rw [hSS]; rintro V ⟨h, _⟩; have := CG.out V h.fx.li; rw [hr] at this; exact this)
  clear hSS hv CG S
  go_wp2_with fail
  refine wp_region_held_drew (S := (fun w' => w'.cell? ⟨w.heap.size, 0, none⟩ = some (.slice (some ⟨fB, fO, none⟩) fp.length fc) ∧ w'.cell? ⟨w.heap.size + 1, 0, none⟩ = some (.int .i64 ps) ∧ w'.cell? ⟨w.heap.size + 1, 1, none⟩ = some (.int .i64 rs) ∧ w'.cell? ⟨w.heap.size + 1, 2, none⟩ = some (.slice ca cn cc) ∧ w'.cell? ⟨w.heap.size + 1 + 1, 1, none⟩ = some (.int .i64 0) ∧ w'.cell? ⟨w.heap.size + 1 + 1, 2, none⟩ = some (.int .i64 i) ∧ w'.cell? ⟨w.heap.size + 1 + 1, 3, none⟩ = some (.int .i64 0) ∧ w'.cell? ⟨w.heap.size + 1 + 1, 4, none⟩ = some (.slice la l.length lc) ∧ w'.cell? ⟨fB, fO + i * 3, none⟩ = some (.int .i64 v) ∧ SS w')) (by kernel_rfl) (by first | (refine ⟨?_, ?_, ?_, ?_, ?_, ?_, ?_, ?_, ?_, hS0⟩ <;> (go_keep; done))) (fun hHeld => ?_)
  refine wpAnyH_take (i := 0) (v := ?_) (by simp only [List.getElem?_toArray]; rfl) (by kernel_rfl) (by kernel_rfl) (by kernel_rfl) (by exact fun _ _ _ h => h) (Or.inl ⟨by rfl, ?_⟩) (by assumption) ?_
  rotate_left
  ·intro w hSw
   (try dsimp only at hSw)
   go_simp
   all_goals with_reducible rfl
  try simp only [Act.put, List.setIfInBounds_toArray, List.set_cons_zero, List.set_cons_succ]
  refine wpAnyH_take (i := 1) (v := ?_) (by simp only [List.getElem?_toArray]; rfl) (by kernel_rfl) (by kernel_rfl) (by kernel_rfl) (by exact fun _ _ _ h => h) (Or.inl ⟨by rfl, ?_⟩) (by assumption) ?_
  rotate_left
  ·intro w hSw
   (try dsimp only at hSw)
   go_simp
   all_goals with_reducible rfl
  try simp only [Act.put, List.setIfInBounds_toArray, List.set_cons_zero, List.set_cons_succ]
  refine wpAnyH_take (i := 2) (v := ?_) (by simp only [List.getElem?_toArray]; rfl) (by kernel_rfl) (by kernel_rfl) (by kernel_rfl) (by exact fun _ _ _ h => h) (Or.inl ⟨by rfl, ?_⟩) (by assumption) ?_
  rotate_left
  ·intro w hSw
   (try dsimp only at hSw)
   go_simp
   all_goals with_reducible rfl
  try simp only [Act.put, List.setIfInBounds_toArray, List.set_cons_zero, List.set_cons_succ]
  refine wpAnyH_take (i := 3) (v := ?_) (by simp only [List.getElem?_toArray]; rfl) (by kernel_rfl) (by kernel_rfl) (by kernel_rfl) (by exact fun _ _ _ h => h) (Or.inl ⟨by rfl, ?_⟩) (by assumption) ?_
  rotate_left
  ·intro w hSw
   (try dsimp only at hSw)
   go_simp
   all_goals with_reducible rfl
  try simp only [Act.put, List.setIfInBounds_toArray, List.set_cons_zero, List.set_cons_succ]
  refine wpAnyH_take (i := 4) (v := ?_) (by simp only [List.getElem?_toArray]; rfl) (by kernel_rfl) (by kernel_rfl) (by kernel_rfl) (by exact fun _ _ _ h => h) (Or.inl ⟨by rfl, ?_⟩) (by assumption) ?_
  rotate_left
  ·intro w hSw
   (try dsimp only at hSw)
   go_simp
   all_goals with_reducible rfl
  try simp only [Act.put, List.setIfInBounds_toArray, List.set_cons_zero, List.set_cons_succ]
  refine wpAnyH_take (i := 5) (v := ?_) (by simp only [List.getElem?_toArray]; rfl) (by kernel_rfl) (by kernel_rfl) (by kernel_rfl) (by exact fun _ _ _ h => h) (Or.inl ⟨by rfl, ?_⟩) (by assumption) ?_
  rotate_left
  ·intro w hSw
   (try dsimp only at hSw)
   go_simp
   all_goals with_reducible rfl
  try simp only [Act.put, List.setIfInBounds_toArray, List.set_cons_zero, List.set_cons_succ]
  refine wpAnyH_take (i := 6) (v := ?_) (by simp only [List.getElem?_toArray]; rfl) (by kernel_rfl) (by kernel_rfl) (by kernel_rfl) (by exact fun _ _ _ h => h) (Or.inl ⟨by rfl, ?_⟩) (by assumption) ?_
  rotate_left
  ·intro w hSw
   (try dsimp only at hSw)
   go_simp
   all_goals with_reducible rfl
  try simp only [Act.put, List.setIfInBounds_toArray, List.set_cons_zero, List.set_cons_succ]
  refine wpAnyH_take (i := 7) (v := ?_) (by simp only [List.getElem?_toArray]; rfl) (by kernel_rfl) (by kernel_rfl) (by kernel_rfl) (by exact fun _ _ _ h => h) (Or.inl ⟨by rfl, ?_⟩) (by assumption) ?_
  rotate_left
  ·intro w hSw
   (try dsimp only at hSw)
   go_simp
   all_goals with_reducible rfl
  try simp only [Act.put, List.setIfInBounds_toArray, List.set_cons_zero, List.set_cons_succ]
  refine wpAnyH_take (i := 8) (v := ?_) (by simp only [List.getElem?_toArray]; rfl) (by kernel_rfl) (by kernel_rfl) (by kernel_rfl) (by exact fun _ _ _ h => h) (Or.inl ⟨by rfl, ?_⟩) (by assumption) ?_
  rotate_left
  ·intro w hSw
   (try dsimp only at hSw)
   go_simp
   all_goals with_reducible rfl
  try simp only [Act.put, List.setIfInBounds_toArray, List.set_cons_zero, List.set_cons_succ]
  refine wpAnyH_take (i := 9) (v := ?_) (by simp only [List.getElem?_toArray]; rfl) (by kernel_rfl) (by kernel_rfl) (by kernel_rfl) (by exact fun _ _ _ h => h) (Or.inl ⟨by rfl, ?_⟩) (by assumption) ?_
  rotate_left
  ·intro w hSw
   (try dsimp only at hSw)
   go_simp
   all_goals with_reducible rfl
  try simp only [Act.put, List.setIfInBounds_toArray, List.set_cons_zero, List.set_cons_succ]
  refine wpAnyH_take (i := 10) (v := ?_) (by simp only [List.getElem?_toArray]; rfl) (by kernel_rfl) (by kernel_rfl) (by kernel_rfl) (by exact fun _ _ _ h => h) (Or.inl ⟨by rfl, ?_⟩) (by assumption) ?_
  rotate_left
  ·intro w hSw
   (try dsimp only at hSw)
   go_simp
   all_goals with_reducible rfl
  try simp only [Act.put, List.setIfInBounds_toArray, List.set_cons_zero, List.set_cons_succ]
  refine wpAnyH_take (i := 11) (v := ?_) (by simp only [List.getElem?_toArray]; rfl) (by kernel_rfl) (by kernel_rfl) (by kernel_rfl) (by exact fun _ _ _ h => h) (Or.inl ⟨by rfl, ?_⟩) (by assumption) ?_
  rotate_left
  ·intro w hSw
   (try dsimp only at hSw)
   go_simp
   all_goals with_reducible rfl
  try simp only [Act.put, List.setIfInBounds_toArray, List.set_cons_zero, List.set_cons_succ]
  refine wpAnyH_take (i := 12) (v := ?_) (by simp only [List.getElem?_toArray]; rfl) (by kernel_rfl) (by kernel_rfl) (by kernel_rfl) (by exact fun _ _ _ h => h) (Or.inl ⟨by rfl, ?_⟩) (by assumption) ?_
  rotate_left
  ·intro w hSw
   (try dsimp only at hSw)
   go_simp
   all_goals with_reducible rfl
  try simp only [Act.put, List.setIfInBounds_toArray, List.set_cons_zero, List.set_cons_succ]
  refine wpAnyH_take (i := 13) (v := ?_) (by simp only [List.getElem?_toArray]; rfl) (by kernel_rfl) (by kernel_rfl) (by kernel_rfl) (by exact fun _ _ _ h => h) (Or.inl ⟨by rfl, ?_⟩) (by assumption) ?_
  rotate_left
  ·intro w hSw
   (try dsimp only at hSw)
   go_simp
   all_goals with_reducible rfl
  try simp only [Act.put, List.setIfInBounds_toArray, List.set_cons_zero, List.set_cons_succ]
  refine wpAnyH_ready (rs := [14]) (by kernel_rfl) (by simp) ?_
  refine AllReadyH.cons (by simp only [List.getElem?_toArray]; rfl) (fun K hK => ?_) AllReadyH.nil
  rw [if_pos (by rfl)]
  go_simp
  go_at_call 83; (with_reducible refine (CB.out _).mono ?_); rintro e w1 ⟨rfl, rfl⟩
  refine hK.out _ _ (by assumption) (fun hHeld => ?_)
  try simp only [Act.put, List.setIfInBounds_toArray, List.set_cons_zero, List.set_cons_succ]
  refine wpAnyH_take (i := 15) (v := ?_) (by simp only [List.getElem?_toArray]; rfl) (by kernel_rfl) (by kernel_rfl) (by kernel_rfl) (by exact fun _ _ _ h => h) (Or.inl ⟨by rfl, ?_⟩) (by assumption) ?_
  rotate_left
  ·intro w hSw
   (try dsimp only at hSw)
   go_simp
   all_goals with_reducible rfl
  try simp only [Act.put, List.setIfInBounds_toArray, List.set_cons_zero, List.set_cons_succ]
  refine wpAnyH_take (i := 16) (v := ?_) (by simp only [List.getElem?_toArray]; rfl) (by kernel_rfl) (by kernel_rfl) (by kernel_rfl) (by exact fun _ _ _ h => h) (Or.inl ⟨by rfl, ?_⟩) (by assumption) ?_
  rotate_left
  ·intro w hSw
   (try dsimp only at hSw)
   go_simp
   all_goals with_reducible rfl
  try simp only [Act.put, List.setIfInBounds_toArray, List.set_cons_zero, List.set_cons_succ]
  refine wpAnyH_take (i := 17) (v := ?_) (by simp only [List.getElem?_toArray]; rfl) (by kernel_rfl) (by kernel_rfl) (by kernel_rfl) (by exact fun _ _ _ h => h) (Or.inl ⟨by rfl, ?_⟩) (by assumption) ?_
  rotate_left
  ·intro w hSw
   (try dsimp only at hSw)
   go_simp
   all_goals with_reducible rfl
  try simp only [Act.put, List.setIfInBounds_toArray, List.set_cons_zero, List.set_cons_succ]
  refine wpAnyH_take (i := 18) (v := ?_) (by simp only [List.getElem?_toArray]; rfl) (by kernel_rfl) (by kernel_rfl) (by kernel_rfl) (by exact fun _ _ _ h => h) (Or.inl ⟨by rfl, ?_⟩) (by assumption) ?_
  rotate_left
  ·intro w hSw
   (try dsimp only at hSw)
   go_simp
   all_goals with_reducible rfl
  try simp only [Act.put, List.setIfInBounds_toArray, List.set_cons_zero, List.set_cons_succ]
  refine wpAnyH_take (i := 19) (v := ?_) (by simp only [List.getElem?_toArray]; rfl) (by kernel_rfl) (by kernel_rfl) (by kernel_rfl) (by exact fun _ _ _ h => h) (Or.inl ⟨by rfl, ?_⟩) (by assumption) ?_
  rotate_left
  ·intro w hSw
   (try dsimp only at hSw)
   go_simp
   all_goals with_reducible rfl
  try simp only [Act.put, List.setIfInBounds_toArray, List.set_cons_zero, List.set_cons_succ]
  refine wpAnyH_ready (rs := [20]) (by kernel_rfl) (by simp) ?_
  refine AllReadyH.cons (by simp only [List.getElem?_toArray]; rfl) (fun K hK => ?_) AllReadyH.nil
  rw [if_pos (by rfl)]
  go_simp
  go_at_call 141; (with_reducible refine (CG2.out _ ?_).mono ?_)
  ·go_split_ands; assumption
  rintro e w1 ⟨rfl, hbx⟩
  refine hK.out _ _ (by go_split_ands; exact SK.out _ _ (by assumption) hbx) (fun hHeld2 => ?_)
  try simp only [Act.put, List.setIfInBounds_toArray, List.set_cons_zero, List.set_cons_succ]
  refine wpAnyH_take (i := 21) (v := ?_) (by simp only [List.getElem?_toArray]; rfl) (by kernel_rfl) (by kernel_rfl) (by kernel_rfl) (by exact fun _ _ _ h => h) (Or.inl ⟨by rfl, ?_⟩) (by assumption) ?_
  rotate_left
  ·intro w hSw
   (try dsimp only at hSw)
   go_simp
   all_goals with_reducible rfl
  try simp only [Act.put, List.setIfInBounds_toArray, List.set_cons_zero, List.set_cons_succ]
  refine wpAnyH_take (i := 22) (v := ?_) (by simp only [List.getElem?_toArray]; rfl) (by kernel_rfl) (by kernel_rfl) (by kernel_rfl) (by exact fun _ _ _ h => h) (Or.inl ⟨by rfl, ?_⟩) (by assumption) ?_
  rotate_left
  ·intro w hSw
   (try dsimp only at hSw)
   go_simp
   all_goals with_reducible rfl
  try simp only [Act.put, List.setIfInBounds_toArray, List.set_cons_zero, List.set_cons_succ]
  refine wpAnyH_take (i := 23) (v := undef) (by simp only [List.getElem?_toArray]; rfl) (by kernel_rfl) (by kernel_rfl) (by kernel_rfl) (by exact fun _ _ _ h => h) (Or.inr ⟨by rfl, rfl⟩) (by assumption) ?_
  try simp only [Act.put, List.setIfInBounds_toArray, List.set_cons_zero, List.set_cons_succ]
  refine wpAnyH_take (i := 24) (v := undef) (by simp only [List.getElem?_toArray]; rfl) (by kernel_rfl) (by kernel_rfl) (by kernel_rfl) (by exact fun _ _ _ h => h) (Or.inr ⟨by rfl, rfl⟩) (by assumption) ?_
  try simp only [Act.put, List.setIfInBounds_toArray, List.set_cons_zero, List.set_cons_succ]
  refine wpAnyH_take (i := 25) (v := undef) (by simp only [List.getElem?_toArray]; rfl) (by kernel_rfl) (by kernel_rfl) (by kernel_rfl) (by exact fun _ _ _ h => h) (Or.inr ⟨by rfl, rfl⟩) (by assumption) ?_
  try simp only [Act.put, List.setIfInBounds_toArray, List.set_cons_zero, List.set_cons_succ]
  refine wpAnyH_take (i := 26) (v := undef) (by simp only [List.getElem?_toArray]; rfl) (by kernel_rfl) (by kernel_rfl) (by kernel_rfl) (by exact fun _ _ _ h => h) (Or.inr ⟨by rfl, rfl⟩) (by assumption) ?_
  try simp only [Act.put, List.setIfInBounds_toArray, List.set_cons_zero, List.set_cons_succ]
  refine wpAnyH_take (i := 27) (v := undef) (by simp only [List.getElem?_toArray]; rfl) (by kernel_rfl) (by kernel_rfl) (by kernel_rfl) (by exact fun _ _ _ h => h) (Or.inr ⟨by rfl, rfl⟩) (by assumption) ?_
  try simp only [Act.put, List.setIfInBounds_toArray, List.set_cons_zero, List.set_cons_succ]
  refine wpAnyH_take (i := 28) (v := undef) (by simp only [List.getElem?_toArray]; rfl) (by kernel_rfl) (by kernel_rfl) (by kernel_rfl) (by exact fun _ _ _ h => h) (Or.inr ⟨by rfl, rfl⟩) (by assumption) ?_
  try simp only [Act.put, List.setIfInBounds_toArray, List.set_cons_zero, List.set_cons_succ]
  refine wpAnyH_take (i := 29) (v := undef) (by simp only [List.getElem?_toArray]; rfl) (by kernel_rfl) (by kernel_rfl) (by kernel_rfl) (by exact fun _ _ _ h => h) (Or.inr ⟨by rfl, rfl⟩) (by assumption) ?_
  try simp only [Act.put, List.setIfInBounds_toArray, List.set_cons_zero, List.set_cons_succ]
  refine wpAnyH_take (i := 30) (v := undef) (by simp only [List.getElem?_toArray]; rfl) (by kernel_rfl) (by kernel_rfl) (by kernel_rfl) (by exact fun _ _ _ h => h) (Or.inr ⟨by rfl, rfl⟩) (by assumption) ?_
  try simp only [Act.put, List.setIfInBounds_toArray, List.set_cons_zero, List.set_cons_succ]
  refine wpAnyH_take (i := 31) (v := undef) (by simp only [List.getElem?_toArray]; rfl) (by kernel_rfl) (by kernel_rfl) (by kernel_rfl) (by exact fun _ _ _ h => h) (Or.inr ⟨by rfl, rfl⟩) (by assumption) ?_
  try simp only [Act.put, List.setIfInBounds_toArray, List.set_cons_zero, List.set_cons_succ]
  refine wpAnyH_take (i := 32) (v := undef) (by simp only [List.getElem?_toArray]; rfl) (by kernel_rfl) (by kernel_rfl) (by kernel_rfl) (by exact fun _ _ _ h => h) (Or.inr ⟨by rfl, rfl⟩) (by assumption) ?_
  try simp only [Act.put, List.setIfInBounds_toArray, List.set_cons_zero, List.set_cons_succ]
  refine wpAnyH_take (i := 33) (v := undef) (by simp only [List.getElem?_toArray]; rfl) (by kernel_rfl) (by kernel_rfl) (by kernel_rfl) (by exact fun _ _ _ h => h) (Or.inr ⟨by rfl, rfl⟩) (by assumption) ?_
  try simp only [Act.put, List.setIfInBounds_toArray, List.set_cons_zero, List.set_cons_succ]
  refine wpAnyH_take (i := 34) (v := ?_) (by simp only [List.getElem?_toArray]; rfl) (by kernel_rfl) (by kernel_rfl) (by kernel_rfl) (by exact fun _ _ _ h => h) (Or.inl ⟨by rfl, ?_⟩) (by assumption) ?_
  rotate_left
  ·intro w hSw
   (try dsimp only at hSw)
   go_simp
   all_goals with_reducible rfl
  try simp only [Act.put, List.setIfInBounds_toArray, List.set_cons_zero, List.set_cons_succ]
  refine wpAnyH_take (i := 35) (v := ?_) (by simp only [List.getElem?_toArray]; rfl) (by kernel_rfl) (by kernel_rfl) (by kernel_rfl) (by exact fun _ _ _ h => h) (Or.inl ⟨by rfl, ?_⟩) (by assumption) ?_
  rotate_left
  ·intro w hSw
   (try dsimp only at hSw)
   go_simp
   all_goals with_reducible rfl
  try simp only [Act.put, List.setIfInBounds_toArray, List.set_cons_zero, List.set_cons_succ]
  refine wpAnyH_done (by kernel_rfl) ?_ _
  go_wp2_with fail
  go_ret
  go_split_ands
  exact ⟨ret_bool (by rw [HU.out]; simp [*]), HB.out _ (by assumption)⟩
 ·have CG2 : Hid (∀ V, SS V → Calls Tryz.prog 141 #[.slice la l.length lc, .agg #[.int .i64 ps, .int .i64 rs, .slice ca cn cc]] V fun x w' => x = .returned (.bool true) ∧ Below V.heap.size V w') := hid (by
   rw [hSS]; rintro V ⟨h, _⟩; have := CG.out V h.fx.li; rw [hr] at this; exact this)
  clear hSS hv CG S
  go_wp2_with fail
  go_region_held3 (fun w' => w'.cell? ⟨w.heap.size, 0, none⟩ = some (.slice (some ⟨fB, fO, none⟩) fp.length fc) ∧ w'.cell? ⟨w.heap.size + 1, 0, none⟩ = some (.int .i64 ps) ∧ w'.cell? ⟨w.heap.size + 1, 1, none⟩ = some (.int .i64 rs) ∧ w'.cell? ⟨w.heap.size + 1, 2, none⟩ = some (.slice ca cn cc) ∧ w'.cell? ⟨w.heap.size + 1 + 1, 1, none⟩ = some (.int .i64 0) ∧ w'.cell? ⟨w.heap.size + 1 + 1, 2, none⟩ = some (.int .i64 i) ∧ w'.cell? ⟨w.heap.size + 1 + 1, 3, none⟩ = some (.int .i64 0) ∧ w'.cell? ⟨w.heap.size + 1 + 1, 4, none⟩ = some (.slice la l.length lc) ∧ w'.cell? ⟨fB, fO + i * 3, none⟩ = some (.int .i64 v) ∧ SS w')
     (first
      | (go_keep; done)
      | (refine ⟨?_, ?_, ?_, ?_, ?_, ?_, ?_, ?_, ?_, hS0⟩ <;> (go_keep; done))
      | (go_split_ands; exact SK.out _ _ (by assumption) hbx))
     (first
      | (go_at_call 83; (with_reducible refine (CB.out _).mono ?_); rintro e w1 ⟨rfl, rfl⟩)
      | (go_at_call 141; (with_reducible refine (CG2.out _ ?_).mono ?_); (go_split_ands; assumption); rintro e w1 ⟨rfl, hbx⟩))
  all_goals (go_wp2_with fail; go_ret; go_split_ands; exact ⟨ret_bool (by rw [HU.out, hr, hb, Int.toNat_natCast, HV.out]; simp), HB.out _ (by assumption)⟩)
set_option maxHeartbeats 4000000 in
set_option maxRecDepth 8000 in
theorem rform_8 (fa sa ra : Option Addr) (sn rn fc sc rc : Nat) (en : Int) (fp : List Int) (ps rs : Int) (ca : Option Addr) (cn cc : Nat) (a b c : Int) (l lv : List Int) (la : Option Addr) (lc : Nat) (va : Option Addr) (vc : Nat) (w : World) (hf : PsAt w fa fp) (hl : IntsAt .i64 w la l) (hv : IntsAt .i64 w va lv) (hcn : cn ≤ 1000000000) :
  Calls Tryz.prog 84 #[.agg #[.slice fa fp.length fc, .slice sa sn sc, .slice ra rn rc, .int .i64 en], .agg #[.int .i64 ps, .int .i64 rs, .slice ca cn cc], .agg #[.int .i64 8, .int .i64 a, .int .i64 b, .int .i64 c, .slice la l.length lc, .slice va lv.length vc]] w fun e w' => e = .returned (.bool (formB sn rn fp cn rs 8 a b c l)) ∧ Below w.heap.size w w' := by
 have S := hid (fm_start w fa sa ra sn rn fc sc rc en fp ps rs ca cn cc ⟨8, a, b, c, l, lv⟩ la lc va vc hf hl hv)
 have CI := hid (fun n e W => within_any n e W)
 clear hf hl hv
 go_enter Tryz.func84, Tryz.ntmps84
 go_wp2_with fail
 go_quiet (first | (go_at_call 83; refine Calls.quiet_of_same (CI.out _ _ _)))
 obtain ⟨W, hW⟩ : ∃ W, (((w.alloc (.cells #[.slice fa fp.length fc, .slice sa sn sc, .slice ra rn rc, .int .i64 en] 26)).alloc (.cells #[.int .i64 ps, .int .i64 rs, .slice ca cn cc] 48)).alloc (.cells #[.int .i64 8, .int .i64 a, .int .i64 b, .int .i64 c, .slice la l.length lc, .slice va lv.length vc] 58)).drewN nq = W := ⟨_, rfl⟩
 have S1 := S.out.below (below_drewN (Below.refl _ _) nq)
 try dsimp only at S1
 rw [hW] at S1
 rw [hW]
 clear hW
 obtain ⟨f0, f1, f2, x0, x1, x2, x3, x4, x5⟩ := S1.fx.cells
 obtain ⟨p0, p1, p2⟩ := S1.pcells
 dsimp only at x0 x1 x2 x3 x4 x5
 have S := hid S1
 clear S1
 have HU := hid (show formB sn rn fp cn rs 8 a b c l = (insB a rs && insB b 61 && ((l.length : Int) == (prT b.toNat).2.1) && (if (prT b.toNat).2.2 = 0 then c == -1 else insB c cn) && regsB l rs) from rfl)
 have CP := hid (fun W => prims_at W)
 have CG := hid (fun W h => rregs_any la l lc ps rs ca cn cc W h)
 cases ha : insB a rs
 ·go_wp2_with (first
   | (go_at_call 35; (with_reducible refine (CP.out _).mono ?_); rintro e w1 ⟨g, cap, rfl, hcap, hP, hgw, hb⟩; have S := hid (S.out.below hb); clear hb f0 f1 f2 x0 x1 x2 x3 x4 x5 p0 p1 p2; obtain ⟨f0, f1, f2, x0, x1, x2, x3, x4, x5⟩ := S.out.fx.cells; obtain ⟨p0, p1, p2⟩ := S.out.pcells; dsimp only at x0 x1 x2 x3 x4 x5))
  go_quiet (fail)
  go_wp2_with fail
  go_ret
  exact ⟨ret_bool (by rw [HU.out]; simp [ha]), below_drewN S.out.fx.b _⟩
 cases hb2 : insB b 61
 ·have CB := hid (fun W => within_eq hb2 W)
  go_wp2_with (first
   | (go_at_call 35; (with_reducible refine (CP.out _).mono ?_); rintro e w1 ⟨g, cap, rfl, hcap, hP, hgw, hb⟩; have S := hid (S.out.below hb); clear hb f0 f1 f2 x0 x1 x2 x3 x4 x5 p0 p1 p2; obtain ⟨f0, f1, f2, x0, x1, x2, x3, x4, x5⟩ := S.out.fx.cells; obtain ⟨p0, p1, p2⟩ := S.out.pcells; dsimp only at x0 x1 x2 x3 x4 x5))
  go_quiet (first | (go_at_call 83; refine Calls.quiet_of_same (CB.out _)))
  go_wp2_with fail
  go_ret
  exact ⟨ret_bool (by rw [HU.out]; simp [hb2]), below_drewN S.out.fx.b _⟩
 have CB := hid (fun W => within_eq hb2 W)
 obtain ⟨hb0, hb1⟩ := insB_true hb2
 obtain ⟨i, rfl⟩ := Int.eq_ofNat_of_zero_le hb0
 have hi : i < 61 := by omega
 have k1 : decide ((i : Int) < 61) = true := decide_eq_true hb1
 have hU := HU.out
 rw [Int.toNat_natCast] at hU
 obtain ⟨ar, har⟩ : ∃ ar, (prT i).2.1 = ar := ⟨_, rfl⟩
 obtain ⟨rr, hrr⟩ : ∃ rr, (prT i).2.2 = rr := ⟨_, rfl⟩
 rw [har, hrr] at hU
 have HU := hid hU
 clear hU
 by_cases hn : (l.length : Int) = ar
 rotate_left
 ·have hn' : ((l.length : Int) == ar) = false := by simpa using hn
  go_wp2_with (first
   | (go_at_call 35; (with_reducible refine (CP.out _).mono ?_); rintro e w1 ⟨g, cap, rfl, hcap, hP, hgw, hb⟩; have S := hid (S.out.below hb); clear hb f0 f1 f2 x0 x1 x2 x3 x4 x5 p0 p1 p2; obtain ⟨f0, f1, f2, x0, x1, x2, x3, x4, x5⟩ := S.out.fx.cells; obtain ⟨p0, p1, p2⟩ := S.out.pcells; dsimp only at x0 x1 x2 x3 x4 x5; obtain ⟨-, e2, rp, rcp, e3, -⟩ := hP.2 i hi; rw [har, Nat.mul_comm] at e2; rw [hrr, Nat.mul_comm] at e3; clear hP))
  go_quiet (first | (go_at_call 83; refine Calls.quiet_of_same (CB.out _)))
  go_wp2_with fail
  go_ret
  exact ⟨ret_bool (by rw [HU.out]; simp [hn']), below_drewN S.out.fx.b _⟩
 have hn' : ((l.length : Int) == ar) = true := by simpa using hn
 have HN := hid hn
 clear hn
 by_cases hr0 : rr = 0
 ·have hr0' : ((rr : Int) == 0) = true := by simp [hr0]
  have HR := hid hr0
  clear hr0
  by_cases hc : c = -1
  rotate_left
  ·have hc' : (c == -1) = false := by simpa using hc
   go_wp2_with (first
    | (go_at_call 35; (with_reducible refine (CP.out _).mono ?_); rintro e w1 ⟨g, cap, rfl, hcap, hP, hgw, hb⟩; have S := hid (S.out.below hb); clear hb f0 f1 f2 x0 x1 x2 x3 x4 x5 p0 p1 p2; obtain ⟨f0, f1, f2, x0, x1, x2, x3, x4, x5⟩ := S.out.fx.cells; obtain ⟨p0, p1, p2⟩ := S.out.pcells; dsimp only at x0 x1 x2 x3 x4 x5; obtain ⟨-, e2, rp, rcp, e3, -⟩ := hP.2 i hi; rw [har, Nat.mul_comm] at e2; rw [hrr, Nat.mul_comm] at e3; clear hP))
   go_quiet (first | (go_at_call 83; refine Calls.quiet_of_same (CB.out _)))
   go_wp2_with fail
   go_ret
   exact ⟨ret_bool (by rw [HU.out]; simp [HR.out, hc']), below_drewN S.out.fx.b _⟩
  subst hc
  go_wp2_with (first
   | (go_at_call 35; (with_reducible refine (CP.out _).mono ?_); rintro e w1 ⟨g, cap, rfl, hcap, hP, hgw, hb⟩; have S := hid (S.out.below hb); clear hb f0 f1 f2 x0 x1 x2 x3 x4 x5 p0 p1 p2; obtain ⟨f0, f1, f2, x0, x1, x2, x3, x4, x5⟩ := S.out.fx.cells; obtain ⟨p0, p1, p2⟩ := S.out.pcells; dsimp only at x0 x1 x2 x3 x4 x5; obtain ⟨-, e2, rp, rcp, e3, -⟩ := hP.2 i hi; rw [har, Nat.mul_comm] at e2; rw [hrr, Nat.mul_comm] at e3; clear hP))
  go_quiet (first | (go_at_call 83; refine Calls.quiet_of_same (CB.out _)))
  go_wp2_with (first | (go_at_call 141; refine (CG.out _ (S.out.below (below_drewN (Below.refl _ _) _)).fx.li).mono ?_; rintro e w2 ⟨rfl, hb⟩; have S := hid ((S.out.below (below_drewN (Below.refl _ _) _)).below hb); clear hb))
  go_ret
  exact ⟨ret_bool (by rw [HU.out]; simp [HR.out, ha, hb2, hn']), S.out.fx.b⟩
 ·have hr0' : ((rr : Int) == 0) = false := by simpa using hr0
  have HR := hid hr0
  clear hr0
  cases hc : insB c cn
  ·have CB2 := hid (fun W => within_eq hc W)
   go_wp2_with (first
    | (go_at_call 35; (with_reducible refine (CP.out _).mono ?_); rintro e w1 ⟨g, cap, rfl, hcap, hP, hgw, hb⟩; have S := hid (S.out.below hb); clear hb f0 f1 f2 x0 x1 x2 x3 x4 x5 p0 p1 p2; obtain ⟨f0, f1, f2, x0, x1, x2, x3, x4, x5⟩ := S.out.fx.cells; obtain ⟨p0, p1, p2⟩ := S.out.pcells; dsimp only at x0 x1 x2 x3 x4 x5; obtain ⟨-, e2, rp, rcp, e3, -⟩ := hP.2 i hi; rw [har, Nat.mul_comm] at e2; rw [hrr, Nat.mul_comm] at e3; clear hP))
   go_quiet (first | (go_at_call 83; refine Calls.quiet_of_same (CB.out _)))
   go_wp2_with (first | (go_at_call 83; refine (CB2.out _).mono ?_; rintro e w2 ⟨rfl, rfl⟩))
   go_ret
   exact ⟨ret_bool (by rw [HU.out]; simp [HR.out, hc]), below_drewN S.out.fx.b _⟩
  ·have CB2 := hid (fun W => within_eq hc W)
   go_wp2_with (first
    | (go_at_call 35; (with_reducible refine (CP.out _).mono ?_); rintro e w1 ⟨g, cap, rfl, hcap, hP, hgw, hb⟩; have S := hid (S.out.below hb); clear hb f0 f1 f2 x0 x1 x2 x3 x4 x5 p0 p1 p2; obtain ⟨f0, f1, f2, x0, x1, x2, x3, x4, x5⟩ := S.out.fx.cells; obtain ⟨p0, p1, p2⟩ := S.out.pcells; dsimp only at x0 x1 x2 x3 x4 x5; obtain ⟨-, e2, rp, rcp, e3, -⟩ := hP.2 i hi; rw [har, Nat.mul_comm] at e2; rw [hrr, Nat.mul_comm] at e3; clear hP))
   go_quiet (first | (go_at_call 83; refine Calls.quiet_of_same (CB.out _)))
   go_wp2_with (first
    | (go_at_call 83; refine (CB2.out _).mono ?_; rintro e w2 ⟨rfl, rfl⟩)
    | (go_at_call 141; refine (CG.out _ (S.out.below (below_drewN (Below.refl _ _) _)).fx.li).mono ?_; rintro e w2 ⟨rfl, hb⟩; have S := hid ((S.out.below (below_drewN (Below.refl _ _) _)).below hb); clear hb))
   go_ret
   exact ⟨ret_bool (by rw [HU.out]; simp [HR.out, ha, hb2, hn', hc]), S.out.fx.b⟩
set_option maxHeartbeats 1000000 in
set_option maxRecDepth 8000 in
theorem rform_other (op : Int) (h1 : (op == 1) = false) (h2 : (op == 2) = false) (h3 : (op == 3) = false) (h4 : (op == 4) = false) (h5 : (op == 5) = false) (h6 : (op == 6) = false) (h7 : (op == 7) = false) (h8 : (op == 8) = false) (h9 : (op == 9) = false) (h10 : (op == 10) = false) (h11 : (op == 11) = false) (h12 : (op == 12) = false) (h13 : (op == 13) = false) (fa sa ra : Option Addr) (sn rn fc sc rc : Nat) (en : Int) (fp : List Int) (ps rs : Int) (ca : Option Addr) (cn cc : Nat) (a b c : Int) (l lv : List Int) (la : Option Addr) (lc : Nat) (va : Option Addr) (vc : Nat) (w : World) (hf : PsAt w fa fp) (hl : IntsAt .i64 w la l) (hv : IntsAt .i64 w va lv) (hcn : cn ≤ 1000000000) :
  Calls Tryz.prog 84 #[.agg #[.slice fa fp.length fc, .slice sa sn sc, .slice ra rn rc, .int .i64 en], .agg #[.int .i64 ps, .int .i64 rs, .slice ca cn cc], .agg #[.int .i64 op, .int .i64 a, .int .i64 b, .int .i64 c, .slice la l.length lc, .slice va lv.length vc]] w fun e w' => e = .returned (.bool (formB sn rn fp cn rs op a b c l)) ∧ Below w.heap.size w w' := by
 have S := hid (fm_start w fa sa ra sn rn fc sc rc en fp ps rs ca cn cc ⟨op, a, b, c, l, lv⟩ la lc va vc hf hl hv)
 have CI := hid (fun n e W => within_any n e W)
 clear hf hl hv
 go_enter Tryz.func84, Tryz.ntmps84
 go_wp2_with fail
 go_quiet (first | (go_at_call 83; refine Calls.quiet_of_same (CI.out _ _ _)))
 obtain ⟨W, hW⟩ : ∃ W, (((w.alloc (.cells #[.slice fa fp.length fc, .slice sa sn sc, .slice ra rn rc, .int .i64 en] 26)).alloc (.cells #[.int .i64 ps, .int .i64 rs, .slice ca cn cc] 48)).alloc (.cells #[.int .i64 op, .int .i64 a, .int .i64 b, .int .i64 c, .slice la l.length lc, .slice va lv.length vc] 58)).drewN nq = W := ⟨_, rfl⟩
 have S1 := S.out.below (below_drewN (Below.refl _ _) nq)
 try dsimp only at S1
 rw [hW] at S1
 rw [hW]
 clear hW
 obtain ⟨f0, f1, f2, x0, x1, x2, x3, x4, x5⟩ := S1.fx.cells
 obtain ⟨p0, p1, p2⟩ := S1.pcells
 dsimp only at x0 x1 x2 x3 x4 x5
 have S := hid S1
 clear S1
 have HU := hid (show formB sn rn fp cn rs op a b c l = false by simp [formB, h1, h2, h3, h4, h5, h6, h7, h8, h9, h10, h11, h12, h13])
 go_wp2_with fail
 go_ret
 exact ⟨ret_bool HU.out.symm, S.out.fx.b⟩
theorem op_all (op : Int) : (op = 1 ∨ op = 2 ∨ op = 3 ∨ op = 4 ∨ op = 5 ∨ op = 6 ∨ op = 7 ∨ op = 8 ∨ op = 9 ∨ op = 10 ∨ op = 11 ∨ op = 12 ∨ op = 13) ∨ ((op == 1) = false ∧ (op == 2) = false ∧ (op == 3) = false ∧ (op == 4) = false ∧ (op == 5) = false ∧ (op == 6) = false ∧ (op == 7) = false ∧ (op == 8) = false ∧ (op == 9) = false ∧ (op == 10) = false ∧ (op == 11) = false ∧ (op == 12) = false ∧ (op == 13) = false) := by
 simp only [beq_eq_false_iff_ne, ne_eq]; omega
theorem rform_any (fa sa ra : Option Addr) (sn rn fc sc rc : Nat) (en : Int) (fp : List Int) (ps rs : Int) (ca : Option Addr) (cn cc : Nat) (op a b c : Int) (l lv : List Int) (la : Option Addr) (lc : Nat) (va : Option Addr) (vc : Nat) (w : World) (hf : PsAt w fa fp) (hl : IntsAt .i64 w la l) (hv : IntsAt .i64 w va lv) (hcn : cn ≤ 1000000000) :
  Calls Tryz.prog 84 #[.agg #[.slice fa fp.length fc, .slice sa sn sc, .slice ra rn rc, .int .i64 en], .agg #[.int .i64 ps, .int .i64 rs, .slice ca cn cc], .agg #[.int .i64 op, .int .i64 a, .int .i64 b, .int .i64 c, .slice la l.length lc, .slice va lv.length vc]] w fun e w' => e = .returned (.bool (formB sn rn fp cn rs op a b c l)) ∧ Below w.heap.size w w' := by
 rcases op_all op with (rfl | rfl | rfl | rfl | rfl | rfl | rfl | rfl | rfl | rfl | rfl | rfl | rfl) | ⟨h1, h2, h3, h4, h5, h6, h7, h8, h9, h10, h11, h12, h13⟩
 ·exact rform_1 fa sa ra sn rn fc sc rc en fp ps rs ca cn cc a b c l lv la lc va vc w hf hl hv
 ·exact rform_2 fa sa ra sn rn fc sc rc en fp ps rs ca cn cc a b c l lv la lc va vc w hf hl hv
 ·exact rform_3 fa sa ra sn rn fc sc rc en fp ps rs ca cn cc a b c l lv la lc va vc w hf hl hv
 ·exact rform_4 fa sa ra sn rn fc sc rc en fp ps rs ca cn cc a b c l lv la lc va vc w hf hl hv
 ·exact rform_5 fa sa ra sn rn fc sc rc en fp ps rs ca cn cc a b c l lv la lc va vc w hf hl hv hcn
 ·exact rform_6 fa sa ra sn rn fc sc rc en fp ps rs ca cn cc a b c l lv la lc va vc w hf hl hv
 ·exact rform_7 fa sa ra sn rn fc sc rc en fp ps rs ca cn cc a b c l lv la lc va vc w hf hl hv
 ·exact rform_8 fa sa ra sn rn fc sc rc en fp ps rs ca cn cc a b c l lv la lc va vc w hf hl hv hcn
 ·exact rform_9 fa sa ra sn rn fc sc rc en fp ps rs ca cn cc a b c l lv la lc va vc w hf hl hv
 ·exact rform_10 fa sa ra sn rn fc sc rc en fp ps rs ca cn cc a b c l lv la lc va vc w hf hl hv hcn
 ·exact rform_11 fa sa ra sn rn fc sc rc en fp ps rs ca cn cc a b c l lv la lc va vc w hf hl hv
 ·exact rform_12 fa sa ra sn rn fc sc rc en fp ps rs ca cn cc a b c l lv la lc va vc w hf hl hv hcn
 ·exact rform_13 fa sa ra sn rn fc sc rc en fp ps rs ca cn cc a b c l lv la lc va vc w hf hl hv
 ·exact rform_other op h1 h2 h3 h4 h5 h6 h7 h8 h9 h10 h11 h12 h13 fa sa ra sn rn fc sc rc en fp ps rs ca cn cc a b c l lv la lc va vc w hf hl hv hcn
end Go.Proofs.YtokjkligechcoaaGreatDoor
