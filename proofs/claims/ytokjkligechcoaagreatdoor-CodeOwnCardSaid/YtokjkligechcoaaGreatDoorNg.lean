/- Walks of layer 16: a line of a program's text: instructions without a list. (wip/tools/mk_nb.py writes this text.) -/
import Derived.Test.YtokjkligechcoaaGreatDoorNb
set_option linter.unusedVariables false
namespace Go.Proofs.YtokjkligechcoaaGreatDoor
open _root_.Go.Lib (hid)
open Go.RowKit
attribute [local go_sem] ext_mk size_mk toList_mk get_mk take_drop_len take_tail_len ByteArray.mk_append_mk List.append_toArray
set_option maxHeartbeats 20000000 in
set_option maxRecDepth 8000 in
theorem line_1 (pw : Nat) (fa sa ra : Option Addr) (fn sn rn fc sc rc : Nat) (en : Int) (op xa xb xc : Int) (la va : Option Addr) (l lv : List Int) (lc vc : Nat) (w : World) (hx : LnOk ⟨op, xa, xb, xc, l, lv⟩) (hll : IntsAt .i64 w la l) (hlv : IntsAt .i64 w va lv) (hc : op = 1 ∨ op = 4 ∨ op = 6 ∨ op = 7 ∨ op = 9 ∨ op = 13) (hV : PrVars w) (hW : WoAt w pw fa sa ra fn sn rn fc sc rc en) :
  Calls Tryz.prog 55 #[.pointer (some ⟨pw, 0, none⟩), .agg #[.int .i64 op, .int .i64 xa, .int .i64 xb, .int .i64 xc, .slice la l.length lc, .slice va lv.length vc]] w fun e w' => ∃ s : List UInt8, e = .returned (.string ⟨s.toArray⟩) ∧ s.length ≤ 4000000 ∧ Below w.heap.size w w' := by
 have HCC := hid hc
 clear hc
 have PV := hid hV
 have WO := hid hW
 have HX := hid hx
 have LL := hid hll
 have VL := hid hlv
 obtain ⟨nl, hnl⟩ : ∃ n, l.length = n := ⟨_, rfl⟩
 obtain ⟨nv, hnv⟩ : ∃ n, lv.length = n := ⟨_, rfl⟩
 have HNL := hid hnl
 have HNV := hid hnv
 have bl : nl ≤ 5000 := hnl ▸ hx.l.1
 have bv : nv ≤ 5000 := hnv ▸ hx.v.1
 rw [hnl, hnv]
 have hop := hx.op
 dsimp only at hop
 clear hV hW hll hlv hnl hnv hx
 obtain ⟨W0, hW0⟩ : ∃ W, w.alloc (.cells #[.int .i64 op, .int .i64 xa, .int .i64 xb, .int .i64 xc, .slice la nl lc, .slice va nv vc] 58) = W := ⟨_, rfl⟩
 have hz0 : W0.heap.size = w.heap.size + 1 := by rw [← hW0]; simp
 have KX := hid (show KAt W0 w.heap.size (.cells #[.int .i64 op, .int .i64 xa, .int .i64 xb, .int .i64 xc, .slice la nl lc, .slice va nv vc] 58 (0, 0)) by rw [← hW0]; exact KAt.new _ _)
 have B0 := hid (show Below w.heap.size w W0 by rw [← hW0]; exact (Below.refl _ _).alloc (Nat.le_refl _) _)
 have HZ0 := hid hz0
 have hop2 : 0 ≤ op ∧ op ≤ 13 := by omega
 have HOP := hid hop2
 obtain ⟨x0, x1, x2, x3, x4, x5⟩ := xbx6 KX.out
 have hH := hid hop
 have hmf := mkfun
 clear hz0 hop2 hop
 go_enter Tryz.func55, Tryz.ntmps55
 go_wp2_with fail
 try rw [hW0]
 go_cut [5] from 7 to 119 (fun v5 wx => ∃ q v, v5 = .pointer (some ⟨q, 0, none⟩) ∧ LnAt W0.heap.size wx q v [[], wordS op] ∧ Below W0.heap.size W0 wx)
 case first =>
  have x0d : ∀ o, (W0.alloc o).drew.cell? ⟨w.heap.size, 0, none⟩ = some (.int .i64 op) := fun o => cell_a1 x0 o
  go_region_law (go_simp; go_at_call 63; refine (words_ex _).mono ?_; rintro e w1 ⟨M, rfl, hb1, hm⟩; have lk := hm op HOP.out w1 (Below.refl _ _); have lk1 := fun o => hm op HOP.out (w1.alloc o) ((Below.refl _ _).alloc (Nat.le_refl _) o); have hs : Below W0.heap.size W0 w1 := (by first | exact ((Below.refl _ _).drew).trans hb1 | exact (((Below.refl _ _).drew).alloc (Nat.le_refl _) _).trans (hb1.mono (by simp))); have y0 := (xbx6 (KX.out.below hs)).1; have y0p := cell_a1 y0; have HB1 := hid hs; (first | (have kq : KAt w1 W0.heap.size (.cells #[.slice none 0 0] 23 (0, 0)) := (KAt.new W0.drew (.cells #[.slice none 0 0] 23 (0, 0))).below hb1; have q0 : w1.cell? ⟨W0.heap.size, 0, none⟩ = some (.slice none 0 0) := (by rw [cell_of_row _ _ _ _ _ _ kq.x]; rfl); have q0p := cell_a1 q0; have q1p := fun o => frozen_of_row _ W0.heap.size 0 _ _ (kq.alloc o).x) | skip); clear hm hb1 hs)
  all_goals go_wp2_with fail
  all_goals go_meet
  all_goals first
   | exact ⟨_, _, rfl, ln_A [] (wordS op) kq (Nat.le_refl _) HB1.out.size, ((HB1.out.alloc HB1.out.size _).setCell (p := ⟨W0.heap.size, 0, none⟩) (Nat.le_refl _) _)⟩
   | exact ⟨_, _, rfl, ln_B [] (wordS op) HB1.out.size, ((HB1.out.alloc HB1.out.size _).alloc (Nat.le_trans HB1.out.size (by simp)) _)⟩
   | exact ⟨_, _, rfl, ln_C [] (wordS op) HB1.out.size, ((HB1.out.alloc HB1.out.size _).alloc (Nat.le_trans HB1.out.size (by simp)) _)⟩
 case rest =>
  obtain ⟨q, v, rfl, hl, hbx⟩ := hcut
  have hle := HZ0.out
  obtain ⟨g, c, rfl, hS⟩ := LnS.begin (w := w) [] (wordS op) hl (by decide) (wordS_len op) (B0.out.trans (hbx.mono B0.out.size)) (KX.out.below hbx) B0.out.size (by omega)
  have S := hid hS
  clear hl hbx hW0 hle hS KX x0 x1 x2 x3 x4 x5 B0
  obtain ⟨x0, x1, x2, x3, x4, x5⟩ := xbx6 S.out.bx
  have q0 := S.out.q0
  have CK := hid (fun W (h : Below w.heap.size w W) => keeps_any pw fa sa ra fn sn rn fc sc rc en op xa xb xc la va nl lc nv vc W (WO.out.below h))
  have CN := hid (fun W (h : Below w.heap.size w W) => numbers_any [108, 105, 118, 101] va lv vc W (VL.out.below h) HX.out.v.2 (PV.out.below h) (by have := HX.out.v.1; dsimp only at this; omega))
  have CL := hid (fun W (h : Below w.heap.size w W) => numbers_any [58] la l lc W (LL.out.below h) HX.out.l.2 (PV.out.below h) (by have := HX.out.l.1; dsimp only at this; omega))
  rw [HNV.out] at CN
  rw [HNL.out] at CL
  have YV : Hid ((lv.map numS).length + 1 = nv + 1 ∧ ∀ y ∈ [108, 105, 118, 101] :: lv.map numS, y.length ≤ 20) := hid ⟨by rw [List.length_map, HNV.out], fun y hy => by
   rcases List.mem_cons.1 hy with rfl | hy
   ·decide
   ·exact numL_len HX.out.v.2 y hy⟩
  have YL : Hid ((l.map numS).length + 1 = nl + 1 ∧ ∀ y ∈ [58] :: l.map numS, y.length ≤ 20) := hid ⟨by rw [List.length_map, HNL.out], fun y hy => by
   rcases List.mem_cons.1 hy with rfl | hy
   ·decide
   ·exact numL_len HX.out.l.2 y hy⟩
  have hc := HCC.out
  ·have k1 : keepsI op xb = false := by rcases hc with rfl | rfl | rfl | rfl | rfl | rfl <;> rfl
   rw [k1] at CK
   clear k1
   rcases hc with rfl | rfl | rfl | rfl | rfl | rfl
   all_goals
    go_wp2_with
     (first
      | (go_at_call 113; (first | with_reducible refine (add1 S.out PV.out _ (by first | exact HX.out.a | exact HX.out.b | exact HX.out.c) (by omega)).mono ?_ | with_reducible refine (add1H S.out PV.out _ (by first | exact HX.out.c) (by omega) _ (by simp [World.setCell])).mono ?_ | with_reducible refine (add2 S.out PV.out _ _ (by first | exact HX.out.a | exact HX.out.b | exact HX.out.c) (by first | exact HX.out.a | exact HX.out.b | exact HX.out.c) (by omega)).mono ?_ | with_reducible refine (add3 S.out PV.out _ _ _ (by first | exact HX.out.a | exact HX.out.b | exact HX.out.c) (by first | exact HX.out.a | exact HX.out.b | exact HX.out.c) (by first | exact HX.out.a | exact HX.out.b | exact HX.out.c) (by omega)).mono ?_); rintro e w4 ⟨⟨u, rfl⟩, g4, c4, N4, xs4, hS⟩; replace S := hid hS; clear hS; clear x0 x1 x2 x3 x4 x5 q0; obtain ⟨x0, x1, x2, x3, x4, x5⟩ := xbx6 S.out.bx; have q0 := S.out.q0)
      | (go_at_call 77; with_reducible refine (CK.out _ S.out.b).mono ?_; rintro e w5 ⟨rfl, hb5⟩; replace S := hid (S.out.below hb5); clear hb5; clear x0 x1 x2 x3 x4 x5 q0; obtain ⟨x0, x1, x2, x3, x4, x5⟩ := xbx6 S.out.bx; have q0 := S.out.q0)
      | (go_at_call 115; with_reducible refine (joinS S.out (by omega)).mono ?_; rintro e w6 ⟨s, rfl, hs, hb6⟩; have B6 := hid (S.out.b.trans (hb6.mono S.out.b.size)); have hs2 : (s.length : Int) ≤ 3000000 := (by omega); clear hb6))
    go_ret
    exact ⟨_, rfl, by simp; omega, B6.out⟩
set_option maxHeartbeats 20000000 in
set_option maxRecDepth 8000 in
theorem line_2 (pw : Nat) (fa sa ra : Option Addr) (fn sn rn fc sc rc : Nat) (en : Int) (op xa xb xc : Int) (la va : Option Addr) (l lv : List Int) (lc vc : Nat) (w : World) (hx : LnOk ⟨op, xa, xb, xc, l, lv⟩) (hll : IntsAt .i64 w la l) (hlv : IntsAt .i64 w va lv) (hc : op = 2 ∨ op = 3) (hV : PrVars w) (hW : WoAt w pw fa sa ra fn sn rn fc sc rc en) :
  Calls Tryz.prog 55 #[.pointer (some ⟨pw, 0, none⟩), .agg #[.int .i64 op, .int .i64 xa, .int .i64 xb, .int .i64 xc, .slice la l.length lc, .slice va lv.length vc]] w fun e w' => ∃ s : List UInt8, e = .returned (.string ⟨s.toArray⟩) ∧ s.length ≤ 4000000 ∧ Below w.heap.size w w' := by
 have HCC := hid hc
 clear hc
 have PV := hid hV
 have WO := hid hW
 have HX := hid hx
 have LL := hid hll
 have VL := hid hlv
 obtain ⟨nl, hnl⟩ : ∃ n, l.length = n := ⟨_, rfl⟩
 obtain ⟨nv, hnv⟩ : ∃ n, lv.length = n := ⟨_, rfl⟩
 have HNL := hid hnl
 have HNV := hid hnv
 have bl : nl ≤ 5000 := hnl ▸ hx.l.1
 have bv : nv ≤ 5000 := hnv ▸ hx.v.1
 rw [hnl, hnv]
 have hop := hx.op
 dsimp only at hop
 clear hV hW hll hlv hnl hnv hx
 obtain ⟨W0, hW0⟩ : ∃ W, w.alloc (.cells #[.int .i64 op, .int .i64 xa, .int .i64 xb, .int .i64 xc, .slice la nl lc, .slice va nv vc] 58) = W := ⟨_, rfl⟩
 have hz0 : W0.heap.size = w.heap.size + 1 := by rw [← hW0]; simp
 have KX := hid (show KAt W0 w.heap.size (.cells #[.int .i64 op, .int .i64 xa, .int .i64 xb, .int .i64 xc, .slice la nl lc, .slice va nv vc] 58 (0, 0)) by rw [← hW0]; exact KAt.new _ _)
 have B0 := hid (show Below w.heap.size w W0 by rw [← hW0]; exact (Below.refl _ _).alloc (Nat.le_refl _) _)
 have HZ0 := hid hz0
 have hop2 : 0 ≤ op ∧ op ≤ 13 := by omega
 have HOP := hid hop2
 obtain ⟨x0, x1, x2, x3, x4, x5⟩ := xbx6 KX.out
 have hH := hid hop
 have hmf := mkfun
 clear hz0 hop2 hop
 go_enter Tryz.func55, Tryz.ntmps55
 go_wp2_with fail
 try rw [hW0]
 go_cut [5] from 7 to 119 (fun v5 wx => ∃ q v, v5 = .pointer (some ⟨q, 0, none⟩) ∧ LnAt W0.heap.size wx q v [[], wordS op] ∧ Below W0.heap.size W0 wx)
 case first =>
  have x0d : ∀ o, (W0.alloc o).drew.cell? ⟨w.heap.size, 0, none⟩ = some (.int .i64 op) := fun o => cell_a1 x0 o
  go_region_law (go_simp; go_at_call 63; refine (words_ex _).mono ?_; rintro e w1 ⟨M, rfl, hb1, hm⟩; have lk := hm op HOP.out w1 (Below.refl _ _); have lk1 := fun o => hm op HOP.out (w1.alloc o) ((Below.refl _ _).alloc (Nat.le_refl _) o); have hs : Below W0.heap.size W0 w1 := (by first | exact ((Below.refl _ _).drew).trans hb1 | exact (((Below.refl _ _).drew).alloc (Nat.le_refl _) _).trans (hb1.mono (by simp))); have y0 := (xbx6 (KX.out.below hs)).1; have y0p := cell_a1 y0; have HB1 := hid hs; (first | (have kq : KAt w1 W0.heap.size (.cells #[.slice none 0 0] 23 (0, 0)) := (KAt.new W0.drew (.cells #[.slice none 0 0] 23 (0, 0))).below hb1; have q0 : w1.cell? ⟨W0.heap.size, 0, none⟩ = some (.slice none 0 0) := (by rw [cell_of_row _ _ _ _ _ _ kq.x]; rfl); have q0p := cell_a1 q0; have q1p := fun o => frozen_of_row _ W0.heap.size 0 _ _ (kq.alloc o).x) | skip); clear hm hb1 hs)
  all_goals go_wp2_with fail
  all_goals go_meet
  all_goals first
   | exact ⟨_, _, rfl, ln_A [] (wordS op) kq (Nat.le_refl _) HB1.out.size, ((HB1.out.alloc HB1.out.size _).setCell (p := ⟨W0.heap.size, 0, none⟩) (Nat.le_refl _) _)⟩
   | exact ⟨_, _, rfl, ln_B [] (wordS op) HB1.out.size, ((HB1.out.alloc HB1.out.size _).alloc (Nat.le_trans HB1.out.size (by simp)) _)⟩
   | exact ⟨_, _, rfl, ln_C [] (wordS op) HB1.out.size, ((HB1.out.alloc HB1.out.size _).alloc (Nat.le_trans HB1.out.size (by simp)) _)⟩
 case rest =>
  obtain ⟨q, v, rfl, hl, hbx⟩ := hcut
  have hle := HZ0.out
  obtain ⟨g, c, rfl, hS⟩ := LnS.begin (w := w) [] (wordS op) hl (by decide) (wordS_len op) (B0.out.trans (hbx.mono B0.out.size)) (KX.out.below hbx) B0.out.size (by omega)
  have S := hid hS
  clear hl hbx hW0 hle hS KX x0 x1 x2 x3 x4 x5 B0
  obtain ⟨x0, x1, x2, x3, x4, x5⟩ := xbx6 S.out.bx
  have q0 := S.out.q0
  have CK := hid (fun W (h : Below w.heap.size w W) => keeps_any pw fa sa ra fn sn rn fc sc rc en op xa xb xc la va nl lc nv vc W (WO.out.below h))
  have CN := hid (fun W (h : Below w.heap.size w W) => numbers_any [108, 105, 118, 101] va lv vc W (VL.out.below h) HX.out.v.2 (PV.out.below h) (by have := HX.out.v.1; dsimp only at this; omega))
  have CL := hid (fun W (h : Below w.heap.size w W) => numbers_any [58] la l lc W (LL.out.below h) HX.out.l.2 (PV.out.below h) (by have := HX.out.l.1; dsimp only at this; omega))
  rw [HNV.out] at CN
  rw [HNL.out] at CL
  have YV : Hid ((lv.map numS).length + 1 = nv + 1 ∧ ∀ y ∈ [108, 105, 118, 101] :: lv.map numS, y.length ≤ 20) := hid ⟨by rw [List.length_map, HNV.out], fun y hy => by
   rcases List.mem_cons.1 hy with rfl | hy
   ·decide
   ·exact numL_len HX.out.v.2 y hy⟩
  have YL : Hid ((l.map numS).length + 1 = nl + 1 ∧ ∀ y ∈ [58] :: l.map numS, y.length ≤ 20) := hid ⟨by rw [List.length_map, HNL.out], fun y hy => by
   rcases List.mem_cons.1 hy with rfl | hy
   ·decide
   ·exact numL_len HX.out.l.2 y hy⟩
  have hc := HCC.out
  ·have k1 : keepsI op xb = true := by rcases hc with rfl | rfl <;> rfl
   rw [k1] at CK
   clear k1
   rcases hc with rfl | rfl
   all_goals
    go_wp2_with
     (first
      | (go_at_call 113; (first | with_reducible refine (add1 S.out PV.out _ (by first | exact HX.out.a | exact HX.out.b | exact HX.out.c) (by omega)).mono ?_ | with_reducible refine (add1H S.out PV.out _ (by first | exact HX.out.c) (by omega) _ (by simp [World.setCell])).mono ?_ | with_reducible refine (add2 S.out PV.out _ _ (by first | exact HX.out.a | exact HX.out.b | exact HX.out.c) (by first | exact HX.out.a | exact HX.out.b | exact HX.out.c) (by omega)).mono ?_ | with_reducible refine (add3 S.out PV.out _ _ _ (by first | exact HX.out.a | exact HX.out.b | exact HX.out.c) (by first | exact HX.out.a | exact HX.out.b | exact HX.out.c) (by first | exact HX.out.a | exact HX.out.b | exact HX.out.c) (by omega)).mono ?_); rintro e w4 ⟨⟨u, rfl⟩, g4, c4, N4, xs4, hS⟩; replace S := hid hS; clear hS; clear x0 x1 x2 x3 x4 x5 q0; obtain ⟨x0, x1, x2, x3, x4, x5⟩ := xbx6 S.out.bx; have q0 := S.out.q0)
      | (go_at_call 77; with_reducible refine (CK.out _ S.out.b).mono ?_; rintro e w5 ⟨rfl, hb5⟩; replace S := hid (S.out.below hb5); clear hb5; clear x0 x1 x2 x3 x4 x5 q0; obtain ⟨x0, x1, x2, x3, x4, x5⟩ := xbx6 S.out.bx; have q0 := S.out.q0)
      | (go_at_call 115; with_reducible refine (joinS S.out (by omega)).mono ?_; rintro e w6 ⟨s, rfl, hs, hb6⟩; have B6 := hid (S.out.b.trans (hb6.mono S.out.b.size)); have hs2 : (s.length : Int) ≤ 3000000 := (by omega); clear hb6))
    go_region_law (first
     | (go_simp; go_at_call 114; refine (CN.out _ (by first | exact S.out.b | exact S.out.b.drew)).mono ?_; rintro e w6 ⟨g6, c6, rfl, h6a, h6b, h6c, hb6⟩; (first | replace S := hid (S.out.below hb6) | replace S := hid (S.out.below (((Below.refl _ _).drew).trans hb6))); have H6 := hid h6c; clear h6a h6b h6c hb6; clear x0 x1 x2 x3 x4 x5 q0; obtain ⟨x0, x1, x2, x3, x4, x5⟩ := xbx6 S.out.bx; have q0 := S.out.q0)
     | (refine step_many Tryz.underlying23 S.out.o S.out.l.hB rfl _ _ rfl rfl rfl (by simp [strC]; exact HNV.out) H6.out (one_str _) (Nat.succ_pos _) _ rfl (by have := S.out.bn; omega) ?_; intro g7 c7 V o7 hb7 kp7; obtain ⟨hS, q7, q8⟩ := S.out.app o7 hb7 kp7 YV.out.2 YV.out.1; replace S := hid hS; clear hS o7 hb7 kp7 H6; clear x0 x1 x2 x3 x4 x5 q0; obtain ⟨x0, x1, x2, x3, x4, x5⟩ := xbx6 S.out.bx; have q0 := S.out.q0))
    all_goals
     go_wp2_with
      (first
       | (go_at_call 113; (first | with_reducible refine (add1 S.out PV.out _ (by first | exact HX.out.a | exact HX.out.b | exact HX.out.c) (by omega)).mono ?_ | with_reducible refine (add1H S.out PV.out _ (by first | exact HX.out.c) (by omega) _ (by simp [World.setCell])).mono ?_ | with_reducible refine (add2 S.out PV.out _ _ (by first | exact HX.out.a | exact HX.out.b | exact HX.out.c) (by first | exact HX.out.a | exact HX.out.b | exact HX.out.c) (by omega)).mono ?_ | with_reducible refine (add3 S.out PV.out _ _ _ (by first | exact HX.out.a | exact HX.out.b | exact HX.out.c) (by first | exact HX.out.a | exact HX.out.b | exact HX.out.c) (by first | exact HX.out.a | exact HX.out.b | exact HX.out.c) (by omega)).mono ?_); rintro e w4 ⟨⟨u, rfl⟩, g4, c4, N4, xs4, hS⟩; replace S := hid hS; clear hS; clear x0 x1 x2 x3 x4 x5 q0; obtain ⟨x0, x1, x2, x3, x4, x5⟩ := xbx6 S.out.bx; have q0 := S.out.q0)
       | (go_at_call 77; with_reducible refine (CK.out _ S.out.b).mono ?_; rintro e w5 ⟨rfl, hb5⟩; replace S := hid (S.out.below hb5); clear hb5; clear x0 x1 x2 x3 x4 x5 q0; obtain ⟨x0, x1, x2, x3, x4, x5⟩ := xbx6 S.out.bx; have q0 := S.out.q0)
       | (go_at_call 115; with_reducible refine (joinS S.out (by omega)).mono ?_; rintro e w6 ⟨s, rfl, hs, hb6⟩; have B6 := hid (S.out.b.trans (hb6.mono S.out.b.size)); have hs2 : (s.length : Int) ≤ 3000000 := (by omega); clear hb6))
     go_ret
     exact ⟨_, rfl, by simp; omega, B6.out⟩
end Go.Proofs.YtokjkligechcoaaGreatDoor
