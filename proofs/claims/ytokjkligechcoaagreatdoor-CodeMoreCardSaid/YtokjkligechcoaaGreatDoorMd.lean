/- CodeMore, walked: the function itself. -/
import Derived.Test.YtokjkligechcoaaGreatDoorMc
set_option linter.unusedVariables false
namespace Go.Proofs.YtokjkligechcoaaGreatDoor
open _root_.Go.Lib (hid)
open Go.RowKit
attribute [local go_sem] ext_mk size_mk toList_mk get_mk take_drop_len take_tail_len ByteArray.mk_append_mk List.append_toArray
/-- no function of a program without a fault of form has registers below none -/
theorem more_good {P : Pg} (h : (checkL P).2.2 ≠ 160) : ∀ f ∈ P.fs, 0 ≤ f.rs ∧ f.rs ≤ 4096 := by
 have h0 : (formsL P).2.2 = 0 := by
  refine Classical.byContradiction fun q => h ?_
  unfold checkL
  rw [if_pos q]
  exact forms_err q
 intro f hf
 have g := (formsL_good h0).2.1 f hf
 exact ⟨Int.le_trans g.ps g.le, g.rs⟩
theorem chk_more (fa sa ra : Option Addr) (fc sc rc nf ns nu : Nat) (P : Pg) (S : List UInt8) (u en : Int) (t : List Fu) (hf : P.fs.length + t.length = nf) (hs : P.ss.length + 1 = ns) (hu : P.us.length + 1 = nu) (he : P.en = en) (W : World) (h : PgAt W fa sa ra ⟨P.fs.map upF ++ t, P.ss ++ [S], P.us ++ [u], P.en⟩) :
  Calls Tryz.prog 11 #[.agg #[.slice fa nf fc, .slice sa ns sc, .slice ra nu rc, .int .i64 en]] W fun x w' => x = .returned (.tuple #[.int .i64 (checkL (moreP P S u t)).1, .int .i64 (checkL (moreP P S u t)).2.1, .int .i64 (checkL (moreP P S u t)).2.2]) ∧ Below W.heap.size W w' := by
 have := check_any fa sa ra fc sc rc (moreP P S u t) W h
 rw [show (moreP P S u t).fs.length = nf by rw [← hf]; simp [moreP], show (moreP P S u t).ss.length = ns by rw [← hs]; simp [moreP], show (moreP P S u t).us.length = nu by rw [← hu]; simp [moreP], show (moreP P S u t).en = en from he] at this
 exact this
set_option maxHeartbeats 8000000 in
set_option maxRecDepth 8000 in
theorem codeMore_walk (hA : ∀ W, PrVars W → Calls Tryz.prog 13 #[] W fun e w' => e = .returned (.bool true) ∧ Below W.heap.size W w') (fa sa ra ca : Option Addr) (fc sc rc cc : Nat) (P : Pg) (S : List UInt8) (u : Int) (F : Fu) (w : World) (hP : PgAt w fa sa ra P) (hR : PgR P) (hs : P.ss.length * 16 ≤ reachBytes) (hu : P.us.length * 8 ≤ reachBytes) (hS : S.length ≤ maxLen) (hu0 : 0 ≤ u) (hu1 : u < 18446744073709551616) (hC : CdAt w ca F.code) (hV : PrVars w) :
  Calls Tryz.prog 7 #[.agg #[.slice fa P.fs.length fc, .slice sa P.ss.length sc, .slice ra P.us.length rc, .int .i64 P.en, .string ⟨S.toArray⟩, .int .u64 u, .int .i64 F.ps, .int .i64 F.rs, .slice ca F.code.length cc]] w fun e w' => e = .returned (.bool true) ∧ Below w.heap.size w w' := by
 obtain ⟨W0, hW0⟩ : ∃ W, w.alloc (.cells #[.slice fa P.fs.length fc, .slice sa P.ss.length sc, .slice ra P.us.length rc, .int .i64 P.en, .string ⟨S.toArray⟩, .int .u64 u, .int .i64 F.ps, .int .i64 F.rs, .slice ca F.code.length cc] 50) = W := ⟨_, rfl⟩
 have hb0 : Below w.heap.size w W0 := by rw [← hW0]; exact (Below.refl _ _).alloc (Nat.le_refl _) _
 have k0 : KAt W0 w.heap.size (.cells #[.slice fa P.fs.length fc, .slice sa P.ss.length sc, .slice ra P.us.length rc, .int .i64 P.en, .string ⟨S.toArray⟩, .int .u64 u, .int .i64 F.ps, .int .i64 F.rs, .slice ca F.code.length cc] 50 (0, 0)) := by rw [← hW0]; exact KAt.new w _
 have HP := hid hP
 have HR := hid hR
 have HC := hid hC
 have PV := hid hV
 have HB0 := hid hb0
 have HSL := hid hS
 obtain ⟨nf, hnf⟩ : ∃ n, P.fs.length = n := ⟨_, rfl⟩
 obtain ⟨ns, hns⟩ : ∃ n, P.ss.length = n := ⟨_, rfl⟩
 obtain ⟨nu, hnu⟩ : ∃ n, P.us.length = n := ⟨_, rfl⟩
 obtain ⟨en, hen⟩ : ∃ n, P.en = n := ⟨_, rfl⟩
 obtain ⟨nl, hnl⟩ : ∃ n, S.length = n := ⟨_, rfl⟩
 have CA := hid hA
 have CC := hid (fun W h => check_any fa sa ra fc sc rc P W h)
 have CO := hid (fun W h => rcopy_own false fa sa ra fc sc rc P W h hR)
 unfold CpO at CO
 obtain ⟨⟨u1, u2, u3⟩, hck⟩ : ∃ t, checkL P = t := ⟨_, rfl⟩
 rw [hck] at CC
 have HCK := hid hck
 rw [hnf, hns, hnu, hen] at CC CO hW0 k0 ⊢
 have HNF := hid hnf
 have HNS := hid hns
 have HNU := hid hnu
 have HEN := hid hen
 have HNL := hid hnl
 have m1 : nf ≤ maxLen := by rw [← hnf]; exact hP.f.1
 have m2 : ns * 16 ≤ 140737488351232 := by rw [← hns]; exact hs
 have m3 : nu * 8 ≤ 140737488351232 := by rw [← hnu]; exact hu
 have m4 : nl ≤ maxLen := by rw [← hnl]; exact hS
 have M2 := hid m2
 have M3 := hid m3
 clear m1 m4
 have LSN := hid (show (strC P.ss).length = ns by rw [← hns]; simp [strC])
 have LUN := hid (show (u64C P.us).length = nu by rw [← hnu]; simp [u64C])
 obtain ⟨ps, rs, code⟩ := F
 dsimp only at HC k0 hW0 ⊢
 obtain ⟨nc, hnc⟩ : ∃ n, code.length = n := ⟨_, rfl⟩
 rw [hnc] at k0 hW0 ⊢
 have HNC := hid hnc
 have K0 := hid k0
 obtain ⟨x0, x1, x2, x3, x4, x5, x6, x7, x8⟩ := mbx k0
 clear hP hR hs hu hS hC hV hb0 k0 hnf hns hnu hen hnl hck hA hnc m2 m3
 go_enter Tryz.func7, Tryz.ntmps7
 go_wp2_with fail
 try rw [hW0]
 clear hW0
 go_cut [3, 4, 5, 6] from 15 to 166 (fun v3 v4 v5 v6 wx => ∃ g h, v3 = .pointer (some ⟨g, 0, none⟩) ∧ v4 = .string ⟨S.toArray⟩ ∧ v5 = .int .u64 u ∧ v6 = .pointer (some ⟨h, 0, none⟩) ∧ Below W0.heap.size W0 wx ∧ KAt wx g (qBox (.slice fa nf fc) (.slice sa ns sc) (.slice ra nu rc) en) ∧ KAt wx h (.cells #[.int .i64 ps, .int .i64 rs, .slice ca nc cc] 48 (0, 0)))
 case first =>
  obtain ⟨t1, t2, t3⟩ := two_new W0 #[.slice fa nf fc, .slice sa ns sc, .slice ra nu rc, .int .i64 en] #[.int .i64 ps, .int .i64 rs, .slice ca nc cc] 26 48
  obtain ⟨s1, s2, s3⟩ := two_new W0 #[.int .i64 ps, .int .i64 rs, .slice ca nc cc] #[.slice fa nf fc, .slice sa ns sc, .slice ra nu rc, .int .i64 en] 48 26
  have TT := hid (And.intro t1 (And.intro t2 t3))
  have SS := hid (And.intro s1 (And.intro s2 s3))
  clear t1 t2 t3 s1 s2 s3
  have y0 := fun o => cell_a1 x0 o
  have z0 := fun o o' => cell_a1 (cell_a1 x0 o) o'
  have y1 := fun o => cell_a1 x1 o
  have z1 := fun o o' => cell_a1 (cell_a1 x1 o) o'
  have y2 := fun o => cell_a1 x2 o
  have z2 := fun o o' => cell_a1 (cell_a1 x2 o) o'
  have y3 := fun o => cell_a1 x3 o
  have z3 := fun o o' => cell_a1 (cell_a1 x3 o) o'
  have y4 := fun o => cell_a1 x4 o
  have z4 := fun o o' => cell_a1 (cell_a1 x4 o) o'
  have y5 := fun o => cell_a1 x5 o
  have z5 := fun o o' => cell_a1 (cell_a1 x5 o) o'
  have y6 := fun o => cell_a1 x6 o
  have z6 := fun o o' => cell_a1 (cell_a1 x6 o) o'
  have y7 := fun o => cell_a1 x7 o
  have z7 := fun o o' => cell_a1 (cell_a1 x7 o) o'
  have y8 := fun o => cell_a1 x8 o
  have z8 := fun o o' => cell_a1 (cell_a1 x8 o) o'
  have yd0 : ∀ o, (W0.alloc o).drew.cell? ⟨w.heap.size, 0, none⟩ = _ := y0
  have zd0 : ∀ o o', ((W0.alloc o).alloc o').drew.cell? ⟨w.heap.size, 0, none⟩ = _ := z0
  have yd1 : ∀ o, (W0.alloc o).drew.cell? ⟨w.heap.size, 1, none⟩ = _ := y1
  have zd1 : ∀ o o', ((W0.alloc o).alloc o').drew.cell? ⟨w.heap.size, 1, none⟩ = _ := z1
  have yd2 : ∀ o, (W0.alloc o).drew.cell? ⟨w.heap.size, 2, none⟩ = _ := y2
  have zd2 : ∀ o o', ((W0.alloc o).alloc o').drew.cell? ⟨w.heap.size, 2, none⟩ = _ := z2
  have yd3 : ∀ o, (W0.alloc o).drew.cell? ⟨w.heap.size, 3, none⟩ = _ := y3
  have zd3 : ∀ o o', ((W0.alloc o).alloc o').drew.cell? ⟨w.heap.size, 3, none⟩ = _ := z3
  have yd4 : ∀ o, (W0.alloc o).drew.cell? ⟨w.heap.size, 4, none⟩ = _ := y4
  have zd4 : ∀ o o', ((W0.alloc o).alloc o').drew.cell? ⟨w.heap.size, 4, none⟩ = _ := z4
  have yd5 : ∀ o, (W0.alloc o).drew.cell? ⟨w.heap.size, 5, none⟩ = _ := y5
  have zd5 : ∀ o o', ((W0.alloc o).alloc o').drew.cell? ⟨w.heap.size, 5, none⟩ = _ := z5
  have yd6 : ∀ o, (W0.alloc o).drew.cell? ⟨w.heap.size, 6, none⟩ = _ := y6
  have zd6 : ∀ o o', ((W0.alloc o).alloc o').drew.cell? ⟨w.heap.size, 6, none⟩ = _ := z6
  have yd7 : ∀ o, (W0.alloc o).drew.cell? ⟨w.heap.size, 7, none⟩ = _ := y7
  have zd7 : ∀ o o', ((W0.alloc o).alloc o').drew.cell? ⟨w.heap.size, 7, none⟩ = _ := z7
  have yd8 : ∀ o, (W0.alloc o).drew.cell? ⟨w.heap.size, 8, none⟩ = _ := y8
  have zd8 : ∀ o o', ((W0.alloc o).alloc o').drew.cell? ⟨w.heap.size, 8, none⟩ = _ := z8
  go_region
  all_goals go_wp2_with fail
  all_goals go_meet
  all_goals first
   | exact ⟨_, _, rfl, rfl, rfl, rfl, TT.out.1, TT.out.2.1, TT.out.2.2⟩
   | exact ⟨_, _, rfl, rfl, rfl, rfl, SS.out.1, SS.out.2.2, SS.out.2.1⟩
 case rest =>
  obtain ⟨g, h, rfl, rfl, rfl, rfl, hb1, kp, kf⟩ := hcut
  clear x0 x1 x2 x3 x4 x5 x6 x7 x8 K0
  have B1 := hid (HB0.out.trans (hb1.mono HB0.out.size))
  have KP := hid kp
  have KF := hid kf
  obtain ⟨p0, p1, p2, p3⟩ := pbox_cells kp
  clear hb1 kp kf HB0
  go_upto_region 8 with (first
   | (go_at_call 11; (with_reducible refine (CC.out _ (HP.out.below B1.out)).mono ?_); rintro e w1 ⟨rfl, hb⟩; have B2 := hid (B1.out.trans (hb.mono B1.out.size)); have KP2 := hid (KP.out.below hb); have KF2 := hid (KF.out.below hb); clear p0 p1 p2 p3; obtain ⟨p0, p1, p2, p3⟩ := pbox_cells KP2.out; clear hb)
   | (go_at_call 21; (with_reducible refine (CO.out _ (HP.out.below B2.out)).mono ?_); rintro e w2 ⟨fb, fd, sb, sd, rb, rd, rfl, hD, hb, hSO, hUO, xs, hFO⟩; have MK3 := hid (more_start B2.out KP2.out KF2.out hD hb hFO HNF.out (.cells #[.slice fb nf fd, .slice sb ns sd, .slice rb nu rd, .int .i64 en] 26)); have hal := (Below.refl w2.heap.size w2).alloc (Nat.le_refl _) (.cells #[.slice fb nf fd, .slice sb ns sd, .slice rb nu rd, .int .i64 en] 26); have KQ3 := hid (KAt.new w2 (qBox (.slice fb nf fd) (.slice sb ns sd) (.slice rb nu rd) en)); have SO3 := hid (hSO.below hal); have UO3 := hid (hUO.below hal); have HBZ := hid MK3.out.bz; clear p0 p1 p2 p3 hD hb hSO hUO hFO hal; obtain ⟨q0, q1, q2, q3⟩ := pbox_cells KQ3.out)
   | (at_builtin; refine wp_oneO (W := w2.alloc (.cells #[.slice fb nf fd, .slice sb ns sd, .slice rb nu rd, .int .i64 en] 26)) (x0 := .string ⟨S.toArray⟩) infoStr Tryz.underlying23 rfl SO3.out HBZ.out rfl _ _ rfl LSN.out rfl (w2.heap.size + 1) (by simp) rfl rfl (by have := M2.out; unfold maxLen; omega) (by have := M2.out; omega) ?_; intro a1 c1 V1 r1 hb1 kp1; obtain ⟨k1, k2, k3, k4, z1, z1c⟩ := more_str MK3.out KQ3.out UO3.out r1 hb1 kp1 (by have := M2.out; rw [HNS.out]; unfold maxLen; omega) HP.out.s.2.1 HSL.out (.slice a1 (ns + 1) c1); have MK5 := hid k1; have KQ5 := hid k2; have UO5 := hid k3; have S5 := hid k4; have HBZ5 := hid MK5.out.bz; clear q0 q1 q2 q3 r1 hb1 kp1 k1 k2 k3 k4; obtain ⟨q0, q1, q2, q3⟩ := pbox_cells KQ5.out)
   | (at_builtin; refine wp_oneO (W := V1.setCell ⟨w2.heap.size, 1, none⟩ (.slice a1 (ns + 1) c1)) (x0 := .int .u64 u) infoU64 Tryz.underlying24 rfl UO5.out HBZ5.out rfl _ _ rfl LUN.out rfl V1.heap.size (by simp [World.setCell]) rfl rfl (by have := M3.out; unfold maxLen; omega) (by have := M3.out; omega) ?_; intro a2 c2 V2 r2 hb2 kp2; obtain ⟨k1, z2, z2c⟩ := more_real MK5.out KQ5.out S5.out r2 hb2 kp2 (by have := M3.out; rw [HNU.out]; unfold maxLen; omega) c2 HNU.out.symm; have Z6 := hid k1; clear q0 q1 q2 q3 z1 z1c r2 hb2 kp2 k1)
   | (go_at_call 13; refine (CA.out _ (PV.out.below Z6.out.k.be)).mono ?_; rintro e w5 ⟨rfl, hb⟩; have Z7 := hid (Z6.out.below hb); clear hb z2 z2c; obtain ⟨q0, q1, q2, q3⟩ := Z7.out.cells; obtain ⟨p0, p1, p2, p3⟩ := pbox_cells Z7.out.k.p))
  clear p0 p1 p2 p3 q0 q1 q2 q3
  have HBE := hid Z7.out.k.be
  obtain ⟨ns1, hn1⟩ : ∃ n, ns + 1 = n := ⟨_, rfl⟩
  obtain ⟨nu1, hn2⟩ : ∃ n, nu + 1 = n := ⟨_, rfl⟩
  have N1 := hid hn1
  have N2 := hid hn2
  rw [hn1, hn2] at Z7
  rw [hn1, hn2]
  clear hn1 hn2
  obtain ⟨q0, q1, q2, q3⟩ := Z7.out.cells
  obtain ⟨p0, p1, p2, p3⟩ := pbox_cells Z7.out.k.p
  by_cases g1 : (65536 : Int) < (S.length : Int)
  ·go_wp2_with fail
   go_ret
   exact ⟨rfl, HBE.out⟩
  by_cases g2 : (65536 : Int) < (ns1 : Int)
  ·go_wp2_with fail
   go_ret
   exact ⟨rfl, HBE.out⟩
  by_cases g3 : (65536 : Int) < (nu1 : Int)
  ·go_wp2_with fail
   go_ret
   exact ⟨rfl, HBE.out⟩
  by_cases g4 : (65536 : Int) ≤ (nf : Int)
  ·go_wp2_with fail
   go_ret
   exact ⟨rfl, HBE.out⟩
  by_cases g5 : u3 = 160
  ·go_wp2_with fail
   go_ret
   exact ⟨rfl, HBE.out⟩
  have G1 := hid g1
  have G2 := hid g2
  have G3 := hid g3
  have G4 := hid g4
  have G5 := hid g5
  have g6 : (u3 == 160) = false := by simpa using g5
  have h4 : (nf : Int) < 65536 := by omega
  go_upto_region 10 with fail
  clear g1 g2 g3 g4 g5 g6
  go_wp2_with fail
  go_loopw [73] (fun v73 wr => ∃ (k : Nat) (xs' : List Value), v73 = .int .i64 (k : Int) ∧ k ≤ nf ∧ MoZ w wr w1.heap.size g h w2.heap.size (qBox (.slice fa nf fc) (.slice sa ns sc) (.slice ra nu rc) en) (.cells #[.int .i64 ps, .int .i64 rs, .slice ca nc cc] 48 (0, 0)) (upTo k P.fs) fb nf fd xs' a1 ns1 c1 (P.ss ++ [S]) a2 nu1 c2 (P.us ++ [u]) en) (fun v73 _ => nf - (intOf v73).toNat)
  case atStart => exact ⟨0, xs, rfl, Nat.zero_le _, by rw [upTo_zero]; exact Z7.out⟩
  case round =>
   clear p0 p1 p2 p3 q0 q1 q2 q3 Z7 HBE
   obtain ⟨k, xs', rfl, hk, hZ⟩ := hrel
   have Z8 := hid hZ
   obtain ⟨q0, q1, q2, q3⟩ := hZ.cells
   by_cases hlt : k < nf
   ·obtain ⟨f, ef⟩ : ∃ f, P.fs[k]? = some f := ⟨_, List.getElem?_eq_getElem (show k < P.fs.length by rw [HNF.out]; exact hlt)⟩
    obtain ⟨b, cap', cur, hv, b1, b2, -⟩ := own_parts hZ.k.o (by omega)
    cases hv
    have hfv := hZ.k.v.2 k f (upTo_get ef)
    obtain ⟨ca', cc', v0, v1, v2, -⟩ := hfv.cd
    obtain ⟨c1', c2'⟩ := own_cell (i := k * 3 + 1) hZ.k.o (by omega) v1
    have hgd := more_good (by rw [HCK.out]; exact G5.out) f (List.mem_of_getElem? ef)
    have EF := hid ef
    have it : ((k : Int)).toNat = k := Int.toNat_natCast k
    obtain ⟨fps, frs, fcode⟩ := f
    dsimp only at c1' hgd
    obtain ⟨hg1, hg2⟩ := hgd
    clear hZ hfv v0 v1 v2 ef b2 G1 G2 G3 G4 G5
    by_cases hr : frs < 4096
    ·go_wp2_with fail
     go_roundw
     case rel =>
      refine ⟨k + 1, xs'.set (k * 3 + 1) (.int .i64 (frs + 1)), by go_num, hlt, ?_⟩
      have hup : upF ⟨fps, frs, fcode⟩ = ⟨fps, frs + 1, fcode⟩ := by unfold upF; rw [if_pos hr]
      have hm := Z8.out.reg rfl (upTo_get EF.out) (frs + 1)
      rw [upTo_next EF.out, hup]
      exact hm
     case measure => simp only [intOf]; omega
    ·go_wp2_with fail
     go_roundw
     case rel =>
      refine ⟨k + 1, xs', by go_num, hlt, ?_⟩
      rw [upTo_same EF.out (by unfold upF; rw [if_neg hr])]
      exact Z8.out
     case measure => simp only [intOf]; omega
   ·obtain rfl : k = nf := by omega
    have EU := hid (show upTo k P.fs = P.fs.map upF by rw [← HNF.out, upTo_all])
    have hZ9 := hZ
    rw [EU.out] at hZ9
    have Z9 := hid hZ9
    clear hZ9
    have HZU : Hid (∀ v ∈ P.us ++ [u], 0 ≤ v ∧ v < 18446744073709551616) := hid (fun v hv => by
     rcases List.mem_append.1 hv with hv | hv
     ·exact HP.out.z v hv
     ·obtain rfl : v = u := by simpa using hv
      exact ⟨hu0, hu1⟩)
    have PA := hid (show PgAt wr fb a1 a2 ⟨P.fs.map upF ++ [], P.ss ++ [S], P.us ++ [u], P.en⟩ by rw [List.append_nil, HEN.out]; exact Z9.out.at HZU.out)
    obtain ⟨p0, p1, p2, p3⟩ := pbox_cells hZ.k.p
    have CM1 := hid (fun W (hW : PgAt W fb a1 a2 ⟨P.fs.map upF ++ [], P.ss ++ [S], P.us ++ [u], P.en⟩) => chk_more fb a1 a2 fd c1 c2 k ns1 nu1 P S u en [] (by rw [HNF.out]; rfl) (by rw [HNS.out]; exact N1.out) (by rw [HNU.out]; exact N2.out) HEN.out W hW)
    have CM2 := hid (fun bb cc2 W (hW : PgAt W bb a1 a2 ⟨P.fs.map upF ++ [⟨ps, rs, code⟩], P.ss ++ [S], P.us ++ [u], P.en⟩) => chk_more bb a1 a2 cc2 c1 c2 (k + 1) ns1 nu1 P S u en [⟨ps, rs, code⟩] (by rw [HNF.out]; rfl) (by rw [HNS.out]; exact N1.out) (by rw [HNU.out]; exact N2.out) HEN.out W hW)
    have hE : checkL (moreP P S u []) = (u1, u2, u3) := by rw [← HCK.out]; exact check_more (by rw [HCK.out]; exact G5.out) (by have := G1.out; omega) (by have := G2.out; have := N1.out; rw [HNS.out]; omega) (by have := G3.out; have := N2.out; rw [HNU.out]; omega)
    rw [hE] at CM1
    have hF := check_fn (s := S) (u := u) (F := ⟨ps, rs, code⟩) (by rw [HCK.out]; exact G5.out) (by have := G1.out; omega) (by have := G2.out; have := N1.out; rw [HNS.out]; omega) (by have := G3.out; have := N2.out; rw [HNU.out]; omega) (by have := G4.out; rw [HNF.out]; omega)
    obtain ⟨⟨t1, t2, t3⟩, ht⟩ : ∃ t, checkL (moreP P S u [⟨ps, rs, code⟩]) = t := ⟨_, rfl⟩
    rw [ht] at CM2
    rw [ht, HCK.out, HNF.out] at hF
    have HF := hid hF
    clear hZ EU Z8 hE ht hF G1 G2 G3
    go_upto_region 19 with (go_at_call 11; (with_reducible refine (CM1.out _ PA.out).mono ?_); rintro e w6 ⟨rfl, hb⟩; have ZA := hid (Z9.out.below hb); clear hb; clear p0 p1 p2 p3 q0 q1 q2 q3; obtain ⟨q0, q1, q2, q3⟩ := ZA.out.cells; obtain ⟨p0, p1, p2, p3⟩ := pbox_cells ZA.out.k.p; obtain ⟨f0, f1, f2⟩ := fbox_cells ZA.out.k.f)
    go_upto_region 20 with (at_builtin; go_loud (refine wp_oneG (W := w6) (news := [.int .i64 ps, .int .i64 rs, .slice ca nc cc]) infoFunc Tryz.underlying22 rfl (by decide) ZA.out.k.o ZA.out.k.bz rfl _ _ rfl rfl _ rfl rfl rfl (by intro u hu; simp at hu; rcases hu with rfl | rfl | rfl <;> rfl) (by unfold maxLen; omega) (by omega) ?_); intro g7 c7 V o7 hb7 kp7; obtain ⟨k1, k2, k3, k4, z1, z1c⟩ := more_fn (F := ⟨ps, rs, code⟩) ZA.out HZU.out HC.out HNC.out o7 hb7 kp7 (.slice (some ⟨g7, 0, none⟩) (k + 1) c7); rw [← HEN.out] at k1; have PA3 := hid k1; have BE3 := hid k2; have Q3 := hid k3; have P3 := hid k4; clear k1 k2 k3 k4 o7 hb7 kp7 q0 q1 q2 q3 p0 p1 p2 p3 f0 f1 f2; obtain ⟨q0, q1, q2, q3⟩ := pbox_cells Q3.out)
    go_upto_region 21 with (go_at_call 11; (with_reducible refine (CM2.out _ _ _ PA3.out).mono ?_); rintro e w8 ⟨rfl, hb⟩; have B8 := hid (BE3.out.trans (hb.mono BE3.out.size)); have P8 := hid (P3.out.below hb); clear hb q0 q1 q2 q3 z1 z1c; obtain ⟨p0, p1, p2, p3⟩ := pbox_cells P8.out)
    by_cases e0 : u3 = 0
    ·subst e0
     by_cases e1 : t3 = 0
     ·subst e1
      go_wp2_with fail
      go_ret
      exact ⟨rfl, B8.out⟩
     ·have e2 : t1 = (k : Int) := (HF.out.1 rfl).resolve_left e1
      subst e2
      have e3 : (t3 == 0) = false := by simpa using e1
      go_wp2_with fail
      go_ret
      exact ⟨rfl, B8.out⟩
    ·have e3 : (u3 == 0) = false := by simpa using e0
     rcases HF.out.2 e0 with e1 | ⟨e1, e2⟩
     ·obtain ⟨e4, e5, e6⟩ : t1 = u1 ∧ t2 = u2 ∧ t3 = u3 := by simpa [Prod.mk.injEq] using e1
      subst e4 e5 e6
      have e7 : (t3 == t3) = true := by simp
      have e8 : (t2 == t2) = true := by simp
      have e9 : (t1 == t1) = true := by simp
      have e10 : (t3 != 0) = true := by simpa using e0
      go_wp2_with fail
      go_ret
      exact ⟨rfl, B8.out⟩
     ·subst e1 e2
      have e4 : ((160 : Int) == u3) = false := by have := G5.out; simp; omega
      have e10 : (u3 != 0) = true := by simpa using e0
      go_wp2_with fail
      go_ret
      exact ⟨rfl, B8.out⟩
end Go.Proofs.YtokjkligechcoaaGreatDoor
