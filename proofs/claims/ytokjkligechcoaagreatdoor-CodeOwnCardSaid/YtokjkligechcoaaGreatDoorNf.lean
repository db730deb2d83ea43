/- Walks of layer 16: every program's text: it is written. -/
import Derived.Test.YtokjkligechcoaaGreatDoorNj
import Derived.Test.YtokjkligechcoaaGreatDoorNe
import Derived.Test.YtokjkligechcoaaGreatDoorKs
set_option linter.unusedVariables false
namespace Go.Proofs.YtokjkligechcoaaGreatDoor
open _root_.Go.Lib (hid)
open Go.RowKit
attribute [local go_sem] ext_mk size_mk toList_mk get_mk take_drop_len take_tail_len ByteArray.mk_append_mk List.append_toArray
set_option maxHeartbeats 20000000 in
set_option maxRecDepth 8000 in
theorem print_any (fa sa ra : Option Addr) (fc sc rc : Nat) (P : Pg) (w : World) (hP : PgAt w fa sa ra P) (hV : PrVars w) (hBV : BitV w) :
  Calls Tryz.prog 22 #[.agg #[.slice fa P.fs.length fc, .slice sa P.ss.length sc, .slice ra P.us.length rc, .int .i64 P.en]] w fun e w' => (∃ u, e = .returned u) ∧ Below w.heap.size w w' := by
 have PG := hid hP
 have PV := hid hV
 have CK := hid (fun W h => check_any fa sa ra fc sc rc P W h)
 have CW := hid (fun W => worldOf_full fa sa ra P.fs.length P.ss.length P.us.length fc sc rc P.en W)
 by_cases hck : (checkL P).2.2 = 0
 rotate_left
 ·obtain ⟨⟨t1, t2, t3⟩, ht⟩ : ∃ t, checkL P = t := ⟨_, rfl⟩
  rw [ht] at CK hck
  dsimp only at hck
  have B0 := hid (show Below w.heap.size w (w.alloc (.cells #[.slice fa P.fs.length fc, .slice sa P.ss.length sc, .slice ra P.us.length rc, .int .i64 P.en] 26)) from (Below.refl _ _).alloc (Nat.le_refl _) _)
  clear hP hV hBV CW ht
  go_enter Tryz.func22, Tryz.ntmps22
  go_wp2_with (go_at_call 11; with_reducible refine (CK.out _ (PG.out.below B0.out)).mono ?_; rintro e w1 ⟨rfl, hb1⟩; have B1 := hid (B0.out.trans (hb1.mono B0.out.size)); clear hb1)
  go_ret2
  exact ⟨⟨_, rfl⟩, B1.out⟩
 have hfm : (formsL P).2.2 = 0 := by
  refine Classical.byContradiction fun q => ?_
  unfold checkL at hck
  rw [if_pos q] at hck
  exact q hck
 obtain ⟨-, hgood, hhead⟩ := formsL_good hfm
 obtain ⟨l1, l2, l3, l4, l5, l6⟩ := headB_len hhead
 have hck2 : checkL P = (0, 0, 0) ∨ ∃ a b, checkL P = (a, b, 0) := .inr ⟨_, _, by rw [← hck]⟩
 obtain ⟨t1, t2, ht⟩ : ∃ a b, checkL P = (a, b, 0) := ⟨_, _, by rw [← hck]⟩
 rw [ht] at CK
 have HG := hid hgood
 have HS4 := hid l4
 obtain ⟨nf, hnf⟩ : ∃ n, P.fs.length = n := ⟨_, rfl⟩
 obtain ⟨ns, hns⟩ : ∃ n, P.ss.length = n := ⟨_, rfl⟩
 obtain ⟨nu, hnu⟩ : ∃ n, P.us.length = n := ⟨_, rfl⟩
 obtain ⟨en, hen⟩ : ∃ n, P.en = n := ⟨_, rfl⟩
 have HNF := hid hnf
 have HNS := hid hns
 have HNU := hid hnu
 have CN := hid (fun n W (h : I8b n) (hb : Below w.heap.size w W) => number_any n W h (PV.out.below hb))
 have HEN := hid (show I8b en by rw [← hen]; exact ⟨by omega, by omega⟩)
 have hE := numS_len HEN.out
 obtain ⟨E, hEe⟩ : ∃ E, numS en = E := ⟨_, rfl⟩
 have HE := hid hEe
 rw [hEe] at hE
 have hE2 : (E.length : Int) ≤ 20 := by omega
 obtain ⟨W0, hW0⟩ : ∃ W, w.alloc (.cells #[.slice fa nf fc, .slice sa ns sc, .slice ra nu rc, .int .i64 en] 26) = W := ⟨_, rfl⟩
 have hb0 : Below w.heap.size w W0 := by rw [← hW0]; exact (Below.refl _ _).alloc (Nat.le_refl _) _
 have k0 : KAt W0 w.heap.size (.cells #[.slice fa nf fc, .slice sa ns sc, .slice ra nu rc, .int .i64 en] 26 (0, 0)) := by rw [← hW0]; exact KAt.new w _
 have K0 := hid k0
 have B0 := hid hb0
 obtain ⟨p0, p1, p2, p3⟩ := pbox_cells k0
 rw [hnf, hns, hnu, hen] at CK CW ⊢
 rw [hnf] at l1
 rw [hns] at l2
 rw [hnu] at l3
 have BV := hid (fun W (h : Below w.heap.size w W) => hBV.below h)
 have EV := hid (fun l W (hl : l.length ≤ 65536) (h : Below w.heap.size w W) => escape_w l W (hV.below h) hl)
 clear hP hV hBV hnf hns hnu hen hb0 k0 hEe ht hck hck2 hfm hgood hhead l4 l5 l6
 go_enter Tryz.func22, Tryz.ntmps22
 go_wp2_with fail
 try rw [hW0]
 clear hW0
 go_wp2_with (first
  | (go_at_call 11; with_reducible refine (CK.out _ (PG.out.below B0.out)).mono ?_; rintro e w1 ⟨rfl, hb1⟩; have B1 := hid (B0.out.trans (hb1.mono B0.out.size)); have K1 := hid (K0.out.below hb1); clear p0 p1 p2 p3 hb1; obtain ⟨p0, p1, p2, p3⟩ := pbox_cells K1.out)
  | (go_at_call 27; with_reducible refine (CW.out _).mono ?_; rintro e w2 ⟨pw, rfl, hW2, hb2⟩; have B2 := hid (B1.out.trans (hb2.mono B1.out.size)); have K2 := hid (K1.out.below hb2); have HW2 := hid hW2; have FB := hid (Bld.fresh w2); have B2a := hid (show Below w2.heap.size w2 (w2.alloc (.cells #[.pointer none, .slice none 0 0] 94)) from (Below.refl _ _).alloc (Nat.le_refl _) _); have hmf := mkfun; clear p0 p1 p2 p3 hW2 hb2; have p3 := (fun o => cell_a1 (pbox_cells K2.out).2.2.2 o))
  | (go_at_call 49; with_reducible refine (CN.out en _ HEN.out (B2.out.trans (B2a.out.mono B2.out.size))).mono ?_; rw [HE.out]; rintro e w3 ⟨rfl, hb3⟩; have D3 := hid (FB.out.below hb3); have B3 := hid (B2a.out.trans (hb3.mono B2a.out.size)); clear hb3 p3)
  | (go_at_call 48; with_reducible refine (ws_k w2.heap.size w2.heap.size [] _ _ D3.out (by simp; omega) B3.out.size).mono ?_; rintro e w4 ⟨⟨v, rfl⟩, hd4, hb4, -⟩; obtain ⟨A4, hA4, hd4⟩ : ∃ A4 : List UInt8, A4.length ≤ 16777216 ∧ Bld w2.heap.size w2.heap.size A4 w4 := ⟨_, by simp; omega, hd4⟩; have D4 := hid hd4; have B4 := hid (B3.out.trans hb4); clear hd4 hb4; have K4 := hid (show KAt w4 w.heap.size _ from ⟨(B4.out.block w.heap.size (heap_lt K2.out.x)).trans K2.out.x⟩); obtain ⟨p0, p1, p2, p3⟩ := pbox_cells K4.out))
 clear p0 p1 p2 p3 K4 B3 D3 B2a FB K0 K1 B0 B1 CK CW hE2
 have PB := hid (fun W (h : Below w2.heap.size w2 W) => (show KAt W w.heap.size _ from ⟨(h.block w.heap.size (heap_lt K2.out.x)).trans K2.out.x⟩))
 have BW := hid (fun W (h : Below w2.heap.size w2 W) => (show Below w.heap.size w W from B2.out.trans (h.mono B2.out.size)))
 clear K2
 go_loopw [41] (fun v41 wr => ∃ (k : Nat) (A : List UInt8), v41 = .int .i64 (k : Int) ∧ k ≤ ns ∧ Below w2.heap.size w2 wr ∧ Bld w2.heap.size w2.heap.size A wr ∧ A.length ≤ 16777216) (fun v41 _ => ns - (intOf v41).toNat)
 case atStart => exact ⟨0, _, rfl, Nat.zero_le _, B4.out, D4.out, hA4⟩
 case round =>
  clear B4 D4 hE hA4 A4
  obtain ⟨k, A, rfl, hk, hb, hd, hA⟩ := hrel
  have HB := hid hb
  have HD := hid hd
  by_cases hlt : k < ns
  ·obtain ⟨sb, so, s, rfl, hs, c0, -⟩ := strs_cell (PG.out.s.below (BW.out _ hb)) (show k < P.ss.length by rw [HNS.out]; exact hlt)
   have hsl := HS4.out s (List.mem_of_getElem? hs)
   have CE := hid (EV.out s wr hsl (BW.out _ hb))
   have it : ((k : Int)).toNat = k := Int.toNat_natCast k
   clear hb hd hs hsl
   go_upto_region 12 with (first
    | (go_at_call 50; with_reducible refine CE.out.mono ?_; rintro e w5 ⟨t, rfl, ht, hb5⟩; have D5 := hid (HD.out.below hb5); have B5 := hid (HB.out.trans (hb5.mono HB.out.size)); have ht2 : (t.length : Int) ≤ 2000000 := (by omega); clear hb5)
    | (go_at_call 48; with_reducible refine (ws_k w2.heap.size w2.heap.size A _ _ D5.out (by simp; omega) B5.out.size).mono ?_; rintro e w6 ⟨⟨v, rfl⟩, hd6, hb6, -⟩; obtain ⟨A2, hA2l, hd6⟩ : ∃ A2 : List UInt8, A2.length ≤ 20000000 ∧ Bld w2.heap.size w2.heap.size A2 w6 := ⟨_, by simp; omega, hd6⟩; have D7 := hid hd6; have B6 := hid (B5.out.trans hb6); clear hd6 hb6))
   clear ht ht2
   by_cases hM : 16777216 < A2.length
   ·go_wp2_with (go_at_call 51; with_reducible refine (wlen_any w2.heap.size w2.heap.size A2 _ D7.out).mono ?_; rintro e w7 ⟨rfl, rfl⟩)
    go_ret2
    exact ⟨⟨_, rfl⟩, BW.out _ B6.out⟩
   ·go_wp2_with (go_at_call 51; with_reducible refine (wlen_any w2.heap.size w2.heap.size A2 _ D7.out).mono ?_; rintro e w7 ⟨rfl, rfl⟩)
    go_roundw
    case rel => exact ⟨k + 1, A2, by go_num, hlt, B6.out, D7.out, by omega⟩
    case measure => simp only [intOf]; omega
  ·obtain rfl : k = ns := by omega
   obtain ⟨p0, p1, p2, p3⟩ := pbox_cells (PB.out _ hb)
   clear hb hd hk hlt
   go_wp2_with fail
   clear p0 p1 p2 p3
   go_loopw [57] (fun v57 wz => ∃ (k : Nat) (A : List UInt8), v57 = .int .i64 (k : Int) ∧ k ≤ nu ∧ Below w2.heap.size w2 wz ∧ Bld w2.heap.size w2.heap.size A wz ∧ A.length ≤ 16777216 + 50 * k) (fun v57 _ => nu - (intOf v57).toNat)
   case atStart => exact ⟨0, A, rfl, Nat.zero_le _, HB.out, HD.out, by omega⟩
   case round =>
    clear HB HD hA A
    obtain ⟨k, A, rfl, hk, hb, hd, hA⟩ := hrel
    have HB := hid hb
    have HD := hid hd
    by_cases hlt : k < nu
    ·obtain ⟨rb, ro, rfl, c0⟩ := ints_c0 (PG.out.u.below (BW.out _ hb)) (show k < P.us.length by rw [HNU.out]; exact hlt)
     have hz := PG.out.z _ (getD_mem (show k < P.us.length by rw [HNU.out]; exact hlt))
     obtain ⟨z, hze⟩ : ∃ z, P.us.getD k 0 = z := ⟨_, rfl⟩
     rw [hze] at c0 hz
     obtain ⟨u, rfl⟩ := Int.eq_ofNat_of_zero_le hz.1
     have CF := hid (fuint_any u (by omega) wr (BV.out _ (BW.out _ hb)))
     have it : ((k : Int)).toNat = k := Int.toNat_natCast k
     clear hb hd hz hze
     go_wp2_with (first
      | (go_at_call 53; with_reducible refine CF.out.mono ?_; rintro e w5 ⟨s, rfl, hs1, hs2, hb5⟩; have D5 := hid (HD.out.below hb5); have B5 := hid (HB.out.trans (hb5.mono HB.out.size)); have HS2 := hid hs2; clear hb5 hs2)
      | (go_at_call 52; with_reducible refine (upper_w s _ hs1 HS2.out).mono ?_; rintro e w6 ⟨t, rfl, ht, hb6⟩; have D6 := hid (D5.out.below hb6); have B6 := hid (B5.out.trans (hb6.mono B5.out.size)); have ht1 : t.length ≤ 16 := (by omega); have hsub : (16 : Int) - (t.length : Int) = ((16 - t.length : Nat) : Int) := (by omega); clear hb6 ht)
      | (go_at_call 54; refine (rep_w (16 - t.length) _ (by omega)).mono ?_; rintro e w7 ⟨r, rfl, hr, hb7⟩; have D7 := hid (D6.out.below hb7); have B7 := hid (B6.out.trans (hb7.mono B6.out.size)); have hr1 : r.length ≤ 16 := (by omega); clear hb7 hr)
      | (go_at_call 48; with_reducible refine (ws_k w2.heap.size w2.heap.size A _ _ D7.out (by simp; omega) B7.out.size).mono ?_; rintro e w8 ⟨⟨v, rfl⟩, hd8, hb8, -⟩; have D8 := hid hd8; have B8 := hid (B7.out.trans hb8); clear hd8 hb8))
     go_roundw
     case rel => exact ⟨k + 1, _, by go_num, hlt, B8.out, D8.out, by simp; omega⟩
     case measure => simp only [intOf]; omega
    ·obtain rfl : k = nu := by omega
     obtain ⟨p0, p1, p2, p3⟩ := pbox_cells (PB.out _ hb)
     have hA20 : A.length ≤ 20100000 := by omega
     clear hb hd hk hlt hA
     go_wp2_with fail
     clear p0 p1 p2 p3
     go_loopw [78] (fun v78 wz => ∃ (k : Nat) (A : List UInt8), v78 = .int .i64 (k : Int) ∧ k ≤ nf ∧ Below w2.heap.size w2 wz ∧ Bld w2.heap.size w2.heap.size A wz ∧ A.length ≤ 20100000) (fun v78 _ => nf - (intOf v78).toNat)
     case atStart => exact ⟨0, A, rfl, Nat.zero_le _, HB.out, HD.out, hA20⟩
     case round =>
      clear HB HD hA20 A
      obtain ⟨k, A, rfl, hk, hb, hd, hA⟩ := hrel
      have HB := hid hb
      by_cases hlt : k < nf
      ·obtain ⟨fB, fO, f, rfl, hf, ca, ccp, g0, g1, g2, hC⟩ := fns_cell PG.out.f (show k < P.fs.length by rw [HNF.out]; exact hlt)
       have g0 := cell_bw g0 (BW.out _ hb)
       have g1 := cell_bw g1 (BW.out _ hb)
       have g2 := cell_bw g2 (BW.out _ hb)
       have hgf := HG.out f (List.mem_of_getElem? hf)
       have HGF := hid hgf
       obtain ⟨ps, rs, code⟩ := f
       obtain ⟨f1, f2, f3, f4, -⟩ := hgf
       dsimp only at g0 g1 g2 hC f1 f2 f3 f4
       obtain ⟨nc, hnc⟩ : ∃ n, code.length = n := ⟨_, rfl⟩
       have HNC := hid hnc
       rw [hnc] at g2 f4
       have HC := hid hC
       have HPS := hid (show I8b ps from ⟨by omega, by omega⟩)
       have HRS := hid (show I8b rs from ⟨by omega, by omega⟩)
       have hpl := numS_len HPS.out
       have hrl := numS_len HRS.out
       have HD := hid hd
       obtain ⟨Ep, hEp⟩ : ∃ E, numS ps = E := ⟨_, rfl⟩
       obtain ⟨Er, hEr⟩ : ∃ E, numS rs = E := ⟨_, rfl⟩
       have HEP := hid hEp
       have HER := hid hEr
       rw [hEp] at hpl
       rw [hEr] at hrl
       have it : ((k : Int)).toNat = k := Int.toNat_natCast k
       obtain ⟨Wf, hWf⟩ : ∃ W, wr.alloc (.cells #[.int .i64 ps, .int .i64 rs, .slice ca nc ccp] 48) = W := ⟨_, rfl⟩
       have HWF := hid hWf
       have BF := hid (show Below wr.heap.size wr Wf by rw [← hWf]; exact (Below.refl _ _).alloc (Nat.le_refl _) _)
       have KF := hid (show KAt Wf wr.heap.size (.cells #[.int .i64 ps, .int .i64 rs, .slice ca nc ccp] 48 (0, 0)) by rw [← hWf]; exact KAt.new _ _)
       have hlw : w2.heap.size ≠ wr.heap.size := by
        obtain ⟨-, v0, hbk, -⟩ | ⟨-, v0, hbk, -⟩ := hd
        ·exact Nat.ne_of_lt (heap_lt hbk)
        ·exact Nat.ne_of_lt (heap_lt hbk)
       have HLW := hid hlw
       clear hb hd hf hEp hEr hnc hC hWf hlw f1 f2 f3
       go_upto_region 24 with (fail)
       try rw [HWF.out]
       go_cut [16, 78] from 78 to 109 (fun v16 v78 wx => v16 = .pointer (some ⟨wr.heap.size, 0, none⟩) ∧ v78 = .int .i64 (k : Int) ∧ Below w2.heap.size w2 wx ∧ (∃ A2, Bld w2.heap.size w2.heap.size A2 wx ∧ A2.length ≤ 20200000) ∧ KAt wx wr.heap.size (.cells #[.int .i64 ps, .int .i64 rs, .slice ca nc ccp] 48 (0, 0)))
       case first =>
        obtain ⟨y0, y1, y2⟩ := fbox_cells KF.out
        have BD := hid (show Below w2.heap.size w2 Wf.drew from (HB.out.trans (BF.out.mono HB.out.size)).drew)
        have DD := hid (show Bld w2.heap.size w2.heap.size A Wf.drew from HD.out.below BF.out.drew)
        have KD := hid (show KAt Wf.drew wr.heap.size (.cells #[.int .i64 ps, .int .i64 rs, .slice ca nc ccp] 48 (0, 0)) from ⟨KF.out.x⟩)
        have c1 : ¬ 9223372036854775807 < 5 + Ep.length := by omega
        have c2 : ¬ 9223372036854775807 < Ep.length + 1 + 1 + 1 + 1 + 1 + 1 := by omega
        have c3 : ¬ 9223372036854775807 < Ep.length + 1 + 1 + 1 + 1 + 1 + 1 + Er.length := by omega
        have c4 : ¬ 9223372036854775807 < Ep.length + (Er.length + 1) + 1 + 1 + 1 + 1 + 1 + 1 := by omega
        go_region_law (first
         | (go_simp; go_at_call 49; refine (CN.out ps _ HPS.out (BW.out _ (by exact BD.out))).mono ?_; rw [HEP.out]; rintro e w5 ⟨rfl, hb5⟩; have B5 := hid (BD.out.trans (hb5.mono BD.out.size)); have D5 := hid (DD.out.below hb5); have K5 := hid (KD.out.below hb5); clear hb5 y0 y1 y2; obtain ⟨y0, y1, y2⟩ := fbox_cells K5.out)
         | (go_simp; go_at_call 49; refine (CN.out rs _ HRS.out (BW.out _ (by exact B5.out))).mono ?_; rw [HER.out]; rintro e w6 ⟨rfl, hb6⟩; have B6 := hid (B5.out.trans (hb6.mono B5.out.size)); have D6 := hid (D5.out.below hb6); have K6 := hid (K5.out.below hb6); clear hb6 y0 y1 y2; obtain ⟨y0, y1, y2⟩ := fbox_cells K6.out)
         | (go_simp; go_at_call 49; refine (CN.out rs _ HRS.out (BW.out _ (by exact BD.out))).mono ?_; rw [HER.out]; rintro e w5 ⟨rfl, hb5⟩; have B5 := hid (BD.out.trans (hb5.mono BD.out.size)); have D5 := hid (DD.out.below hb5); have K5 := hid (KD.out.below hb5); clear hb5 y0 y1 y2; obtain ⟨y0, y1, y2⟩ := fbox_cells K5.out)
         | (go_simp; go_at_call 49; refine (CN.out ps _ HPS.out (BW.out _ (by exact B5.out))).mono ?_; rw [HEP.out]; rintro e w6 ⟨rfl, hb6⟩; have B6 := hid (B5.out.trans (hb6.mono B5.out.size)); have D6 := hid (D5.out.below hb6); have K6 := hid (K5.out.below hb6); clear hb6 y0 y1 y2; obtain ⟨y0, y1, y2⟩ := fbox_cells K6.out)
         | (go_simp; go_at_call 48; refine (ws_k w2.heap.size w2.heap.size A _ _ D6.out (by simp; omega) B6.out.size).mono ?_; rintro e w7 ⟨⟨v, rfl⟩, hd7, hb7, ho7⟩; have D7 := hid hd7; have B7 := hid (B6.out.trans hb7); have K7 := hid (K6.out.oth ho7 (Ne.symm HLW.out) (by decide)); clear hd7 hb7 ho7))
        all_goals go_wp2_with fail
        all_goals go_meet
        all_goals exact ⟨rfl, rfl, B7.out, ⟨_, D7.out, by simp; omega⟩, K7.out⟩
       case rest =>
        obtain ⟨rfl, rfl, hb, ⟨A2, hd, hA2⟩, hkf⟩ := hcut
        have HB2 := hid hb
        have HD2 := hid hd
        obtain ⟨y0, y1, y2⟩ := fbox_cells hkf
        clear hb hd hkf HB HD BF KF HWF HLW hpl hrl hA
        go_wp2_with fail
        clear y0 y1 y2
        go_loopw [97] (fun v97 wz => ∃ (j : Nat) (A : List UInt8), v97 = .int .i64 (j : Int) ∧ j ≤ nc ∧ Below w2.heap.size w2 wz ∧ Bld w2.heap.size w2.heap.size A wz ∧ A.length ≤ 20200000 + 4000000 * j) (fun v97 _ => nc - (intOf v97).toNat)
        case atStart => exact ⟨0, A2, rfl, Nat.zero_le _, HB2.out, HD2.out, by omega⟩
        case round =>
         clear HB2 HD2 hA2 A2
         obtain ⟨j, A1, rfl, hj, hb, hd, hA1⟩ := hrel
         have HB := hid hb
         by_cases hjl : j < nc
         ·obtain ⟨gc, oc, x, rfl, ex, la, lc, va, vc', q0, q1, q2, q3, q4, q5, pl, pv⟩ := cd_cell (HC.out.below (BW.out _ hb)) (show j < code.length by rw [HNC.out]; exact hjl)
          have hx3 := lnok_of (HGF.out.x j x ex) HGF.out.rs HGF.out.cn (by rw [HNS.out]; exact l2) (by rw [HNU.out]; exact l3) (by unfold fpL; rw [List.length_map, HNF.out]; exact l1)
          have jt : ((j : Int)).toNat = j := Int.toNat_natCast j
          obtain ⟨xo, xa, xb, xc, xl, xv⟩ := x
          dsimp only at q0 q1 q2 q3 q4 q5 pl pv
          have HD := hid hd
          have PVV := hid pv
          have PLL := hid pl
          have CL := hid (fun W (h : Below wr.heap.size wr W) => line_any pw _ _ _ _ _ _ _ _ _ _ xo xa xb xc la va xl xv lc vc' W hx3 (PLL.out.below h) (PVV.out.below h) (PV.out.below ((BW.out _ HB.out).trans (h.mono (BW.out _ HB.out).size))) (HW2.out.below (HB.out.trans (h.mono HB.out.size))))
          have BX := hid (show Below wr.heap.size wr (wr.alloc (.cells #[.int .i64 xo, .int .i64 xa, .int .i64 xb, .int .i64 xc, .slice la xl.length lc, .slice va xv.length vc'] 58)) from (Below.refl _ _).alloc (Nat.le_refl _) _)
          clear hb hd ex pl pv hx3
          go_wp2_with (first
           | (go_at_call 55; with_reducible refine (CL.out _ BX.out).mono ?_; rintro e w5 ⟨T, rfl, hT, hb5⟩; have B5 := hid (HB.out.trans ((BX.out.trans (hb5.mono BX.out.size)).mono HB.out.size)); have D5 := hid ((HD.out.below BX.out).below hb5); clear hb5)
           | (go_at_call 48; with_reducible refine (ws_k w2.heap.size w2.heap.size A1 T _ D5.out (by omega) B5.out.size).mono ?_; rintro e w6 ⟨⟨v, rfl⟩, hd6, hb6, -⟩; have D6 := hid hd6; have B6 := hid (B5.out.trans hb6); clear hd6 hb6))
          go_roundw
          case rel => exact ⟨j + 1, A1 ++ T, by go_num, hjl, B6.out, D6.out, by simp; omega⟩
          case measure => simp only [intOf]; omega
         ·obtain rfl : j = nc := by omega
          have HD := hid hd
          have hA1i : A1.length ≤ 300000000000 := by omega
          clear hb hd hA1
          by_cases hM : 16777216 < A1.length
          ·go_wp2_with (go_at_call 51; with_reducible refine (wlen_any w2.heap.size w2.heap.size A1 _ HD.out).mono ?_; rintro e w7 ⟨rfl, rfl⟩)
           go_ret2
           exact ⟨⟨_, rfl⟩, BW.out _ HB.out⟩
          ·go_wp2_with (go_at_call 51; with_reducible refine (wlen_any w2.heap.size w2.heap.size A1 _ HD.out).mono ?_; rintro e w7 ⟨rfl, rfl⟩)
           go_roundw
           case rel => exact ⟨k + 1, A1, by go_num, hlt, HB.out, HD.out, by omega⟩
           case measure => simp only [intOf]; omega
      ·obtain rfl : k = nf := by omega
       have HD := hid hd
       clear hb hd
       go_wp2_with (go_at_call 56; with_reducible refine (wstr_any w2.heap.size w2.heap.size _ _ HD.out HB.out.size).mono ?_; rintro e w8 ⟨rfl, -, hb8⟩; have B8 := hid (BW.out _ (HB.out.trans hb8)); clear hb8)
       go_ret2
       exact ⟨⟨_, rfl⟩, B8.out⟩
end Go.Proofs.YtokjkligechcoaaGreatDoor
