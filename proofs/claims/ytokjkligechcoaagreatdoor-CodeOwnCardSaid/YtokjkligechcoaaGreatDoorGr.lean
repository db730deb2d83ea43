/- Walks of layer 16's reference: two programs that lie the same are the same. -/
import Derived.Test.YtokjkligechcoaaGreatDoorDs
set_option linter.unusedVariables false
namespace Go.Proofs.YtokjkligechcoaaGreatDoor
open _root_.Go.Lib (hid)
open Go.RowKit
attribute [local go_sem] ext_mk size_mk toList_mk get_mk take_drop_len take_tail_len ByteArray.mk_append_mk List.append_toArray
theorem ints_at {k : IntKind} {W : World} {a : Option Addr} {l : List Int} (h : IntsAt k W a l) {i : Nat} (hi : i < l.length) : ∃ b off, a = some ⟨b, off, none⟩ ∧ W.cell? ⟨b, off + i, none⟩ = some (.int k (l.getD i 0)) := by
 rcases h.2 with q | ⟨b, off, q1, q2⟩
 ·subst q; simp at hi
 ·exact ⟨b, off, q1, q2 i hi⟩
set_option maxHeartbeats 2000000 in
set_option maxRecDepth 8000 in
theorem sameInts_any (a b : Option Addr) (l : List Int) (ca cb : Nat) (w : World) (ha : IntsAt .i64 w a l) (hb : IntsAt .i64 w b l) :
  Calls Tryz.prog 41 #[.slice a l.length ca, .slice b l.length cb] w fun x w' => x = .returned (.bool true) ∧ Below w.heap.size w w' := by
 have HA := hid ha
 have HB := hid hb
 have hm : l.length ≤ maxLen := ha.1
 unfold maxLen at hm
 obtain ⟨n, hn⟩ : ∃ n, l.length = n := ⟨_, rfl⟩
 rw [hn] at hm ⊢
 have HN := hid hn
 clear ha hb hn
 go_enter Tryz.func41, Tryz.ntmps41
 go_wp2_with fail
 go_loopw [5] (fun v5 wr => ∃ k : Nat, k ≤ n ∧ v5 = .int .i64 (k : Int) ∧ Below w.heap.size w wr) (fun v5 _ => n - (intOf v5).toNat)
 case atStart => exact ⟨0, Nat.zero_le _, rfl, Below.refl _ _⟩
 case round =>
  obtain ⟨k, hk, rfl, hbe⟩ := hrel
  have BE := hid hbe
  by_cases hkn : k < n
  ·obtain ⟨ga, oa, rfl, xa⟩ := ints_at (HA.out.below hbe) (show k < l.length by rw [HN.out]; exact hkn)
   obtain ⟨gb, ob, rfl, xb⟩ := ints_at (HB.out.below hbe) (show k < l.length by rw [HN.out]; exact hkn)
   have kt : ((k : Int)).toNat = k := Int.toNat_natCast k
   clear hbe
   go_wp2_with fail
   go_quiet (fail)
   go_wp2_with fail
   go_roundw
   case rel => exact ⟨k + 1, by omega, rfl, below_drewN BE.out _⟩
   case measure => simp only [intOf]; omega
  ·clear hbe
   go_wp2_with fail
   go_ret
   exact ⟨rfl, BE.out⟩
theorem cell_a1 {W : World} {p : Addr} {v : Value} (h : W.cell? p = some v) (o : Obj) : (W.alloc o).cell? p = some v := by
 rw [World.cell?_alloc_lt W o p (World.block_lt_of_cell? W p h)]; exact h
theorem cell_a2 {W : World} {p : Addr} {v : Value} (h : W.cell? p = some v) (o o' : Obj) : ((W.alloc o).alloc o').cell? p = some v := cell_a1 (cell_a1 h o) o'
theorem fbx {W : World} {m : Nat} {a b c : Value} (h : KAt W m (.cells #[a, b, c] 48 (0, 0))) : W.cell? ⟨m, 0, none⟩ = some a ∧ W.cell? ⟨m, 1, none⟩ = some b ∧ W.cell? ⟨m, 2, none⟩ = some c := by
 refine ⟨?_, ?_, ?_⟩
 all_goals (rw [cell_of_row _ _ _ _ _ _ h.x]; rfl)
theorem xbx {W : World} {m : Nat} {a b c d e f : Value} (h : KAt W m (.cells #[a, b, c, d, e, f] 58 (0, 0))) : W.cell? ⟨m, 0, none⟩ = some a ∧ W.cell? ⟨m, 1, none⟩ = some b ∧ W.cell? ⟨m, 2, none⟩ = some c ∧ W.cell? ⟨m, 3, none⟩ = some d ∧ W.cell? ⟨m, 4, none⟩ = some e ∧ W.cell? ⟨m, 5, none⟩ = some f := by
 refine ⟨?_, ?_, ?_, ?_, ?_, ?_⟩
 all_goals (rw [cell_of_row _ _ _ _ _ _ h.x]; rfl)
/-- two blocks that have just been made, behind a draw -/
theorem two_new (W : World) (cs ds : Array Value) (T U : TypeId) : Below W.heap.size W (((W.alloc (.cells cs T)).alloc (.cells ds U)).drew) ∧ KAt (((W.alloc (.cells cs T)).alloc (.cells ds U)).drew) W.heap.size (.cells cs T (0, 0)) ∧ KAt (((W.alloc (.cells cs T)).alloc (.cells ds U)).drew) (W.heap.size + 1) (.cells ds U (0, 0)) := by
 have hz : (W.alloc (.cells cs T)).heap.size = W.heap.size + 1 := by simp
 have h1 := KAt.new (W.alloc (.cells cs T)) (.cells ds U (0, 0))
 rw [hz] at h1
 exact ⟨(((Below.refl _ _).alloc (Nat.le_refl _) _).alloc (by simp) _).drew, ((KAt.new W (.cells cs T (0, 0))).alloc _).below (Below.refl _ _).drew, h1.below (Below.refl _ _).drew⟩
theorem pbx {W : World} {m : Nat} {a b c d : Value} (h : KAt W m (.cells #[a, b, c, d] 26 (0, 0))) : W.cell? ⟨m, 0, none⟩ = some a ∧ W.cell? ⟨m, 1, none⟩ = some b ∧ W.cell? ⟨m, 2, none⟩ = some c ∧ W.cell? ⟨m, 3, none⟩ = some d := by
 refine ⟨?_, ?_, ?_, ?_⟩
 all_goals (rw [cell_of_row _ _ _ _ _ _ h.x]; rfl)
set_option maxHeartbeats 4000000 in
set_option maxRecDepth 8000 in
theorem rsame_any (fa sa ra : Option Addr) (fc sc rc : Nat) (fb sb rb : Option Addr) (fd sd rd : Nat) (P : Pg) (w : World) (hP : PgAt w fa sa ra P) (hQ : PgAt w fb sb rb P) :
  Calls Tryz.prog 18 #[.agg #[.slice fa P.fs.length fc, .slice sa P.ss.length sc, .slice ra P.us.length rc, .int .i64 P.en], .agg #[.slice fb P.fs.length fd, .slice sb P.ss.length sd, .slice rb P.us.length rd, .int .i64 P.en]] w fun e w' => e = .returned (.bool true) ∧ Below w.heap.size w w' := by
 have CI := hid (fun a b l ca cb W h1 h2 => sameInts_any a b l ca cb W h1 h2)
 obtain ⟨W0, hW0⟩ : ∃ W, (w.alloc (.cells #[.slice fa P.fs.length fc, .slice sa P.ss.length sc, .slice ra P.us.length rc, .int .i64 P.en] 26)).alloc (.cells #[.slice fb P.fs.length fd, .slice sb P.ss.length sd, .slice rb P.us.length rd, .int .i64 P.en] 26) = W := ⟨_, rfl⟩
 have hb0 : Below w.heap.size w W0 := by rw [← hW0]; exact ((Below.refl _ _).alloc (Nat.le_refl _) _).alloc (by simp) _
 have k0 : KAt W0 w.heap.size (.cells #[.slice fa P.fs.length fc, .slice sa P.ss.length sc, .slice ra P.us.length rc, .int .i64 P.en] 26 (0, 0)) := by rw [← hW0]; exact (KAt.new w _).alloc _
 have k1 : KAt W0 (w.heap.size + 1) (.cells #[.slice fb P.fs.length fd, .slice sb P.ss.length sd, .slice rb P.us.length rd, .int .i64 P.en] 26 (0, 0)) := by
  have h := KAt.new (w.alloc (.cells #[.slice fa P.fs.length fc, .slice sa P.ss.length sc, .slice ra P.us.length rc, .int .i64 P.en] 26)) (.cells #[.slice fb P.fs.length fd, .slice sb P.ss.length sd, .slice rb P.us.length rd, .int .i64 P.en] 26 (0, 0))
  rw [show (w.alloc (.cells #[.slice fa P.fs.length fc, .slice sa P.ss.length sc, .slice ra P.us.length rc, .int .i64 P.en] 26)).heap.size = w.heap.size + 1 from by simp] at h
  rw [← hW0]; exact h
 have HP := hid (hP.below hb0)
 have HQ := hid (hQ.below hb0)
 have K0 := hid k0
 have K1 := hid k1
 have HB0 := hid hb0
 obtain ⟨a0, a1, a2, a3⟩ := pbx k0
 obtain ⟨b0, b1, b2, b3⟩ := pbx k1
 obtain ⟨nf, hnf⟩ : ∃ n, P.fs.length = n := ⟨_, rfl⟩
 obtain ⟨ns, hns⟩ : ∃ n, P.ss.length = n := ⟨_, rfl⟩
 obtain ⟨nu, hnu⟩ : ∃ n, P.us.length = n := ⟨_, rfl⟩
 obtain ⟨en, hen⟩ : ∃ n, P.en = n := ⟨_, rfl⟩
 have m1 : nf ≤ maxLen := by rw [← hnf]; exact hP.f.1
 have m2 : ns ≤ maxLen := by rw [← hns]; exact hP.s.1
 have m3 : nu ≤ maxLen := by rw [← hnu]; exact hP.u.1
 unfold maxLen at m1 m2 m3
 rw [hnf, hns, hnu, hen] at hW0 K0 K1 ⊢
 rw [hnf] at a0 b0
 rw [hns] at a1 b1
 rw [hnu] at a2 b2
 rw [hen] at a3 b3
 have HNF := hid hnf
 have HNS := hid hns
 have HNU := hid hnu
 clear hP hQ hb0 k0 k1 hnf hns hnu hen
 go_enter Tryz.func18, Tryz.ntmps18
 go_wp2_with fail
 clear a0 b0 a1 b1 a2 b2 a3 b3 hW0
 go_loopw [5] (fun v5 wr => ∃ k : Nat, k ≤ ns ∧ v5 = .int .i64 (k : Int) ∧ Below W0.heap.size W0 wr) (fun v5 _ => ns - (intOf v5).toNat)
 case atStart => exact ⟨0, Nat.zero_le _, rfl, Below.refl _ _⟩
 case round =>
  obtain ⟨k, hk, rfl, hbe⟩ := hrel
  have BE := hid hbe
  obtain ⟨a0, a1, a2, a3⟩ := pbx (K0.out.below hbe)
  obtain ⟨b0, b1, b2, b3⟩ := pbx (K1.out.below hbe)
  by_cases hkn : k < ns
  ·obtain ⟨ga, oa, s, rfl, es, xa, -⟩ := strs_cell (HP.out.s.below hbe) (show k < P.ss.length by rw [HNS.out]; exact hkn)
   obtain ⟨gb, ob, s', rfl, es', xb, -⟩ := strs_cell (HQ.out.s.below hbe) (show k < P.ss.length by rw [HNS.out]; exact hkn)
   obtain rfl : s = s' := by rw [es] at es'; exact Option.some.inj es'
   have kt : ((k : Int)).toNat = k := Int.toNat_natCast k
   clear hbe es es'
   go_wp2_with fail
   go_quiet (fail)
   go_wp2_with fail
   go_roundw
   case rel => exact ⟨k + 1, by omega, rfl, below_drewN BE.out _⟩
   case measure => simp only [intOf]; omega
  ·clear hbe
   go_wp2_with fail
   clear a0 b0 a1 b1 a2 b2 a3 b3
   obtain ⟨W1, hW1⟩ : ∃ W, W = wr := ⟨_, rfl⟩
   subst hW1
   go_loopw [6] (fun v5 wr => ∃ k : Nat, k ≤ nu ∧ v5 = .int .i64 (k : Int) ∧ Below W0.heap.size W0 wr) (fun v5 _ => nu - (intOf v5).toNat)
   case atStart => exact ⟨0, Nat.zero_le _, rfl, BE.out⟩
   case round =>
    clear BE
    obtain ⟨k, hk, rfl, hbe⟩ := hrel
    have BE := hid hbe
    obtain ⟨a0, a1, a2, a3⟩ := pbx (K0.out.below hbe)
    obtain ⟨b0, b1, b2, b3⟩ := pbx (K1.out.below hbe)
    by_cases hkn : k < nu
    ·obtain ⟨ga, oa, rfl, xa⟩ := ints_at (HP.out.u.below hbe) (show k < P.us.length by rw [HNU.out]; exact hkn)
     obtain ⟨gb, ob, rfl, xb⟩ := ints_at (HQ.out.u.below hbe) (show k < P.us.length by rw [HNU.out]; exact hkn)
     have kt : ((k : Int)).toNat = k := Int.toNat_natCast k
     clear hbe
     go_wp2_with fail
     go_quiet (fail)
     go_wp2_with fail
     go_roundw
     case rel => exact ⟨k + 1, by omega, rfl, below_drewN BE.out _⟩
     case measure => simp only [intOf]; omega
    ·clear hbe
     go_wp2_with fail
     clear a0 b0 a1 b1 a2 b2 a3 b3
     obtain ⟨W2, hW2⟩ : ∃ W, W = wr := ⟨_, rfl⟩
     subst hW2
     go_loopw [7] (fun v5 wr => ∃ k : Nat, k ≤ nf ∧ v5 = .int .i64 (k : Int) ∧ Below W0.heap.size W0 wr) (fun v5 _ => nf - (intOf v5).toNat)
     case atStart => exact ⟨0, Nat.zero_le _, rfl, BE.out⟩
     case round =>
      clear BE
      obtain ⟨k, hk, rfl, hbe⟩ := hrel
      have BE := hid hbe
      obtain ⟨a0, a1, a2, a3⟩ := pbx (K0.out.below hbe)
      obtain ⟨b0, b1, b2, b3⟩ := pbx (K1.out.below hbe)
      by_cases hkn : k < nf
      ·obtain ⟨ga, oa, f, rfl, es, ca, ccp, x0, x1, x2, xc⟩ := fns_cell (HP.out.f.below hbe) (show k < P.fs.length by rw [HNF.out]; exact hkn)
       obtain ⟨gb, ob, f', rfl, es', cb, cdp, y0, y1, y2, yc⟩ := fns_cell (HQ.out.f.below hbe) (show k < P.fs.length by rw [HNF.out]; exact hkn)
       obtain rfl : f = f' := by rw [es] at es'; exact Option.some.inj es'
       obtain ⟨ps, rs, code⟩ := f
       have kt : ((k : Int)).toNat = k := Int.toNat_natCast k
       have XC := hid xc
       have YC := hid yc
       clear hbe es es' xc yc
       dsimp only at x0 x1 x2 y0 y1 y2
       have a0p := cell_a1 a0; have a0q := cell_a2 a0; have b0p := cell_a1 b0; have b0q := cell_a2 b0; have x0p := cell_a1 x0; have x0q := cell_a2 x0; have x1p := cell_a1 x1; have x1q := cell_a2 x1; have x2p := cell_a1 x2; have x2q := cell_a2 x2; have y0p := cell_a1 y0; have y0q := cell_a2 y0; have y1p := cell_a1 y1; have y1q := cell_a2 y1; have y2p := cell_a1 y2; have y2q := cell_a2 y2
       go_upto_region 16 with (fail)
       go_cut [8, 9] from 81 to 177 (fun v8 v9 wx => ∃ g h, v8 = .pointer (some ⟨g, 0, none⟩) ∧ v9 = .pointer (some ⟨h, 0, none⟩) ∧ Below wr.heap.size wr wx ∧ KAt wx g (.cells #[.int .i64 ps, .int .i64 rs, .slice ca code.length ccp] 48 (0, 0)) ∧ KAt wx h (.cells #[.int .i64 ps, .int .i64 rs, .slice cb code.length cdp] 48 (0, 0)))
       case first =>
        obtain ⟨t1, t2, t3⟩ := two_new wr #[.int .i64 ps, .int .i64 rs, .slice ca code.length ccp] #[.int .i64 ps, .int .i64 rs, .slice cb code.length cdp] 48 48
        obtain ⟨s1, s2, s3⟩ := two_new wr #[.int .i64 ps, .int .i64 rs, .slice cb code.length cdp] #[.int .i64 ps, .int .i64 rs, .slice ca code.length ccp] 48 48
        have TT := hid (And.intro t1 (And.intro t2 t3))
        have SS := hid (And.intro s1 (And.intro s2 s3))
        clear t1 t2 t3 s1 s2 s3
        go_region
        all_goals go_wp2_with fail
        all_goals go_meet
        all_goals first
         | exact ⟨_, _, rfl, rfl, TT.out.1, TT.out.2.1, TT.out.2.2⟩
         | exact ⟨_, _, rfl, rfl, SS.out.1, SS.out.2.2, SS.out.2.1⟩
       case rest =>
        obtain ⟨g8, h8, rfl, rfl, hb6, kx, ky⟩ := hcut
        clear a0 a0p a0q b0 b0p b0q x0 x0p x0q x1 x1p x1q x2 x2p x2q y0 y0p y0q y1 y1p y1q y2 y2p y2q a1 a2 a3 b1 b2 b3
        dsimp only at XC YC
        obtain ⟨nc, hnc⟩ : ∃ n, code.length = n := ⟨_, rfl⟩
        have m4 : nc ≤ maxLen := by rw [← hnc]; exact XC.out.1
        unfold maxLen at m4
        rw [hnc] at kx ky
        have HNC := hid hnc
        have XC6 := hid (XC.out.below hb6)
        have YC6 := hid (YC.out.below hb6)
        have KX := hid kx
        have KY := hid ky
        have B6 := hid (BE.out.trans (hb6.mono BE.out.size))
        obtain ⟨x0, x1, x2⟩ := fbx kx
        obtain ⟨y0, y1, y2⟩ := fbx ky
        clear kx ky hb6 XC YC hnc BE
        go_wp2_with fail
        clear x0 x1 x2 y0 y1 y2
        obtain ⟨W6, hW6⟩ : ∃ W, W = wc := ⟨_, rfl⟩
        subst hW6
        go_loopw [10] (fun v5 wr => ∃ k : Nat, k ≤ nc ∧ v5 = .int .i64 (k : Int) ∧ Below W6.heap.size W6 wr) (fun v5 _ => nc - (intOf v5).toNat)
        case atStart => exact ⟨0, Nat.zero_le _, rfl, Below.refl _ _⟩
        case round =>
         obtain ⟨j, hj, rfl, hbe⟩ := hrel
         have BE := hid hbe
         obtain ⟨x0, x1, x2⟩ := fbx (KX.out.below hbe)
         obtain ⟨y0, y1, y2⟩ := fbx (KY.out.below hbe)
         by_cases hjn : j < nc
         ·obtain ⟨gc, oc, x, rfl, es, la, lc, va, vc, p0, p1, p2, p3, p4, p5, pl, pv⟩ := cd_cell (XC6.out.below hbe) (show j < code.length by rw [HNC.out]; exact hjn)
          obtain ⟨gd, od, x', rfl, es', lb, ld, vb, vd, q0, q1, q2, q3, q4, q5, ql, qv⟩ := cd_cell (YC6.out.below hbe) (show j < code.length by rw [HNC.out]; exact hjn)
          obtain rfl : x = x' := by rw [es] at es'; exact Option.some.inj es'
          obtain ⟨xo, xa, xb, xc, xl, xv⟩ := x
          dsimp only at p0 p1 p2 p3 p4 p5 q0 q1 q2 q3 q4 q5 pl pv ql qv
          have PL := hid (And.intro pl pv)
          have QL := hid (And.intro ql qv)
          have jt : ((j : Int)).toNat = j := Int.toNat_natCast j
          clear hbe es es' pl pv ql qv
          have x2p := cell_a1 x2; have x2q := cell_a2 x2; have y2p := cell_a1 y2; have y2q := cell_a2 y2; have p0p := cell_a1 p0; have p0q := cell_a2 p0; have p1p := cell_a1 p1; have p1q := cell_a2 p1; have p2p := cell_a1 p2; have p2q := cell_a2 p2; have p3p := cell_a1 p3; have p3q := cell_a2 p3; have p4p := cell_a1 p4; have p4q := cell_a2 p4; have p5p := cell_a1 p5; have p5q := cell_a2 p5; have q0p := cell_a1 q0; have q0q := cell_a2 q0; have q1p := cell_a1 q1; have q1q := cell_a2 q1; have q2p := cell_a1 q2; have q2q := cell_a2 q2; have q3p := cell_a1 q3; have q3q := cell_a2 q3; have q4p := cell_a1 q4; have q4q := cell_a2 q4; have q5p := cell_a1 q5; have q5q := cell_a2 q5
          go_upto_region 22 with (fail)
          go_cut [11, 12] from 119 to 177 (fun v8 v9 wx => ∃ g h, v8 = .pointer (some ⟨g, 0, none⟩) ∧ v9 = .pointer (some ⟨h, 0, none⟩) ∧ Below wr.heap.size wr wx ∧ KAt wx g (.cells #[.int .i64 xo, .int .i64 xa, .int .i64 xb, .int .i64 xc, .slice la xl.length lc, .slice va xv.length vc] 58 (0, 0)) ∧ KAt wx h (.cells #[.int .i64 xo, .int .i64 xa, .int .i64 xb, .int .i64 xc, .slice lb xl.length ld, .slice vb xv.length vd] 58 (0, 0)))
          case first =>
           obtain ⟨t1, t2, t3⟩ := two_new wr #[.int .i64 xo, .int .i64 xa, .int .i64 xb, .int .i64 xc, .slice la xl.length lc, .slice va xv.length vc] #[.int .i64 xo, .int .i64 xa, .int .i64 xb, .int .i64 xc, .slice lb xl.length ld, .slice vb xv.length vd] 58 58
           obtain ⟨s1, s2, s3⟩ := two_new wr #[.int .i64 xo, .int .i64 xa, .int .i64 xb, .int .i64 xc, .slice lb xl.length ld, .slice vb xv.length vd] #[.int .i64 xo, .int .i64 xa, .int .i64 xb, .int .i64 xc, .slice la xl.length lc, .slice va xv.length vc] 58 58
           have TT := hid (And.intro t1 (And.intro t2 t3))
           have SS := hid (And.intro s1 (And.intro s2 s3))
           clear t1 t2 t3 s1 s2 s3
           go_region
           all_goals go_wp2_with fail
           all_goals go_meet
           all_goals first
            | exact ⟨_, _, rfl, rfl, TT.out.1, TT.out.2.1, TT.out.2.2⟩
            | exact ⟨_, _, rfl, rfl, SS.out.1, SS.out.2.2, SS.out.2.1⟩
          case rest =>
           obtain ⟨g9, h9, rfl, rfl, hb7, kx, ky⟩ := hcut
           clear x2 x2p x2q y2 y2p y2q p0 p0p p0q p1 p1p p1q p2 p2p p2q p3 p3p p3q p4 p4p p4q p5 p5p p5q q0 q0p q0q q1 q1p q1q q2 q2p q2q q3 q3p q3q q4 q4p q4q q5 q5p q5q x0 x1 y0 y1
           have PL7 := hid (And.intro (PL.out.1.below hb7) (PL.out.2.below hb7))
           have QL7 := hid (And.intro (QL.out.1.below hb7) (QL.out.2.below hb7))
           have B7 := hid (BE.out.trans (hb7.mono BE.out.size))
           have K7 := hid (And.intro kx ky)
           obtain ⟨x0, x1, x2, x3, x4, x5⟩ := xbx kx
           obtain ⟨y0, y1, y2, y3, y4, y5⟩ := xbx ky
           clear kx ky hb7 PL QL BE
           go_wp2_with (first
            | (go_at_call 41; (with_reducible refine (CI.out _ _ xl lc ld _ PL7.out.1 QL7.out.1).mono ?_); rintro e w8 ⟨rfl, hb8⟩; have PL8 := hid (PL7.out.2.below hb8); have QL8 := hid (QL7.out.2.below hb8); have B8 := hid (B7.out.trans (hb8.mono B7.out.size)); clear x0 x1 x2 x3 x4 x5 y0 y1 y2 y3 y4 y5 PL7 QL7; obtain ⟨x0, x1, x2, x3, x4, x5⟩ := xbx (K7.out.1.below hb8); obtain ⟨y0, y1, y2, y3, y4, y5⟩ := xbx (K7.out.2.below hb8); clear hb8)
            | (go_at_call 41; (with_reducible refine (CI.out _ _ xv vc vd _ PL8.out QL8.out).mono ?_); rintro e w9 ⟨rfl, hb9⟩; have B9 := hid (B8.out.trans (hb9.mono B8.out.size)); clear hb9))
           go_roundw
           case rel => exact ⟨j + 1, by omega, rfl, B9.out⟩
           case measure => simp only [intOf]; omega
         ·clear hbe
          go_wp2_with fail
          go_roundw
          case rel => exact ⟨k + 1, by omega, rfl, B6.out.trans (BE.out.mono B6.out.size)⟩
          case measure => simp only [intOf]; omega
      ·clear hbe
       go_wp2_with fail
       go_ret
       exact ⟨rfl, HB0.out.trans (BE.out.mono HB0.out.size)⟩
end Go.Proofs.YtokjkligechcoaaGreatDoor
