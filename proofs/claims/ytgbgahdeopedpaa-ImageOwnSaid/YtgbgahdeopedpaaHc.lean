/- Layer 24's laws, walked: nothing is changed or shared. -/
import Derived.Test.YtgbgahdeopedpaaHb
import Derived.Test.YtgbgahdeopedpaaGs
import Derived.Test.YtgbgahdeopedpaaGq
namespace Go.Proofs.Ytgbgahdeopedpaa
open Go.RowKit
set_option linter.unusedVariables false
attribute [local go_sem] ext_mk size_mk toList_mk get_mk take_drop_len take_tail_len ByteArray.mk_append_mk List.append_toArray

theorem rcopy_same (fa sa ra : Option Addr) (fc sc rc : Nat) (P : Pg) (w : World) (hP : PgAt w fa sa ra P) (hR : PgR P) :
    Calls Try.prog 17 #[.agg #[.slice fa P.fs.length fc, .slice sa P.ss.length sc, .slice ra P.us.length rc, .int .i64 P.en], .bool false] w fun e w' => ∃ fa fc sa sc ra rc, e = .returned (.agg #[.slice fa P.fs.length fc, .slice sa P.ss.length sc, .slice ra P.us.length rc, .int .i64 P.en]) ∧ PgK (KUp w.heap.size) w' fa sa ra P ∧ Below w.heap.size w w' := by
  have h := rcopy_any false fa sa ra fc sc rc P w hP hR
  unfold CpR at h
  rw [cpP_same] at h
  exact h

/-- an image's box, its program written anew -/
theorem KAt.prog4 {W : World} {m : Nat} {a b c d e f : Value} (h : KAt W m (.cells #[a, b, c, d, e, f] 33 (0, 0))) (c' d' e' f' : Value) : KAt ((((W.setCell ⟨m, 2, none⟩ c').setCell ⟨m, 3, none⟩ d').setCell ⟨m, 4, none⟩ e').setCell ⟨m, 5, none⟩ f') m (.cells #[a, b, c', d', e', f'] 33 (0, 0)) :=
  ⟨heap_setCell_same (i := 5) _ _ _ _ _ (heap_setCell_same (i := 4) _ _ _ _ _ (heap_setCell_same (i := 3) _ _ _ _ _ (heap_setCell_same (i := 2) _ _ _ _ _ h.x)))⟩

theorem below_set4 {B : Nat} {W V : World} (h : Below B W V) (m : Nat) (hm : B ≤ m) (c' d' e' f' : Value) : Below B W ((((V.setCell ⟨m, 2, none⟩ c').setCell ⟨m, 3, none⟩ d').setCell ⟨m, 4, none⟩ e').setCell ⟨m, 5, none⟩ f') :=
  (((h.setCell (p := ⟨m, 2, none⟩) hm _).setCell (p := ⟨m, 3, none⟩) hm _).setCell (p := ⟨m, 4, none⟩) hm _).setCell (p := ⟨m, 5, none⟩) hm _

theorem Kp.set4 {lo : Nat} (W : World) (m : Nat) (hm : m ≤ lo) (c' d' e' f' : Value) : Kp (KUp lo) W ((((W.setCell ⟨m, 2, none⟩ c').setCell ⟨m, 3, none⟩ d').setCell ⟨m, 4, none⟩ e').setCell ⟨m, 5, none⟩ f') := by
  have q : ∀ (W : World) i v, Kp (KUp lo) W (W.setCell ⟨m, i, none⟩ v) := fun W i v => Kp.set ⟨m, i, none⟩ v (fun _ _ _ h => Nat.not_lt.2 hm h)
  exact (((q _ 2 c').trans (q _ 3 d')).trans (q _ 4 e')).trans (q _ 5 f')

theorem frzI {W : World} {m : Nat} {T : TypeId} {cs : Array Value} (h : KAt W m (.cells cs T (0, 0))) : W.frozen? ⟨m, 2, none⟩ = false ∧ W.frozen? ⟨m, 3, none⟩ = false ∧ W.frozen? ⟨m, 4, none⟩ = false ∧ W.frozen? ⟨m, 5, none⟩ = false :=
  ⟨frozen_of_row _ _ _ _ _ h.x, frozen_of_row _ _ _ _ _ h.x, frozen_of_row _ _ _ _ _ h.x, frozen_of_row _ _ _ _ _ h.x⟩

theorem KAt.put4 {W : World} {n : Nat} {o : Obj} (h : KAt W n o) (m : Nat) (hn : n ≠ m) (a b c d : Value) : KAt ((((W.setCell ⟨m, 2, none⟩ a).setCell ⟨m, 3, none⟩ b).setCell ⟨m, 4, none⟩ c).setCell ⟨m, 5, none⟩ d) n o :=
  (((h.put ⟨m, 2, none⟩ hn a).put ⟨m, 3, none⟩ hn b).put ⟨m, 4, none⟩ hn c).put ⟨m, 5, none⟩ hn d

set_option maxHeartbeats 4000000 in
set_option maxRecDepth 8000 in
theorem imageOwn_any (T Y : List UInt8) (fa sa ra : Option Addr) (fc sc rc : Nat) (P : Pg) (w : World) (hT : T.length ≤ maxLen) (hY : Y.length ≤ maxLen) (hP : PgAt w fa sa ra P) (hR : PgR P) :
    Calls Try.prog 8 #[.agg #[.string ⟨T.toArray⟩, .string ⟨Y.toArray⟩, .slice fa P.fs.length fc, .slice sa P.ss.length sc, .slice ra P.us.length rc, .int .i64 P.en]] w fun e w' => e = .returned (.bool true) ∧ Below w.heap.size w w' := by
  have S := Lib.hid hP
  have HR := Lib.hid hR
  have HT := Lib.hid hT
  have HY := Lib.hid hY
  have CC := Lib.hid (fun fa sa ra fc sc rc W h => rcopy_same fa sa ra fc sc rc P W h hR)
  have CP := Lib.hid (fun fa sa ra fc sc rc W h => pack_any T Y fa sa ra fc sc rc P W hT hY h)
  have CA := Lib.hid (fun W => awake_24 W)
  have CU := Lib.hid (fun a cap l W h1 h2 => unpack_any a cap l W h1 h2)
  have CS := Lib.hid (fun fa sa ra fc sc rc fb sb rb fd sd rd W h1 h2 => isame_any T Y fa sa ra fc sc rc fb sb rb fd sd rd P W h1 h2)
  obtain ⟨W0, hW0⟩ : ∃ W, (w.alloc (.cells #[.string ⟨T.toArray⟩, .string ⟨Y.toArray⟩, .slice fa P.fs.length fc, .slice sa P.ss.length sc, .slice ra P.us.length rc, .int .i64 P.en] 33)).alloc (.cells #[.string ⟨T.toArray⟩, .string ⟨Y.toArray⟩, .slice fa P.fs.length fc, .slice sa P.ss.length sc, .slice ra P.us.length rc, .int .i64 P.en] 33) = W := ⟨_, rfl⟩
  have hA : Below w.heap.size w W0 := by rw [← hW0]; exact ((Below.refl _ _).alloc (Nat.le_refl _) _).alloc (by simp) _
  have hz : W0.heap.size = w.heap.size + 2 := by rw [← hW0]; simp
  have x0 : KAt W0 w.heap.size (.cells #[.string ⟨T.toArray⟩, .string ⟨Y.toArray⟩, .slice fa P.fs.length fc, .slice sa P.ss.length sc, .slice ra P.us.length rc, .int .i64 P.en] 33 (0, 0)) := by rw [← hW0]; exact (KAt.new w _).alloc _
  have j0 : KAt W0 (w.heap.size + 1) (.cells #[.string ⟨T.toArray⟩, .string ⟨Y.toArray⟩, .slice fa P.fs.length fc, .slice sa P.ss.length sc, .slice ra P.us.length rc, .int .i64 P.en] 33 (0, 0)) := by rw [← hW0]; exact kat_new1 w _ _
  have HA := Lib.hid hA
  have HZ := Lib.hid hz
  have X0 := Lib.hid x0
  have J0 := Lib.hid j0
  have H0 := Lib.hid hW0
  have KE := Lib.hid (fun (h : (packR T Y P).2 ≠ 0) => packR_err h)
  have KU := Lib.hid (fun (h : (packR T Y P).2 = 0) => unpack_img h hP.z)
  have KL := Lib.hid (fun (h : (packR T Y P).2 = 0) => (okSum_img h).2)
  obtain ⟨⟨B, er⟩, hR⟩ : ∃ t, packR T Y P = t := ⟨_, rfl⟩
  rw [hR] at CP KE KU KL
  dsimp only at CP KE KU KL
  clear hA hP hT hY hR x0 j0 hz hW0
  by_cases her : er = 0
  rotate_left
  · have hk2 : (er != 0) = true := by simpa using her
    have hB0 := KE.out her
    subst hB0
    clear KE KU KL her
    go_enter Try.func8, Try.ntmps8
    go_upto_region 2 with (fail)
    try rw [H0.out]
    obtain ⟨i0, i1, i2, i3, i4, i5⟩ := mkbox_cells X0.out
    go_wp2_with (first
      | (go_at_call 17; go_loud (with_reducible refine (CC.out fa sa ra fc sc rc _ (S.out.below HA.out)).mono ?_); rintro e w1 ⟨xa, xb, xc, xd, xe, xf, rfl, hpk, hb1⟩; go_loud (have hb := HA.out.trans (hb1.mono HA.out.size); have x1 := X0.out.below hb1; have j1 := J0.out.below hb1; obtain ⟨f2, f3, f4, f5⟩ := frzI j1; have J2 := Lib.hid (j1.prog4 (.slice xa P.fs.length xb) (.slice xc P.ss.length xd) (.slice xe P.us.length xf) (.int .i64 P.en)); have X2 := Lib.hid (x1.put4 (w.heap.size + 1) (Nat.ne_of_lt (Nat.lt_succ_self _)) (.slice xa P.fs.length xb) (.slice xc P.ss.length xd) (.slice xe P.us.length xf) (.int .i64 P.en)); have PK := Lib.hid (hpk.kp (Kp.set4 w1 (w.heap.size + 1) (by have := HZ.out; omega) (.slice xa P.fs.length xb) (.slice xc P.ss.length xd) (.slice xe P.us.length xf) (.int .i64 P.en))).at; have HB1 := Lib.hid (below_set4 hb (w.heap.size + 1) (Nat.le_succ _) (.slice xa P.fs.length xb) (.slice xc P.ss.length xd) (.slice xe P.us.length xf) (.int .i64 P.en)); clear i0 i1 i2 i3 i4 i5; obtain ⟨i0, i1, i2, i3, i4, i5⟩ := mkbox_cells J2.out; obtain ⟨c0, c1, c2, c3, c4, c5⟩ := mkbox_cells j1; clear hpk hb1 hb x1 j1))
      | (go_at_call 13; (with_reducible refine (CP.out xa xc xe xb xd xf _ PK.out).mono ?_); rintro e w2 ⟨v, rfl, hB, hb2⟩; have HB2 := Lib.hid (HB1.out.trans (hb2.mono HB1.out.size)); have PK2 := Lib.hid (PK.out.below hb2); have X3 := Lib.hid (X2.out.below hb2); have OB := Lib.hid hB; clear i0 i1 i2 i3 i4 i5 c0 c1 c2 c3 c4 c5 f2 f3 f4 f5; obtain ⟨c0, c1, c2, c3, c4, c5⟩ := mkbox_cells X3.out; obtain ⟨i0, i1, i2, i3, i4, i5⟩ := mkbox_cells (J2.out.below hb2); (obtain ⟨a1, cc1, rfl⟩ := hB.form); clear hB hb2 X2 J2)
      | (go_at_call 16; (with_reducible refine (CS.out fa sa ra fc sc rc xa xc xe xb xd xf _ (S.out.below HB2.out) PK2.out).mono ?_); rintro e w3 ⟨rfl, hb3⟩; have HB3 := Lib.hid (HB2.out.trans (hb3.mono HB2.out.size)); have X4 := Lib.hid (X3.out.below hb3); have OB := Lib.hid (OB.out.keep hb3); clear hb3 i0 i1 i2 i3 i4 i5 c0 c1 c2 c3 c4 c5)
      | (go_at_call 12; refine (CA.out _).mono ?_; rintro e w4 ⟨rfl, hb4⟩; have HB4 := Lib.hid (HB3.out.trans (hb4.mono HB3.out.size)); have X5 := Lib.hid (X4.out.below hb4); have OB := Lib.hid (OB.out.keep hb4); skip; clear hb4)
      )
    go_ret
    exact ⟨rfl, HB4.out⟩
  · subst her
    have hKL := KL.out rfl
    have HU := Lib.hid (KU.out rfl)
    obtain ⟨n, hn⟩ : ∃ n, B.length = n := ⟨_, rfl⟩
    rw [hn] at hKL
    have HN := Lib.hid hn
    have HBB := Lib.hid (show 0 < B.length by omega)
    have CU2 := Lib.hid (fun a cap W h1 h2 => CU.out a cap B W h1 h2)
    rw [HU.out, hn] at CU2
    have HKL := Lib.hid hKL.2
    clear hn KE KL KU CU hKL
    go_enter Try.func8, Try.ntmps8
    go_upto_region 2 with (fail)
    try rw [H0.out]
    obtain ⟨i0, i1, i2, i3, i4, i5⟩ := mkbox_cells X0.out
    go_wp2_with (first
      | (go_at_call 17; go_loud (with_reducible refine (CC.out fa sa ra fc sc rc _ (S.out.below HA.out)).mono ?_); rintro e w1 ⟨xa, xb, xc, xd, xe, xf, rfl, hpk, hb1⟩; go_loud (have hb := HA.out.trans (hb1.mono HA.out.size); have x1 := X0.out.below hb1; have j1 := J0.out.below hb1; obtain ⟨f2, f3, f4, f5⟩ := frzI j1; have J2 := Lib.hid (j1.prog4 (.slice xa P.fs.length xb) (.slice xc P.ss.length xd) (.slice xe P.us.length xf) (.int .i64 P.en)); have X2 := Lib.hid (x1.put4 (w.heap.size + 1) (Nat.ne_of_lt (Nat.lt_succ_self _)) (.slice xa P.fs.length xb) (.slice xc P.ss.length xd) (.slice xe P.us.length xf) (.int .i64 P.en)); have PK := Lib.hid (hpk.kp (Kp.set4 w1 (w.heap.size + 1) (by have := HZ.out; omega) (.slice xa P.fs.length xb) (.slice xc P.ss.length xd) (.slice xe P.us.length xf) (.int .i64 P.en))).at; have HB1 := Lib.hid (below_set4 hb (w.heap.size + 1) (Nat.le_succ _) (.slice xa P.fs.length xb) (.slice xc P.ss.length xd) (.slice xe P.us.length xf) (.int .i64 P.en)); clear i0 i1 i2 i3 i4 i5; obtain ⟨i0, i1, i2, i3, i4, i5⟩ := mkbox_cells J2.out; obtain ⟨c0, c1, c2, c3, c4, c5⟩ := mkbox_cells j1; clear hpk hb1 hb x1 j1))
      | (go_at_call 13; (with_reducible refine (CP.out xa xc xe xb xd xf _ PK.out).mono ?_); rintro e w2 ⟨v, rfl, hB, hb2⟩; have HB2 := Lib.hid (HB1.out.trans (hb2.mono HB1.out.size)); have PK2 := Lib.hid (PK.out.below hb2); have X3 := Lib.hid (X2.out.below hb2); have OB := Lib.hid hB; clear i0 i1 i2 i3 i4 i5 c0 c1 c2 c3 c4 c5 f2 f3 f4 f5; obtain ⟨c0, c1, c2, c3, c4, c5⟩ := mkbox_cells X3.out; obtain ⟨i0, i1, i2, i3, i4, i5⟩ := mkbox_cells (J2.out.below hb2); (obtain ⟨g, cc1, rfl⟩ := hB.some HBB.out; have hcp : n ≤ cc1 := (by have := ownB_cap hB; rw [HN.out] at this; exact this); rw [HN.out]); clear hB hb2 X2 J2)
      | (go_at_call 16; (with_reducible refine (CS.out fa sa ra fc sc rc xa xc xe xb xd xf _ (S.out.below HB2.out) PK2.out).mono ?_); rintro e w3 ⟨rfl, hb3⟩; have HB3 := Lib.hid (HB2.out.trans (hb3.mono HB2.out.size)); have X4 := Lib.hid (X3.out.below hb3); have OB := Lib.hid (OB.out.keep hb3); clear hb3 i0 i1 i2 i3 i4 i5 c0 c1 c2 c3 c4 c5)
      | (go_at_call 12; refine (CA.out _).mono ?_; rintro e w4 ⟨rfl, hb4⟩; have HB4 := Lib.hid (HB3.out.trans (hb4.mono HB3.out.size)); have X5 := Lib.hid (X4.out.below hb4); have OB := Lib.hid (OB.out.keep hb4); (have HEM := Lib.hid (fun W => app_nilcells W w4.heap.size); have A4 := Lib.hid (fun o => (show Below w4.heap.size w4 (w4.alloc o) from (Below.refl _ _).alloc (Nat.le_refl _) _))); clear hb4)
      | (at_builtin; (refine app_full rfl _ _ rfl [] B w4.heap.size rfl (HEM.out _) cc1 ⟨g, 0, none⟩ (by rw [HN.out]; rfl) (OB.out.bys.below (A4.out _)).new HBB.out (by have := HN.out; have := HKL.out; simp; omega) ?_); (intro v5 w5 h1 h2; have O5 := Lib.hid (show OwnB w5 _ v5 B from h1); have B5 := Lib.hid ((A4.out _).trans (h2.mono (A4.out _).size)); obtain ⟨g5, c5, hv5⟩ := O5.out.some HBB.out; rw [hv5]; rw [HN.out]; have O5 := (show OwnB w5 _ (.slice (some ⟨g5, 0, none⟩) B.length c5) B by rw [← hv5]; exact h1); have hcp5 : n ≤ c5 := (by have := ownB_cap O5; rw [HN.out] at this; exact this); have O5 := Lib.hid O5; have HB5 := Lib.hid (HB4.out.trans (B5.out.mono HB4.out.size)); have OB5 := Lib.hid (OB.out.keep B5.out); have X6 := Lib.hid (X5.out.below B5.out); clear h1 h2 hv5)) | (go_at_call 15; (with_reducible refine (CU2.out (some ⟨g5, 0, none⟩) c5 _ O5.out.bys hcp5).mono ?_); rintro e w6 ⟨ya, yb, yc, yd, ye, yf, rfl, hpk, hb6⟩; have PK6 := Lib.hid hpk; have HB6 := Lib.hid (HB5.out.trans (hb6.mono HB5.out.size)); have O6 := Lib.hid (O5.out.keep hb6); have OB6 := Lib.hid (OB5.out.keep hb6); have X7 := Lib.hid (X6.out.below hb6); have B6 := Lib.hid hb6.size; have A6 := Lib.hid (fun o => (show Below w6.heap.size w6 (w6.alloc o) from (Below.refl _ _).alloc (Nat.le_refl _) _)); have K6 := Lib.hid (KAt.new w6 (.cells #[.string ⟨T.toArray⟩, .string ⟨Y.toArray⟩, .slice ya P.fs.length yb, .slice yc P.ss.length yd, .slice ye P.us.length yf, .int .i64 P.en] 33 (0, 0))); have hc1 := fun o => conv_own (O6.out.keep (A6.out o)); have hc2 := fun o => conv_own (OB6.out.keep (A6.out o)); rw [HN.out] at hc1 hc2; clear hpk hb6))
    have hg5 : w4.heap.size + 1 ≤ g5 ∧ g5 < w5.heap.size := by
      have := O5.out.lt g5 rfl
      simpa using this
    have G5 := Lib.hid hg5
    have HG4 := Lib.hid HB4.out.size
    have hnn := HKL.out
    have HN2 := Lib.hid HN.out
    obtain ⟨W7, hW7⟩ : ∃ W, w6.alloc (.cells #[.string ⟨T.toArray⟩, .string ⟨Y.toArray⟩, .slice ya P.fs.length yb, .slice yc P.ss.length yd, .slice ye P.us.length yf, .int .i64 P.en] 33) = W := ⟨_, rfl⟩
    have r1 : PgK (KUp w5.heap.size) W7 ya yc ye P := by rw [← hW7]; exact PK6.out.kp (Kp.below (A6.out _))
    have r2 : KAt W7 w.heap.size (.cells #[.string ⟨T.toArray⟩, .string ⟨Y.toArray⟩, .slice fa P.fs.length fc, .slice sa P.ss.length sc, .slice ra P.us.length rc, .int .i64 P.en] 33 (0, 0)) := by rw [← hW7]; exact X7.out.alloc _
    have r3 : KAt W7 w6.heap.size (.cells #[.string ⟨T.toArray⟩, .string ⟨Y.toArray⟩, .slice ya P.fs.length yb, .slice yc P.ss.length yd, .slice ye P.us.length yf, .int .i64 P.en] 33 (0, 0)) := by rw [← hW7]; exact K6.out
    have r4 : Below w.heap.size w W7 := by rw [← hW7]; exact HB6.out.alloc HB6.out.size _
    have r5 : OwnB W7 (w4.heap.size + 1) (.slice (some ⟨g5, 0, none⟩) n c5) B := by
      have h := (O6.out.keep (A6.out (.cells #[.string ⟨T.toArray⟩, .string ⟨Y.toArray⟩, .slice ya P.fs.length yb, .slice yc P.ss.length yd, .slice ye P.us.length yf, .int .i64 P.en] 33)))
      rw [hW7, HN.out] at h
      simpa using h
    have RR := Lib.hid (And.intro r1 (And.intro r2 (And.intro r3 (And.intro r4 r5))))
    try rw [hW7]
    clear hg5 hc1 hc2 hW7 r1 r2 r3 r4 r5 hcp hcp5
    go_loopw [45] (fun v45 wr => ∃ (k : Nat) (L : List UInt8), k ≤ n ∧ v45 = .int .i64 (k : Int) ∧ L.length = n ∧ OwnB wr (w4.heap.size + 1) (.slice (some ⟨g5, 0, none⟩) n c5) L ∧ PgK (KUp w5.heap.size) wr ya yc ye P ∧ KAt wr w.heap.size (.cells #[.string ⟨T.toArray⟩, .string ⟨Y.toArray⟩, .slice fa P.fs.length fc, .slice sa P.ss.length sc, .slice ra P.us.length rc, .int .i64 P.en] 33 (0, 0)) ∧ KAt wr w6.heap.size (.cells #[.string ⟨T.toArray⟩, .string ⟨Y.toArray⟩, .slice ya P.fs.length yb, .slice yc P.ss.length yd, .slice ye P.us.length yf, .int .i64 P.en] 33 (0, 0)) ∧ Below w.heap.size w wr) (fun v45 _ => n - (intOf v45).toNat)
    case atStart => exact ⟨0, B, Nat.zero_le _, rfl, HN2.out, RR.out.2.2.2.2, RR.out.1, RR.out.2.1, RR.out.2.2.1, RR.out.2.2.2.1⟩
    case round =>
      obtain ⟨k, L, hk, rfl, hL, ho, hpk, hx, hy, hb⟩ := hrel
      by_cases hkn : k < n
      · have kt : ((k : Int)).toNat = k := Int.toNat_natCast k
        have hcl := bys_at0 (show BysAt wr (some ⟨g5, 0, none⟩) L from by rw [← hL] at ho; exact ho.bys) (show k < L.length by rw [hL]; exact hkn)
        have hfz : wr.frozen? ⟨g5, k, none⟩ = false := by
          rcases ho.2 with ⟨q, -⟩ | ⟨g0, cap0, cur, hv, q1, q2, -⟩
          · cases q
          · cases hv; exact frozen_of_row _ _ _ _ _ q2
        have OO := Lib.hid ho
        have PP := Lib.hid hpk
        have XX := Lib.hid hx
        have YY := Lib.hid hy
        have BB := Lib.hid hb
        have LL := Lib.hid hL
        clear ho hpk hx hy hb hL
        go_wp2_with fail
        go_roundw
        case rel =>
          have g1 := G5.out.1
          have g2 := G5.out.2
          have g3 := HG4.out
          have g4 := B6.out
          refine ⟨k + 1, L.set k 0, by omega, rfl, by rw [List.length_set]; exact LL.out, own_turn OO.out (by rw [LL.out]; exact hkn) 0, PP.out.kp (Kp.set ⟨g5, k, none⟩ _ (fun _ _ _ h => Nat.not_lt.2 (Nat.le_of_lt g2) h)), XX.out.put ⟨g5, k, none⟩ (by show _ ≠ g5; omega) _, YY.out.put ⟨g5, k, none⟩ (by show _ ≠ g5; omega) _, BB.out.setCell (p := ⟨g5, k, none⟩) (by show _ ≤ g5; omega) _⟩
        case measure => simp only [intOf]; omega
      · obtain ⟨c0, c1, c2, c3, c4, c5'⟩ := mkbox_cells hx
        obtain ⟨d0, d1, d2, d3, d4, d5⟩ := mkbox_cells hy
        have PP := Lib.hid hpk.at
        have BB := Lib.hid hb
        clear ho hpk hx hy hb hL
        go_wp2_with (first
          | (go_at_call 16; (with_reducible refine (CS.out ya yc ye yb yd yf fa sa ra fc sc rc _ PP.out (S.out.below BB.out)).mono ?_); rintro e w9 ⟨rfl, hb9⟩; have B9 := Lib.hid (BB.out.trans (hb9.mono BB.out.size)); clear hb9))
        go_ret
        exact ⟨rfl, B9.out⟩
end Go.Proofs.Ytgbgahdeopedpaa
