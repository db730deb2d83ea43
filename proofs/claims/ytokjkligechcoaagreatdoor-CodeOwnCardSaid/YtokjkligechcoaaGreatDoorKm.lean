/- Walks of layer 16: copies of rows, whatever they hold. -/
import Derived.Test.YtokjkligechcoaaGreatDoorHb
set_option linter.unusedVariables false
namespace Go.Proofs.YtokjkligechcoaaGreatDoor
open _root_.Go.Lib (hid)
open Go.RowKit
attribute [local go_sem] ext_mk size_mk toList_mk get_mk take_drop_len take_tail_len ByteArray.mk_append_mk List.append_toArray
theorem clone_strs_none (cap : Nat) (w : World) : Calls Tryz.prog 94 #[.slice none 0 cap] w fun x w' => x = .returned (.slice none 0 0) ∧ w' = w := by
 have hq := fun W => eqn_none2 23 _ Tryz.underlying23 0 cap W
 go_enter Tryz.func94, Tryz.ntmps94
 go_wp2_with fail
 go_ret
 exact ⟨rfl, rfl⟩
set_option maxRecDepth 8000 in
theorem clone_strs (r : Option Addr) (vs : List Value) (n cap : Nat) (w : World) (hn : vs.length = n) (hI : SrcAt w r vs) (h1 : ∀ u ∈ vs, u.oneCell' = true) (hm : n ≤ maxLen) (hb : n * 16 ≤ 140737488355328) : Calls Tryz.prog 94 #[.slice r n cap] w fun x w' => ∃ a c, x = .returned (.slice a n c) ∧ n ≤ c ∧ RowK w' w.heap.size 9 a vs ∧ Below w.heap.size w w' := by
 cases r with
 | none =>
  have he : vs = [] := by
   rcases hI with q | ⟨b, o, q, _⟩
   ·exact q
   ·cases q
  subst he
  subst hn
  refine (clone_strs_none cap w).mono ?_
  rintro e w' ⟨rfl, rfl⟩
  exact ⟨none, 0, rfl, Nat.le_refl _, .inl rfl, Below.refl _ _⟩
 | some ad =>
  have HI := hid hI
  have HN := hid hn
  have HM := hid hm
  have HB4 := hid hb
  have H1 := hid h1
  have hq := fun W => eqn_some 23 _ Tryz.underlying23 ad n cap W
  have hb0 : Below w.heap.size w (w.alloc (.cells #[] 9)) := (Below.refl _ _).alloc (Nat.le_refl _) _
  have HB := hid hb0
  clear hb0 hI hn hm hb h1
  go_enter Tryz.func94, Tryz.ntmps94
  go_wp2_with (at_builtin; (refine app_fresh (w := w.alloc (.cells #[] 9)) infoStr Tryz.underlying23 rfl rfl _ _ rfl _ rfl vs (some ad) n cap HN.out rfl (HI.out.below HB.out) H1.out HM.out HB4.out ?_); (intro a1 c1 V1 r1 n1 hb1; have R1 := hid (r1.mono HB.out.size); have N1 := hid n1; have B1 := hid (HB.out.trans (hb1.mono HB.out.size)); clear r1 n1 hb1))
  go_ret
  exact ⟨a1, c1, rfl, N1.out, R1.out, B1.out⟩
theorem clone_u64s_none (cap : Nat) (w : World) : Calls Tryz.prog 95 #[.slice none 0 cap] w fun x w' => x = .returned (.slice none 0 0) ∧ w' = w := by
 have hq := fun W => eqn_none2 24 _ Tryz.underlying24 0 cap W
 go_enter Tryz.func95, Tryz.ntmps95
 go_wp2_with fail
 go_ret
 exact ⟨rfl, rfl⟩
set_option maxRecDepth 8000 in
theorem clone_u64s (r : Option Addr) (vs : List Value) (n cap : Nat) (w : World) (hn : vs.length = n) (hI : SrcAt w r vs) (h1 : ∀ u ∈ vs, u.oneCell' = true) (hm : n ≤ maxLen) (hb : n * 8 ≤ 140737488355328) : Calls Tryz.prog 95 #[.slice r n cap] w fun x w' => ∃ a c, x = .returned (.slice a n c) ∧ n ≤ c ∧ RowK w' w.heap.size 45 a vs ∧ Below w.heap.size w w' := by
 cases r with
 | none =>
  have he : vs = [] := by
   rcases hI with q | ⟨b, o, q, _⟩
   ·exact q
   ·cases q
  subst he
  subst hn
  refine (clone_u64s_none cap w).mono ?_
  rintro e w' ⟨rfl, rfl⟩
  exact ⟨none, 0, rfl, Nat.le_refl _, .inl rfl, Below.refl _ _⟩
 | some ad =>
  have HI := hid hI
  have HN := hid hn
  have HM := hid hm
  have HB4 := hid hb
  have H1 := hid h1
  have hq := fun W => eqn_some 24 _ Tryz.underlying24 ad n cap W
  have hb0 : Below w.heap.size w (w.alloc (.cells #[] 45)) := (Below.refl _ _).alloc (Nat.le_refl _) _
  have HB := hid hb0
  clear hb0 hI hn hm hb h1
  go_enter Tryz.func95, Tryz.ntmps95
  go_wp2_with (at_builtin; (refine app_fresh (w := w.alloc (.cells #[] 45)) infoU64 Tryz.underlying24 rfl rfl _ _ rfl _ rfl vs (some ad) n cap HN.out rfl (HI.out.below HB.out) H1.out HM.out HB4.out ?_); (intro a1 c1 V1 r1 n1 hb1; have R1 := hid (r1.mono HB.out.size); have N1 := hid n1; have B1 := hid (HB.out.trans (hb1.mono HB.out.size)); clear r1 n1 hb1))
  go_ret
  exact ⟨a1, c1, rfl, N1.out, R1.out, B1.out⟩
theorem clone_intk_none (cap : Nat) (w : World) : Calls Tryz.prog 81 #[.slice none 0 cap] w fun x w' => x = .returned (.slice none 0 0) ∧ w' = w := by
 have hq := fun W => eqn_none2 56 _ Tryz.underlying56 0 cap W
 go_enter Tryz.func81, Tryz.ntmps81
 go_wp2_with fail
 go_ret
 exact ⟨rfl, rfl⟩
set_option maxRecDepth 8000 in
theorem clone_intk (r : Option Addr) (vs : List Value) (n cap : Nat) (w : World) (hn : vs.length = n) (hI : SrcAt w r vs) (h1 : ∀ u ∈ vs, u.oneCell' = true) (hm : n ≤ maxLen) (hb : n * 8 ≤ 140737488355328) : Calls Tryz.prog 81 #[.slice r n cap] w fun x w' => ∃ a c, x = .returned (.slice a n c) ∧ n ≤ c ∧ RowK w' w.heap.size 3 a vs ∧ Below w.heap.size w w' := by
 cases r with
 | none =>
  have he : vs = [] := by
   rcases hI with q | ⟨b, o, q, _⟩
   ·exact q
   ·cases q
  subst he
  subst hn
  refine (clone_intk_none cap w).mono ?_
  rintro e w' ⟨rfl, rfl⟩
  exact ⟨none, 0, rfl, Nat.le_refl _, .inl rfl, Below.refl _ _⟩
 | some ad =>
  have HI := hid hI
  have HN := hid hn
  have HM := hid hm
  have HB4 := hid hb
  have H1 := hid h1
  have hq := fun W => eqn_some 56 _ Tryz.underlying56 ad n cap W
  have hb0 : Below w.heap.size w (w.alloc (.cells #[] 3)) := (Below.refl _ _).alloc (Nat.le_refl _) _
  have HB := hid hb0
  clear hb0 hI hn hm hb h1
  go_enter Tryz.func81, Tryz.ntmps81
  go_wp2_with (at_builtin; (refine app_fresh (w := w.alloc (.cells #[] 3)) infoInt Tryz.underlying56 rfl rfl _ _ rfl _ rfl vs (some ad) n cap HN.out rfl (HI.out.below HB.out) H1.out HM.out HB4.out ?_); (intro a1 c1 V1 r1 n1 hb1; have R1 := hid (r1.mono HB.out.size); have N1 := hid n1; have B1 := hid (HB.out.trans (hb1.mono HB.out.size)); clear r1 n1 hb1))
  go_ret
  exact ⟨a1, c1, rfl, N1.out, R1.out, B1.out⟩
set_option maxHeartbeats 20000000 in
set_option maxRecDepth 8000 in
theorem ccopy_srt (fa sa ra : Option Addr) (fc sc rc : Nat) (P : Pg) (w : World) (hP : PgAt w fa sa ra P) (hR : PgR P) :
  Calls Tryz.prog 38 #[.agg #[.slice fa P.fs.length fc, .slice sa P.ss.length sc, .slice ra P.us.length rc, .int .i64 P.en]] w (CpD false P w) := by
 obtain ⟨W0, hW0⟩ : ∃ W, (w.alloc (.cells #[.slice fa P.fs.length fc, .slice sa P.ss.length sc, .slice ra P.us.length rc, .int .i64 P.en] 26)).alloc rzBlk = W := ⟨_, rfl⟩
 have hb0 : Below w.heap.size w W0 := by rw [← hW0]; exact ((Below.refl _ _).alloc (Nat.le_refl _) _).alloc (by simp) _
 have k0 : KAt W0 w.heap.size (pgBlk (.slice fa P.fs.length fc) (.slice sa P.ss.length sc) (.slice ra P.us.length rc) P.en) := by rw [← hW0]; exact (KAt.new w _).alloc _
 have k1 : KAt W0 (w.heap.size + 1) rzBlk := by
  have h := KAt.new (w.alloc (.cells #[.slice fa P.fs.length fc, .slice sa P.ss.length sc, .slice ra P.us.length rc, .int .i64 P.en] 26)) rzBlk
  rw [show (w.alloc (.cells #[.slice fa P.fs.length fc, .slice sa P.ss.length sc, .slice ra P.us.length rc, .int .i64 P.en] 26)).heap.size = w.heap.size + 1 from by simp] at h
  rw [← hW0]; exact h
 have z0 : W0.heap.size = w.heap.size + 2 := by rw [← hW0]; simp
 have HP := hid (hP.below hb0)
 have HR := hid hR
 have HPW := hid hP
 have K0 := hid k0
 have K1 := hid k1
 have HB0 := hid hb0
 have HZ0 := hid z0
 obtain ⟨nf, hnf⟩ : ∃ n, P.fs.length = n := ⟨_, rfl⟩
 obtain ⟨ns, hns⟩ : ∃ n, P.ss.length = n := ⟨_, rfl⟩
 obtain ⟨nu, hnu⟩ : ∃ n, P.us.length = n := ⟨_, rfl⟩
 obtain ⟨en, hen⟩ : ∃ n, P.en = n := ⟨_, rfl⟩
 have m1 : nf ≤ maxLen := by rw [← hnf]; exact hP.f.1
 have m2 : ns ≤ maxLen := by rw [← hns]; exact hP.s.1
 have m3 : nu ≤ maxLen := by rw [← hnu]; exact hP.u.1
 have MS := hid m2
 have MU := hid m3
 have BS := hid (show ns * 16 ≤ 140737488355328 by rw [← hns]; exact hR.s)
 have BU := hid (show nu * 8 ≤ 140737488355328 by rw [← hnu]; exact hR.u)
 have LS := hid (show (strC P.ss).length = ns by rw [← hns]; simp [strC])
 have LU := hid (show (u64C P.us).length = nu by rw [← hnu]; simp [u64C])
 unfold maxLen at m1 m2 m3
 obtain ⟨SS, hSS⟩ : ∃ SS : World → Prop, SS = fun V => Below W0.heap.size W0 V := ⟨_, rfl⟩
 have SB : Hid (∀ V, SS V → Below W0.heap.size W0 V) := hid (by rw [hSS]; exact fun V h => h)
 have SC : Hid (∀ V, SS V → SrcAt V sa (strC P.ss) ∧ SrcAt V ra (u64C P.us)) := hid (by rw [hSS]; exact fun V h => ⟨(HP.out.s.src).below h, (HP.out.u.src).below h⟩)
 unfold CpD
 rw [hnf, hns, hnu, hen] at hW0 K0 ⊢
 have SK : Hid (∀ V, Below W0.heap.size W0 V → (V.cell? ⟨w.heap.size, 1, none⟩ = some (.slice sa ns sc) ∧ V.cell? ⟨w.heap.size, 2, none⟩ = some (.slice ra nu rc) ∧ V.cell? ⟨w.heap.size, 3, none⟩ = some (.int .i64 en)) ∧ SS V) := hid (by
  rw [hSS]
  intro V h
  have := (K0.out.below h).pg
  exact ⟨⟨this.2.1, this.2.2.1, this.2.2.2.1⟩, h⟩)
 have HNF := hid hnf
 have HEN := hid hen
 clear hP hR hb0 k0 k1 hnf hns hnu hen hSS z0
 unfold rzBlk at hW0
 have CS := hid (fun W h => clone_strs sa (strC P.ss) ns sc W LS.out h (one_str _) MS.out BS.out)
 have CU := hid (fun W h => clone_u64s ra (u64C P.us) nu rc W LU.out h (one_int _) MU.out BU.out)
 go_enter Tryz.func38, Tryz.ntmps38
 go_wp2_with fail
 try rw [hW0]
 have S0 : Hid (SS W0.drew) := hid (SK.out _ (Below.refl _ _).drew).2
 have SA : Hid (∀ V o, SS V → SS (V.alloc o)) := hid (fun V o h => (SK.out _ ((SB.out V h).alloc (SB.out V h).size o)).2)
 have SD : Hid (∀ (V : World) (o : Obj), SS V.drew → SS (V.alloc o).drew) := hid (fun V o h => SA.out V.drew o h)
 have SP : Hid (∀ (V : World) (q : Nat) (a b c d : Value), SS V → W0.heap.size ≤ q → SS ((((V.setCell ⟨q, 0, none⟩ a).setCell ⟨q, 1, none⟩ b).setCell ⟨q, 2, none⟩ c).setCell ⟨q, 3, none⟩ d)) := hid (fun V q a b c d h hq =>
  (SK.out _ (((((SB.out V h).setCell (p := ⟨q, 0, none⟩) hq a).setCell (p := ⟨q, 1, none⟩) hq b).setCell (p := ⟨q, 2, none⟩) hq c).setCell (p := ⟨q, 3, none⟩) hq d)).2)
 have ST : Hid (∀ V V', SS V → Below V.heap.size V V' → SS V') := hid (fun V V' h hb => (SK.out _ ((SB.out V h).trans (hb.mono (SB.out V h).size))).2)
 have SX : Hid (∀ V, SS V → V.cell? ⟨w.heap.size, 1, none⟩ = some (.slice sa ns sc) ∧ V.cell? ⟨w.heap.size, 2, none⟩ = some (.slice ra nu rc) ∧ V.cell? ⟨w.heap.size, 3, none⟩ = some (.int .i64 en) ∧ SS V) := hid (fun V h => by
  obtain ⟨⟨h1, h2, h3⟩, h4⟩ := SK.out V (SB.out V h)
  exact ⟨h1, h2, h3, h4⟩)
 go_cut [3] from 9 to 60 (fun v3 wx => ∃ m sa' sc' ra' rc', v3 = .pointer (some ⟨m, 0, none⟩) ∧ W0.heap.size ≤ m ∧ Below W0.heap.size W0 wx ∧ KAt wx m (.cells #[.slice none 0 0, .slice sa' ns sc', .slice ra' nu rc', .int .i64 en] 26 (0, 0)) ∧ RowK wx W0.heap.size 9 sa' (strC P.ss) ∧ RowK wx W0.heap.size 45 ra' (u64C P.us))
 case first =>
  go_region_held_law (fun w' => w'.cell? ⟨w.heap.size, 1, none⟩ = some (.slice sa ns sc) ∧ w'.cell? ⟨w.heap.size, 2, none⟩ = some (.slice ra nu rc) ∧ w'.cell? ⟨w.heap.size, 3, none⟩ = some (.int .i64 en) ∧ SS w')
   (first
    | with_reducible exact SX.out _ S0.out
    | with_reducible exact SX.out _ HS.out
    | with_reducible exact SX.out _ (SA.out _ _ HS.out)
    | with_reducible exact SX.out _ (SP.out _ _ _ _ _ _ HS.out (by omega))
    | (go_split_ands; with_reducible exact SX.out _ (SA.out _ _ (by assumption)))
    | (go_split_ands; with_reducible exact SX.out _ (SD.out _ _ (by assumption))))
   (first
    | (go_at_call 94; refine (CS.out _ (SC.out _ (by go_split_ands; assumption)).1).mono ?_; rintro e V1 ⟨a1, c1, rfl, -, k1, hbx⟩; have HS := hid (ST.out _ _ (by go_split_ands; assumption) hbx); have hz1 := (SB.out _ HS.out).size; have k1 := RowK.mono k1 (SB.out _ (by go_split_ands; assumption)).size; (first | (have hbp : Below V2.heap.size V2 V1 := (by first | with_reducible exact hbx | with_reducible exact ((Below.refl _ _).alloc (Nat.le_refl _) _).trans (hbx.mono (by (simp; done))) | with_reducible exact (((Below.refl _ _).alloc (Nat.le_refl _) _).alloc (by simp) _).trans (hbx.mono (by simp; omega))); have k2 := k2.below hbp; (first | (have kq := kq.below hbp) | skip); (first | (with_reducible have kq := (KAt.new V2 (.cells #[.slice none 0 0, .slice none 0 0, .slice none 0 0, .int .i64 0] 26 (0, 0))).below hbx) | (with_reducible have kq := ((KAt.new V2 (.cells #[.slice none 0 0, .slice none 0 0, .slice none 0 0, .int .i64 0] 26 (0, 0))).alloc _).below hbx) | (with_reducible have kq := (((KAt.new V2 (.cells #[.slice none 0 0, .slice none 0 0, .slice none 0 0, .int .i64 0] 26 (0, 0))).alloc _).alloc _).below hbx) | (with_reducible have kq := (kat_new1 V2 _ (.cells #[.slice none 0 0, .slice none 0 0, .slice none 0 0, .int .i64 0] 26 (0, 0))).below hbx) | (with_reducible have kq := ((kat_new1 V2 _ (.cells #[.slice none 0 0, .slice none 0 0, .slice none 0 0, .int .i64 0] 26 (0, 0))).alloc _).below hbx) | (with_reducible have kq := (kat_new2 V2 _ _ (.cells #[.slice none 0 0, .slice none 0 0, .slice none 0 0, .int .i64 0] 26 (0, 0))).below hbx) | skip)) | (first | (with_reducible have kq := (KAt.new W0 (.cells #[.slice none 0 0, .slice none 0 0, .slice none 0 0, .int .i64 0] 26 (0, 0))).drew.below hbx) | (with_reducible have kq := ((KAt.new W0 (.cells #[.slice none 0 0, .slice none 0 0, .slice none 0 0, .int .i64 0] 26 (0, 0))).alloc _).drew.below hbx) | (with_reducible have kq := (((KAt.new W0 (.cells #[.slice none 0 0, .slice none 0 0, .slice none 0 0, .int .i64 0] 26 (0, 0))).alloc _).alloc _).drew.below hbx) | (with_reducible have kq := (kat_new1 W0 _ (.cells #[.slice none 0 0, .slice none 0 0, .slice none 0 0, .int .i64 0] 26 (0, 0))).drew.below hbx) | (with_reducible have kq := ((kat_new1 W0 _ (.cells #[.slice none 0 0, .slice none 0 0, .slice none 0 0, .int .i64 0] 26 (0, 0))).alloc _).drew.below hbx) | (with_reducible have kq := (kat_new2 W0 _ _ (.cells #[.slice none 0 0, .slice none 0 0, .slice none 0 0, .int .i64 0] 26 (0, 0))).drew.below hbx) | skip)); (first | (have hq := pbx kq; have hf := frz4 kq; obtain ⟨q0, q1, q2, q3⟩ := hq; obtain ⟨f0, f1, f2, f3⟩ := hf) | skip))
    | (go_at_call 95; refine (CU.out _ (SC.out _ (by go_split_ands; assumption)).2).mono ?_; rintro e V2 ⟨a2, c2, rfl, -, k2, hbx⟩; have HS := hid (ST.out _ _ (by go_split_ands; assumption) hbx); have hz2 := (SB.out _ HS.out).size; have k2 := RowK.mono k2 (SB.out _ (by go_split_ands; assumption)).size; (first | (have hbp : Below V1.heap.size V1 V2 := (by first | with_reducible exact hbx | with_reducible exact ((Below.refl _ _).alloc (Nat.le_refl _) _).trans (hbx.mono (by (simp; done))) | with_reducible exact (((Below.refl _ _).alloc (Nat.le_refl _) _).alloc (by simp) _).trans (hbx.mono (by simp; omega))); have k1 := k1.below hbp; (first | (have kq := kq.below hbp) | skip); (first | (with_reducible have kq := (KAt.new V1 (.cells #[.slice none 0 0, .slice none 0 0, .slice none 0 0, .int .i64 0] 26 (0, 0))).below hbx) | (with_reducible have kq := ((KAt.new V1 (.cells #[.slice none 0 0, .slice none 0 0, .slice none 0 0, .int .i64 0] 26 (0, 0))).alloc _).below hbx) | (with_reducible have kq := (((KAt.new V1 (.cells #[.slice none 0 0, .slice none 0 0, .slice none 0 0, .int .i64 0] 26 (0, 0))).alloc _).alloc _).below hbx) | (with_reducible have kq := (kat_new1 V1 _ (.cells #[.slice none 0 0, .slice none 0 0, .slice none 0 0, .int .i64 0] 26 (0, 0))).below hbx) | (with_reducible have kq := ((kat_new1 V1 _ (.cells #[.slice none 0 0, .slice none 0 0, .slice none 0 0, .int .i64 0] 26 (0, 0))).alloc _).below hbx) | (with_reducible have kq := (kat_new2 V1 _ _ (.cells #[.slice none 0 0, .slice none 0 0, .slice none 0 0, .int .i64 0] 26 (0, 0))).below hbx) | skip)) | (first | (with_reducible have kq := (KAt.new W0 (.cells #[.slice none 0 0, .slice none 0 0, .slice none 0 0, .int .i64 0] 26 (0, 0))).drew.below hbx) | (with_reducible have kq := ((KAt.new W0 (.cells #[.slice none 0 0, .slice none 0 0, .slice none 0 0, .int .i64 0] 26 (0, 0))).alloc _).drew.below hbx) | (with_reducible have kq := (((KAt.new W0 (.cells #[.slice none 0 0, .slice none 0 0, .slice none 0 0, .int .i64 0] 26 (0, 0))).alloc _).alloc _).drew.below hbx) | (with_reducible have kq := (kat_new1 W0 _ (.cells #[.slice none 0 0, .slice none 0 0, .slice none 0 0, .int .i64 0] 26 (0, 0))).drew.below hbx) | (with_reducible have kq := ((kat_new1 W0 _ (.cells #[.slice none 0 0, .slice none 0 0, .slice none 0 0, .int .i64 0] 26 (0, 0))).alloc _).drew.below hbx) | (with_reducible have kq := (kat_new2 W0 _ _ (.cells #[.slice none 0 0, .slice none 0 0, .slice none 0 0, .int .i64 0] 26 (0, 0))).drew.below hbx) | skip)); (first | (have hq := pbx kq; have hf := frz4 kq; obtain ⟨q0, q1, q2, q3⟩ := hq; obtain ⟨f0, f1, f2, f3⟩ := hf) | skip)))
  all_goals go_wp2_with fail
  all_goals go_meet
  all_goals go_split_ands
  all_goals first
   | (refine ⟨_, a1, c1, a2, c2, rfl, (by omega), (SB.out _ (by assumption)), ?_, ?_, ?_⟩; (with_reducible exact KAt.new _ _); (with_reducible exact k1.alloc _); (with_reducible exact k2.alloc _))
   | (refine ⟨_, a1, c1, a2, c2, rfl, (by omega), (SB.out _ (by assumption)), ?_, ?_, ?_⟩; (with_reducible exact kq.set4 _ _ _ _); (with_reducible exact k1.put4q kq (by decide) _ _ _ _); (with_reducible exact k2.put4q kq (by decide) _ _ _ _))
 case rest =>
  clear S0 SA SD SP ST SX SK SB SC hW0
  obtain ⟨m, sa', sc', ra', rc', rfl, hm, hbx, hk, hs, hu⟩ := hcut
  have hz := HZ0.out
  obtain ⟨PB, hPB⟩ : ∃ o, pgBlk (.slice fa nf fc) (.slice sa ns sc) (.slice ra nu rc) en = o := ⟨_, rfl⟩
  have HPB := hid hPB
  rw [hPB] at K0
  have C0 := hid (show CcAt w wc m PB rzBlk (.slice none 0 0) (.slice sa' ns sc') (.slice ra' nu rc') en from ⟨HB0.out.trans (hbx.mono HB0.out.size), K0.out.below hbx, K1.out.below hbx, hk, by omega⟩)
  have R0 := hid (show RsT (KO (w.heap.size + 1)) wc [] [] sa' P.ss ra' P.us from ⟨FnsV.nil _ _, hs.strs (by rw [show P.ss.length = ns by have := LS.out; simpa [strC] using this]; exact MS.out) HPW.out.s.2.1 (fun b hb _ => ⟨by omega, .inr (.inr (.inl rfl))⟩), hu.nums (by rw [show P.us.length = nu by have := LU.out; simpa [u64C] using this]; exact MU.out) (fun b hb _ => ⟨by omega, .inr (.inr (.inr rfl))⟩)⟩)
  have D0 := hid (CoAt.start C0.out 48 3)
  obtain ⟨B3, hB3⟩ : ∃ B, wc.heap.size = B := ⟨_, rfl⟩
  rw [hB3] at D0
  have kp := C0.out.r
  rw [← HPB.out] at kp
  obtain ⟨p0, -⟩ := kp.pg
  clear hPB hm hbx hk hs hu hz hB3 C0 HP K0 K1 HB0 HZ0 LS LU MS MU BS BU CS CU kp
  go_wp2_with fail
  clear p0
  go_loopw [21] (fun v21 wr => ∃ (k : Nat) (v : Value) (fs : List Fu) (xs : List Value), k ≤ nf ∧ v21 = .int .i64 (k : Int) ∧ fs = (P.fs.take k).map (cpF false) ∧ CoAt w wr m PB rzBlk v (.slice sa' ns sc') (.slice ra' nu rc') en B3 48 3 v fs.length xs ∧ RsT (KO (w.heap.size + 1)) wr fs xs sa' P.ss ra' P.us ∧ Srt fs xs ∧ (False → FnsN wr fs xs)) (fun v21 _ => nf - (intOf v21).toNat)
  case atStart => exact ⟨0, _, [], [], Nat.zero_le _, rfl, rfl, D0.out, R0.out, Srt.nil, fun _ => FnsN.nil _⟩
  case round =>
   clear D0 R0
   obtain ⟨k, v, fs, xs, hk, rfl, hfs, hC, hRs, hSr, hFN⟩ := hrel
   have HSr := hid hSr
   have HFN := hid hFN
   clear hSr hFN
   have C := hid hC
   have R := hid hRs
   have HFS := hid hfs
   obtain ⟨p0, p1, p2, p3, -, -, -, -⟩ := (show KAt wr w.heap.size _ by rw [← HPB.out] at hC; exact hC.d.r).pg
   by_cases hkn : k < nf
   ·obtain ⟨ga, oa, f, rfl, es, ca, ccp, x0, x1, x2, xc⟩ := fns_cell HPW.out.f (show k < P.fs.length by rw [HNF.out]; exact hkn)
    obtain ⟨ps, rs, code⟩ := f
    dsimp only at x0 x1 x2 xc
    have XC := hid xc
    have ES := hid es
    have kt : ((k : Int)).toNat = k := Int.toNat_natCast k
    have HRC := hid (HR.out.c _ (List.mem_of_getElem? es))
    have HFL := hid (show fs.length = k by rw [hfs]; simp; rw [HNF.out]; omega)
    obtain ⟨nc, hnc⟩ : ∃ n, code.length = n := ⟨_, rfl⟩
    have HNC := hid hnc
    have m4 : nc ≤ maxLen := by rw [← hnc]; exact xc.1
    unfold maxLen at m4
    rw [hnc] at x2
    have X2 := hid x2
    have x0 := cell_bw x0 hC.d.be
    have x1 := cell_bw x1 hC.d.be
    have x2 := cell_bw x2 hC.d.be
    clear hC hRs hfs xc es hnc
    go_wp2_with fail
    obtain ⟨W4, hW4⟩ : ∃ W, wr.alloc (.cells #[.int .i64 ps, .int .i64 rs, .slice ca nc ccp] 48) = W := ⟨_, rfl⟩
    have hcd : Below wr.heap.size wr W4 := by rw [← hW4]; exact (Below.refl _ _).alloc (Nat.le_refl _) _
    have z4 : W4.heap.size = wr.heap.size + 1 := by rw [← hW4]; simp
    have F0 := hid (CfAt.start (C.out.below hcd) (R.out.kp (Kp.below hcd)) ps rs)
    have HFB := hid (show B3 ≤ W4.heap.size from by have := C.out.hB; omega)
    obtain ⟨W5, hW5⟩ : ∃ W, W4.alloc (fbBlk ps rs (.slice none 0 0)) = W := ⟨_, rfl⟩
    obtain ⟨fb, hfb⟩ : ∃ b, wr.heap.size + 1 = b := ⟨_, rfl⟩
    have F1 : CfAt w W5 m PB rzBlk (.slice sa' ns sc') (.slice ra' nu rc') en B3 v fs xs sa' P.ss ra' P.us fb ps rs (.slice none 0 0) [] [] := by rw [← hW5, ← hfb, ← z4]; exact F0.out
    have hW5' : W4.alloc (.cells #[.int .i64 ps, .int .i64 rs, .slice none 0 0] 48) = W5 := hW5
    rw [hW4, hW5', hfb]
    have F5 := hid F1
    have HF5 := hid (fun (hb : False) => (show FnsN W5 fs xs from hb.elim))
    have HFB2 := hid (show B3 ≤ fb by have := HFB.out; rw [z4] at this; rw [← hfb]; exact this)
    clear p0 p1 p2 p3 x0 x1 x2 F0 F1 hfb hW5 hW5' hW4 hcd z4 C R HFB
    go_loopw [33] (fun v33 wr => ∃ (j : Nat) (vc : Value) (cd : List In) (ys : List Value), j ≤ nc ∧ v33 = .int .i64 (j : Int) ∧ cd = (code.take j).map (cpI false) ∧ CfAt w wr m PB rzBlk (.slice sa' ns sc') (.slice ra' nu rc') en B3 v fs xs sa' P.ss ra' P.us fb ps rs vc cd ys ∧ (False → N5 cd.length ys ∧ FnsN wr fs xs)) (fun v33 _ => nc - (intOf v33).toNat)
    case atStart => exact ⟨0, _, [], [], Nat.zero_le _, rfl, rfl, F5.out, fun hb => hb.elim⟩
    case round =>
     clear F5
     obtain ⟨j, vc, cd, ys, hj, rfl, hcd, hF, hN5⟩ := hrel
     have HN5 := hid hN5
     clear hN5 HF5
     have F := hid hF
     have HCD := hid hcd
     obtain ⟨p0, p1, p2, p3, -, -, -, -⟩ := (show KAt wr w.heap.size _ by rw [← HPB.out] at hF; exact hF.d.r).pg
     have x2 := cell_bw X2.out hF.d.be
     have HFZ := hid (heap_lt hF.f.x)
     by_cases hjn : j < nc
     ·obtain ⟨gc, oc, x, rfl, ex, la, lc, va, vc', q0, q1, q2, q3, q4, q5, pl, pv⟩ := cd_cell (XC.out.below hF.d.be) (show j < code.length by rw [HNC.out]; exact hjn)
      have HX := hid (HRC.out.2 _ (List.mem_of_getElem? ex))
      have EX := hid ex
      have jt : ((j : Int)).toNat = j := Int.toNat_natCast j
      obtain ⟨xo, xa, xb, xc, xl, xv⟩ := x
      dsimp only at q0 q1 q2 q3 q4 q5 pl pv HX
      have PL := hid pl
      have PV := hid pv
      have HCL := hid (show cd.length = j by rw [hcd]; simp; rw [HNC.out]; omega)
      obtain ⟨nl, hnl⟩ : ∃ n, xl.length = n := ⟨_, rfl⟩
      obtain ⟨nv, hnv⟩ : ∃ n, xv.length = n := ⟨_, rfl⟩
      rw [hnl] at q4
      rw [hnv] at q5
      have HNL := hid hnl
      have HNV := hid hnv
      have HXL := hid (show nl ≤ maxLen ∧ nl * 8 ≤ 140737488355328 by rw [← hnl]; exact ⟨pl.1, HX.out.1⟩)
      have HXV := hid (show nv ≤ maxLen ∧ nv * 8 ≤ 140737488355328 by rw [← hnv]; exact ⟨pv.1, HX.out.2⟩)
      clear hF hcd ex pl pv hnl hnv
      obtain ⟨W9, hW9⟩ : ∃ W, wr.alloc (.cells #[.int .i64 xo, .int .i64 xa, .int .i64 xb, .int .i64 xc, .slice la nl lc, .slice va nv vc'] 58) = W := ⟨_, rfl⟩
      have H9 := hid hW9
      have K9 := hid (KAt.new wr (.cells #[.int .i64 xo, .int .i64 xa, .int .i64 xb, .int .i64 xc, .slice la nl lc, .slice va nv vc'] 58 (0, 0)))
      clear hW9
      have BX2 := hid (fun o1 o2 => (show Below wr.heap.size wr ((wr.alloc o1).alloc o2) from ((Below.refl _ _).alloc (Nat.le_refl _) _).alloc (by simp) _))
      have hfx : fb ≠ wr.heap.size := Nat.ne_of_lt HFZ.out
      have hfx2 : wr.heap.size ≠ fb := Ne.symm hfx
      have B9 := hid (show Below wr.heap.size wr W9 by rw [← H9.out]; exact (Below.refl _ _).alloc (Nat.le_refl _) _)
      have Z9 := hid (show W9.heap.size = wr.heap.size + 1 by rw [← H9.out]; simp)
      have K9 := hid (show KAt W9 wr.heap.size (.cells #[.int .i64 xo, .int .i64 xa, .int .i64 xb, .int .i64 xc, .slice la nl lc, .slice va nv vc'] 58 (0, 0)) by rw [← H9.out]; exact K9.out)
      have CL := hid (fun W (h : Below wr.heap.size wr W) => clone_intk la (xl.map (Value.int .i64)) nl lc W (by rw [List.length_map]; exact HNL.out) (PL.out.below h).src (one_int _) HXL.out.1 HXL.out.2)
      have CV := hid (fun W (h : Below wr.heap.size wr W) => clone_intk va (xv.map (Value.int .i64)) nv vc' W (by rw [List.length_map]; exact HNV.out) (PV.out.below h).src (one_int _) HXV.out.1 HXV.out.2)
      go_upto_region 9 with (fail)
      try rw [H9.out]
      go_cut [8, 33] from 33 to 51 (fun v8 v33 wx => v8 = .pointer (some ⟨wr.heap.size, 0, none⟩) ∧ v33 = .int .i64 (j : Int) ∧ ∃ a1 c1 a2 c2, Below wr.heap.size wr wx ∧ KAt wx wr.heap.size (.cells #[.int .i64 xo, .int .i64 xa, .int .i64 xb, .int .i64 xc, .slice a1 nl c1, .slice a2 nv c2] 58 (0, 0)) ∧ RowK wx (wr.heap.size + 1) 3 a1 (xl.map (Value.int .i64)) ∧ RowK wx (wr.heap.size + 1) 3 a2 (xv.map (Value.int .i64)))
      case first =>
       obtain ⟨y0, y1, y2, y3, y4, y5⟩ := xbx K9.out
       have BD := hid (show Below wr.heap.size wr W9.drew from B9.out.drew)
       have KD := hid (show KAt W9.drew wr.heap.size (.cells #[.int .i64 xo, .int .i64 xa, .int .i64 xb, .int .i64 xc, .slice la nl lc, .slice va nv vc'] 58 (0, 0)) from ⟨K9.out.x⟩)
       have HZ9 := hid (show wr.heap.size + 1 ≤ W9.drew.heap.size from Nat.le_of_eq Z9.out.symm)
       go_region_law (first
        | (go_simp; go_at_call 81; with_reducible refine (CL.out _ (by exact BD.out)).mono ?_; rintro e V1 ⟨a1, c1, rfl, -, r1, hb1⟩; have B1 := hid (BD.out.trans (hb1.mono (Nat.le_of_succ_le HZ9.out))); have K1 := hid (KD.out.below hb1); have Q1 := hid (r1.mono HZ9.out); clear r1 hb1 y0 y1 y2 y3 y4 y5; obtain ⟨y0, y1, y2, y3, y4, y5⟩ := xbx K1.out)
        | (go_simp; go_at_call 81; with_reducible refine (CV.out _ (by exact B1.out)).mono ?_; rintro e V2 ⟨a2, c2, rfl, -, r2, hb2⟩; have B2 := hid (B1.out.trans (hb2.mono B1.out.size)); have K2 := hid (K1.out.below hb2); have S2 := hid (r2.mono (Nat.succ_le_of_lt (heap_lt K1.out.x))); have S1 := hid (Q1.out.below hb2); clear r2 hb2 y0 y1 y2 y3 y4 y5; obtain ⟨y0, y1, y2, y3, y4, y5⟩ := xbx K2.out; have z4 := frozen_of_row _ wr.heap.size 4 _ _ K2.out.x; have z5 := frozen_of_row _ wr.heap.size 5 _ _ K2.out.x)
        | (go_simp; go_at_call 81; with_reducible refine (CV.out _ (by exact BD.out)).mono ?_; rintro e V1 ⟨a2, c2, rfl, -, r1, hb1⟩; have B1 := hid (BD.out.trans (hb1.mono (Nat.le_of_succ_le HZ9.out))); have K1 := hid (KD.out.below hb1); have Q2 := hid (r1.mono HZ9.out); clear r1 hb1 y0 y1 y2 y3 y4 y5; obtain ⟨y0, y1, y2, y3, y4, y5⟩ := xbx K1.out)
        | (go_simp; go_at_call 81; with_reducible refine (CL.out _ (by exact B1.out)).mono ?_; rintro e V2 ⟨a1, c1, rfl, -, r2, hb2⟩; have B2 := hid (B1.out.trans (hb2.mono B1.out.size)); have K2 := hid (K1.out.below hb2); have S1 := hid (r2.mono (Nat.succ_le_of_lt (heap_lt K1.out.x))); have S2 := hid (Q2.out.below hb2); clear r2 hb2 y0 y1 y2 y3 y4 y5; obtain ⟨y0, y1, y2, y3, y4, y5⟩ := xbx K2.out; have z4 := frozen_of_row _ wr.heap.size 4 _ _ K2.out.x; have z5 := frozen_of_row _ wr.heap.size 5 _ _ K2.out.x))
       all_goals go_wp2_with fail
       all_goals go_meet
       all_goals exact ⟨rfl, rfl, a1, c1, a2, c2, (B2.out.setCell (p := ⟨wr.heap.size, 4, none⟩) (Nat.le_refl _) _).setCell (p := ⟨wr.heap.size, 5, none⟩) (Nat.le_refl _) _, (K2.out.set6_4 _).set6_5 _, (S1.out.put (Nat.lt_succ_self _) 4 _).put (Nat.lt_succ_self _) 5 _, (S2.out.put (Nat.lt_succ_self _) 4 _).put (Nat.lt_succ_self _) 5 _⟩
      case rest =>
       obtain ⟨rfl, rfl, a1, c1, a2, c2, hbx, hkx, hr1, hr2⟩ := hcut
       obtain ⟨y0, y1, y2, y3, y4, y5⟩ := xbx hkx
       have A3 := hid (F.out.below hbx)
       have BX := hid hbx
       have R1 := hid hr1
       have R2 := hid hr2
       have y7 := A3.out.f.fb.2.2.1
       have y8 := A3.out.f.fb.2.2.2
       clear hbx hkx hr1 hr2 q0 q1 q2 q3 q4 q5 CL CV p0
       go_wp2_with (at_builtin; go_loud (refine wp_oneG (W := wc) (news := [.int .i64 xo, .int .i64 xa, .int .i64 xb, .int .i64 xc, .slice a1 nl c1, .slice a2 nv c2]) infoInsn Tryz.underlying46 rfl (by decide) A3.out.o (heap_lt A3.out.f.x) rfl _ _ rfl rfl wc.heap.size rfl rfl rfl (by intro u hu; simp at hu; rcases hu with rfl | rfl | rfl | rfl | rfl | rfl <;> rfl) (by have := HCL.out; unfold maxLen; omega) (by have := HCL.out; have := HRC.out.1; have := HNC.out; omega) ?_); (intro g7 c7 V o7 hb7 kp7; have O7 := hid o7; have B7 := hid hb7; have K7 := hid kp7; have F7 := (show KAt V fb (fbBlk ps rs vc) from ⟨by rw [hb7.block fb (Nat.lt_succ_self _)]; exact A3.out.f.x⟩); clear y7 y8; have y8 := F7.fb.2.2.1; have z8 := F7.fb.2.2.2; clear F7 o7 hb7 kp7))
       go_roundw
       case rel =>
        have hm1 := A3.out.hm
        have hm2 := A3.out.d.hm
        have hm3 := A3.out.hB
        have hm4 := HFZ.out
        have hk9 : ∀ b, wr.heap.size + 1 ≤ b → KI (w.heap.size + 1) fb b 3 := fun b h1 => ⟨by omega, by omega, .inl rfl⟩
        have hK := K7.out (KI (w.heap.size + 1) fb) (fun b hb h => by
         rcases h.2.2 with q | q | q | q
         ·exact absurd q (by decide)
         ·exact absurd q (by decide)
         ·exact absurd q (by decide)
         ·have := q.2; omega)
        have n1 := (R1.out.nums (K := KI (w.heap.size + 1) fb) (by rw [HNL.out]; exact HXL.out.1) (fun b h _ => hk9 b h)).kp hK
        have n2 := (R2.out.nums (K := KI (w.heap.size + 1) fb) (by rw [HNV.out]; exact HXV.out.1) (fun b h _ => hk9 b h)).kp hK
        have A4 := A3.out.app O7.out B7.out hK rfl (x := ⟨xo, xa, xb, xc, xl, xv⟩) ⟨a1, c1, a2, c2, rfl, rfl, rfl, rfl, by rw [HNL.out]; rfl, by rw [HNV.out]; rfl, n1, n2⟩
        exact ⟨j + 1, _, cd ++ [⟨xo, xa, xb, xc, xl, xv⟩], _, by omega, rfl, by rw [HCD.out, List.take_add_one, EX.out]; simp [cpI], A4, fun hb => hb.elim⟩
       case measure => simp only [intOf]; omega
     ·have hjn2 : j = nc := by omega
      have HCE := hid (show cd = code.map (cpI false) by rw [hcd, hjn2, ← HNC.out, List.take_length])
      obtain ⟨ca2, cc2, rfl, -, -⟩ := own_form hF.o
      have hfl := HFL.out
      have x7 := hF.f.fb.1
      have x8 := hF.f.fb.2.1
      have x9 := hF.f.fb.2.2.1
      have HQ := hid hF.out
      obtain ⟨s0, s1, s2, s3, w0, w1, w2, w3⟩ := hF.d.q.pg
      clear hF hcd p1 p2 p3
      go_wp2_with (first
       | (at_builtin; (refine wp_oneG (W := wr) (news := [.int .i64 ps, .int .i64 rs, .slice ca2 cd.length cc2]) infoFunc Tryz.underlying22 rfl (by decide) F.out.out.o F.out.out.hB rfl _ _ rfl rfl _ rfl rfl rfl (by intro u hu; simp at hu; rcases hu with rfl | rfl | rfl <;> rfl) (by rw [hfl]; unfold maxLen; omega) (by have := HR.out.f; rw [HNF.out] at this; rw [hfl]; omega) ?_); (intro g7 c7 V o7 hb7 kp7; have S6 := hid (F.out.out.grown o7 hb7); have KP7 := hid (kp7 (KO (w.heap.size + 1)) (fun b _ h => absurd h.2 (by decide))); clear s0 s1 s2 s3 w0 w1 w2 w3; obtain ⟨s0, s1, s2, s3, w0, w1, w2, w3⟩ := S6.out.d.q.pg)))
      go_roundw
      case rel =>
       have hSn : Srt (fs ++ [⟨ps, rs, cd⟩]) (xs ++ [.int .i64 ps, .int .i64 rs, .slice ca2 cd.length cc2]) := HSr.out.snoc (fb := fb) F.out.r.f (fun b h => by
        rcases h.2.2 with q | q | q | q
        ·exact absurd q (by decide)
        ·exact absurd q (by decide)
        ·exact absurd q (by decide)
        ·exact q.2) (fun a' ea hne => by
        obtain ⟨g, cap', cur, hv, q1, -⟩ := own_parts F.out.o (List.length_pos_iff.2 hne)
        cases hv; cases ea; exact q1)
       have hf := (F.out.fn.kp KP7.out)
       have hR := ((F.out.rest.kp KP7.out))
       have hR2 : RsT (KO (w.heap.size + 1)) V (fs ++ [⟨ps, rs, cd⟩]) (xs ++ [.int .i64 ps, .int .i64 rs, .slice ca2 cd.length cc2]) sa' P.ss ra' P.us := ⟨hR.f.snoc rfl hf, hR.s, hR.u⟩
       have hFn : ∀ u, False → FnsN (V.setCell ⟨m, 0, none⟩ u) (fs ++ [⟨ps, rs, cd⟩]) (xs ++ [.int .i64 ps, .int .i64 rs, .slice ca2 cd.length cc2]) := fun u hb => by
        have a1 := (HN5.out hb).2.kp F.out.rest.f KP7.out
        have a2 := ((HN5.out hb).1.fn (f := ⟨ps, rs, cd⟩) (u := .int .i64 ps) (v := .int .i64 rs) F.out.o rfl).kp F.out.fn KP7.out
        exact (a1.snoc hR.f a2).kp hR2.f (Kp.set2 S6.out.d.q (fun h => absurd h.2 (by decide)) 0 _)
       refine ⟨k + 1, .slice (some ⟨g7, 0, none⟩) (fs.length + 1) c7, fs ++ [⟨ps, rs, cd⟩], _, by omega, rfl, ?_, ?_, hR2.kp (Kp.set2 S6.out.d.q (fun h => absurd h.2 (by decide)) 0 _), hSn, hFn _⟩
       ·rw [HFS.out, List.take_add_one, ES.out, HCE.out]; simp [cpF]
       ·have := S6.out.put0 (.slice (some ⟨g7, 0, none⟩) (fs.length + 1) c7)
        simpa [hfl] using this
      case measure => simp only [intOf]; omega
   ·have hk2 : k = nf := by omega
    have HFE := hid (show fs = P.fs.map (cpF false) by rw [hfs, hk2, ← HNF.out, List.take_length])
    have hlen : fs.length = nf := by rw [HFE.out, List.length_map]; exact HNF.out
    obtain ⟨fa2, fc2, rfl, -, -⟩ := own_form hC.o
    rw [hlen] at hC
    have HL := hid hlen
    have C2 := hid hC
    obtain ⟨s0, s1, s2, s3, -, -, -, -⟩ := hC.d.q.pg
    have w0 : wr.frozen? ⟨w.heap.size + 1, 0, none⟩ = false := frozen_of_row _ _ _ _ _ hC.d.b.x
    have w1 : wr.frozen? ⟨w.heap.size + 1, 1, none⟩ = false := frozen_of_row _ _ _ _ _ hC.d.b.x
    have w2 : wr.frozen? ⟨w.heap.size + 1, 2, none⟩ = false := frozen_of_row _ _ _ _ _ hC.d.b.x
    have w3 : wr.frozen? ⟨w.heap.size + 1, 3, none⟩ = false := frozen_of_row _ _ _ _ _ hC.d.b.x
    obtain ⟨t0, t1, t2, t3⟩ := pbx hC.d.b
    clear hC hRs hfs p1 p2 p3 C
    go_wp2_with fail
    have hi' : (Tryz.prog.info? 26).map (·.size) = some 4 := by kernel_rfl
    (try simp only [Exit.inBlock, Exit.then]); refine bodyPost_ret (results_cell_row rfl _ _ (w.heap.size + 1) 26 _ (0, 0) _ rfl (p_set C2.out.d.b _ _ _ _) Tryz.underlying26 rfl hi') rfl ?_
    have hm1 := C2.out.d.hm
    have hm2 := C2.out.h
    have ho := C2.out.o
    rw [← HL.out] at ho
    have hpk := pg_put5 (bare := false) (S := w.heap.size + 1) ho R.out HSr.out (fun h => absurd h (by decide)) (by omega) HPW.out.z en (.slice fa2 nf fc2) (.slice sa' ns sc') (.slice ra' nu rc') (.int .i64 en)
    refine ⟨fa2, fc2, sa', sc', ra', rc', rfl, ?_, ((((C2.out.d.be.setCell (p := ⟨w.heap.size + 1, 0, none⟩) (Nat.le_succ _) _).setCell (p := ⟨w.heap.size + 1, 1, none⟩) (Nat.le_succ _) _).setCell (p := ⟨w.heap.size + 1, 2, none⟩) (Nat.le_succ _) _).setCell (p := ⟨w.heap.size + 1, 3, none⟩) (Nat.le_succ _) _)⟩
    rw [HFE.out] at hpk
    have := hpk.wk (K' := KUp w.heap.size) (fun b T _ h => Nat.lt_of_succ_lt h)
    unfold cpP
    rw [HEN.out]
    exact this
end Go.Proofs.YtokjkligechcoaaGreatDoor
