/- Walks of layer 24: the reference's Decode, for any bytes. -/
import Derived.Test.YtgbgahdeopedpaaJd
import Derived.Test.YtgbgahdeopedpaaJg
import Derived.Test.YtgbgahdeopedpaaGm
import Derived.Deep.CutRange
import Derived.Deep.CutBlock
import Derived.Deep.RegionLaw
import Derived.Test.YtgbgahdeopedpaaAw
import Derived.Test.YtgbgahdeopedpaaGr
import Derived.Test.YtgbgahdeopedpaaJm
import Derived.Deep.RegionHeldLaw
namespace Go.Proofs.Ytgbgahdeopedpaa
open Go.RowKit
set_option linter.unusedVariables false
attribute [local go_sem] ext_mk size_mk toList_mk get_mk take_drop_len take_tail_len ByteArray.mk_append_mk List.append_toArray

set_option maxHeartbeats 4000000 in
set_option maxRecDepth 8000 in
theorem rdecode_long (a : Option Addr) (l : List UInt8) (cap : Nat) (w : World) (hB : BysAt w a l) (hl : 16777216 < l.length) :
    Calls Try.prog 30 #[.slice a l.length cap] w fun x w' => x = .returned (.tuple #[.agg #[.slice none 0 0, .slice none 0 0, .slice none 0 0, .int .i64 0], .int .i64 2]) ∧ Below w.heap.size w w' := by
  have hm : l.length ≤ maxLen := hB.1
  unfold maxLen at hm
  obtain ⟨n, hn⟩ : ∃ n, l.length = n := ⟨_, rfl⟩
  rw [hn] at hl hm ⊢
  have k0 : decide ((16777216 : Int) < (n : Int)) = true := decide_eq_true (by omega)
  have K0 := Lib.hid (KAt.new w rzBlk)
  obtain ⟨r0, r1, r2, r3, z0, z1, z2, z3⟩ := (KAt.new w rzBlk).zcells
  clear hB hn hl
  go_enter Try.func30, Try.ntmps30
  go_wp2_with fail
  have hi' : (Try.prog.info? 31).map (·.size) = some 4 := by kernel_rfl
  (try simp only [Exit.inBlock, Exit.then]); refine bodyPost_ret (results_cell2 rfl _ _ w.heap.size 31 _ (0, 0) _ rfl (K0.out.x) Try.underlying31 rfl hi') rfl ?_
  have hl : Below w.heap.size w (w.alloc rzBlk) := (Below.refl _ _).alloc (Nat.le_refl _) _
  exact ⟨rfl, hl⟩

/-- the reference's Decode answers as code's -/
theorem rdecode_any (a : Option Addr) (l : List UInt8) (cap : Nat) (w : World) (hB : BysAt w a l) (hc : l.length ≤ cap) :
    Calls Try.prog 30 #[.slice a l.length cap] w fun x w' => ∃ fa fc sa sc ra rc, x = .returned (.tuple #[.agg #[.slice fa (decodeL l).1.fs.length fc, .slice sa (decodeL l).1.ss.length sc, .slice ra (decodeL l).1.us.length rc, .int .i64 (decodeL l).1.en], .int .i64 (decodeL l).2]) ∧ PgK (KUp w.heap.size) w' fa sa ra (decodeL l).1 ∧ Below w.heap.size w w' := by
  by_cases hl : 16777216 < l.length
  · have hD : decodeL l = (pg0, 2) := if_pos hl
    rw [hD]
    refine (rdecode_long a l cap w hB hl).mono ?_
    rintro e w' ⟨rfl, hb⟩
    exact ⟨none, 0, none, 0, none, 0, rfl, pg0_at _ _, hb⟩
  · rw [← rdecode_eq l]
    exact rdecode_fit a l cap w hB hc (by omega)
end Go.Proofs.Ytgbgahdeopedpaa
/- Walks of layer 24: a look into any bytes. -/
namespace Go.Proofs.Ytgbgahdeopedpaa
open Go.RowKit
set_option linter.unusedVariables false
attribute [local go_sem] ext_mk size_mk toList_mk get_mk take_drop_len take_tail_len ByteArray.mk_append_mk List.append_toArray

/-- a look into an image's bytes: title, how long the program is, error -/
def lookL (l : List UInt8) : List UInt8 × Nat × Int :=
  if (secsL l).1 ≠ 0 then ([], 0, (secsL l).1) else ((secsL l).2.1, (secsL l).2.2.2.length, 0)

set_option maxHeartbeats 4000000 in
set_option maxRecDepth 8000 in
theorem look_any (a : Option Addr) (cap : Nat) (l : List UInt8) (w : World) (hB : BysAt w a l) (hc : l.length ≤ cap) :
    Calls Try.prog 19 #[.slice a l.length cap] w fun x w' => x = .returned (.tuple #[.string ⟨(lookL l).1.toArray⟩, .int .i64 ((lookL l).2.1 : Int), .int .i64 (lookL l).2.2]) ∧ Below w.heap.size w w' := by
  have CS := Lib.hid (fun W h => sections_any a cap l W h hc)
  have HB := Lib.hid hB
  obtain ⟨n, hnn⟩ : ∃ n, l.length = n := ⟨_, rfl⟩
  rw [hnn] at CS ⊢
  obtain ⟨⟨er, S0, S1, S2⟩, hs⟩ : ∃ s, secsL l = s := ⟨_, rfl⟩
  rw [hs] at CS
  clear hB hc hnn
  by_cases her : er = 0
  rotate_left
  · have HU := Lib.hid (show lookL l = ([], 0, er) by unfold lookL; rw [hs]; exact if_pos her)
    have hk : (er == 0) = false := by simpa using her
    clear hs her
    go_enter Try.func19, Try.ntmps19
    go_wp2_with (first
      | (go_at_call 26; refine (CS.out _ HB.out).mono ?_; rintro e w1 ⟨a0, c0, a1, c1, a2, c2, rfl, h0, h1, h2, l0, l1, l2, hb⟩; have HB1 := Lib.hid (hb.alloc hb.size (oBlk (.slice a0 S0.length c0) (.slice a1 S1.length c1) (.slice a2 S2.length c2))); unfold oBlk at HB1; clear hb h0 h1 h2 l0 l1 l2))
    go_ret3
    rw [HU.out]
    exact ⟨rfl, HB1.out⟩
  · subst her
    have HU := Lib.hid (show lookL l = (S0, S2.length, 0) by unfold lookL; rw [hs]; exact if_neg (fun q => q rfl))
    clear hs
    go_enter Try.func19, Try.ntmps19
    go_wp2_with (first
      | (go_at_call 26; refine (CS.out _ HB.out).mono ?_; rintro e w1 ⟨a0, c0, a1, c1, a2, c2, rfl, h0, h1, h2, l0, l1, l2, hb⟩; have hb2 : Below w1.heap.size w1 (w1.alloc (oBlk (.slice a0 S0.length c0) (.slice a1 S1.length c1) (.slice a2 S2.length c2))) := (Below.refl _ _).alloc (Nat.le_refl _) _; have cv0 := conv_any (h0.below hb2.drew) c0; have HB1 := Lib.hid ((hb.trans (hb2.mono hb.size)).drew); have O1 := Lib.hid (KAt.new w1 (oBlk (.slice a0 S0.length c0) (.slice a1 S1.length c1) (.slice a2 S2.length c2))); obtain ⟨e0, e1, e2⟩ := O1.out.ocells; unfold oBlk at e0 e1 e2 HB1 cv0; clear h0 h1 h2 l0 l1 l2 hb hb2))
    go_region_law (first | fail)
    all_goals go_wp2_with fail
    all_goals
      go_ret3
      rw [HU.out]
      exact ⟨rfl, HB1.out⟩
end Go.Proofs.Ytgbgahdeopedpaa
/- Layer 24's laws, walked: bytes and image, there and back. -/
namespace Go.Proofs.Ytgbgahdeopedpaa
open Go.RowKit
set_option linter.unusedVariables false
attribute [local go_sem] ext_mk size_mk toList_mk get_mk take_drop_len take_tail_len ByteArray.mk_append_mk List.append_toArray

set_option maxHeartbeats 2000000 in
set_option maxRecDepth 8000 in
theorem isame_any (T Y : List UInt8) (fa sa ra : Option Addr) (fc sc rc : Nat) (fb sb rb : Option Addr) (fd sd rd : Nat) (P : Pg) (w : World) (hP : PgAt w fa sa ra P) (hQ : PgAt w fb sb rb P) :
    Calls Try.prog 16 #[.agg #[.string ⟨T.toArray⟩, .string ⟨Y.toArray⟩, .slice fa P.fs.length fc, .slice sa P.ss.length sc, .slice ra P.us.length rc, .int .i64 P.en], .agg #[.string ⟨T.toArray⟩, .string ⟨Y.toArray⟩, .slice fb P.fs.length fd, .slice sb P.ss.length sd, .slice rb P.us.length rd, .int .i64 P.en]] w fun e w' => e = .returned (.bool true) ∧ Below w.heap.size w w' := by
  have CS := Lib.hid (fun W h1 h2 => rsame_any fa sa ra fc sc rc fb sb rb fd sd rd P W h1 h2)
  have HA : Hid (∀ o1 o2, Below w.heap.size w ((w.alloc o1).alloc o2)) := Lib.hid (fun o1 o2 => ((Below.refl _ _).alloc (Nat.le_refl _) _).alloc (by simp) _)
  have HP := Lib.hid hP
  have HQ := Lib.hid hQ
  clear hP hQ
  go_enter Try.func16, Try.ntmps16
  go_wp2_with (first
    | (go_at_call 28; refine (CS.out _ (HP.out.below (HA.out _ _)) (HQ.out.below (HA.out _ _))).mono ?_; rintro e w1 ⟨rfl, hb⟩; have HB1 := Lib.hid ((HA.out _ _).trans (hb.mono (HA.out _ _).size)); clear hb))
  go_ret
  exact ⟨rfl, HB1.out⟩
end Go.Proofs.Ytgbgahdeopedpaa
/- Walks of layer 24: the image that bytes are, read by the reference; a look into any bytes; the law. -/
namespace Go.Proofs.Ytgbgahdeopedpaa
open Go.RowKit
set_option linter.unusedVariables false
attribute [local go_sem] ext_mk size_mk toList_mk get_mk take_drop_len take_tail_len ByteArray.mk_append_mk List.append_toArray

def imBlk (t y fa sa ra : Value) (en : Int) : Obj := .cells #[t, y, fa, sa, ra, .int .i64 en] 33 (0, 0)

theorem drew_heap (X : World) : X.drew.heap = X.heap := rfl

theorem i_setd {W : World} {m : Nat} (h : KAt W m izBlk) (a b c d e f : Value) :
    (((((((W.setCell ⟨m, 0, none⟩ a).setCell ⟨m, 1, none⟩ b).setCell ⟨m, 2, none⟩ c).setCell ⟨m, 3, none⟩ d).setCell ⟨m, 4, none⟩ e).setCell ⟨m, 5, none⟩ f).drew).heap[m]? = some (.cells #[a, b, c, d, e, f] 33 (0, 0)) := by
  rw [drew_heap]; exact i_set h a b c d e f

theorem cell_bw {W V : World} {p : Addr} {v : Value} (h : W.cell? p = some v) (hb : Below W.heap.size W V) : V.cell? p = some v := (hb.cell (World.block_lt_of_cell? W p h)).trans h

set_option maxHeartbeats 4000000 in
set_option maxRecDepth 8000 in
theorem rlook_any (a : Option Addr) (cap : Nat) (l : List UInt8) (w : World) (hB : BysAt w a l) (hc : l.length ≤ cap) :
    Calls Try.prog 20 #[.slice a l.length cap] w fun x w' => x = .returned (.tuple #[.string ⟨(lookL l).1.toArray⟩, .int .i64 ((lookL l).2.1 : Int), .int .i64 (lookL l).2.2]) ∧ Below w.heap.size w w' := by
  have CO := Lib.hid (ropen_any a cap l w hB hc)
  obtain ⟨n, hnn⟩ : ∃ n, l.length = n := ⟨_, rfl⟩
  rw [hnn] at CO ⊢
  obtain ⟨⟨er, S0, S1, S2⟩, hs⟩ : ∃ s, secsL l = s := ⟨_, rfl⟩
  rw [hs] at CO
  clear hB hc hnn
  by_cases her : er = 0
  rotate_left
  · have HU := Lib.hid (show lookL l = ([], 0, er) by unfold lookL; rw [hs]; exact if_pos her)
    have hk : ¬ (er = 0) := her
    clear hs
    go_enter Try.func20, Try.ntmps20
    go_wp2_with (first
      | (go_at_call 29; refine (CO.out).mono ?_; rintro e w1 (⟨-, rfl, hb⟩ | ⟨h0, -⟩); (have HB1 := Lib.hid hb; clear hb); rotate_left; (exact absurd h0 her)))
    go_ret3
    rw [HU.out]
    exact ⟨rfl, HB1.out⟩
  · subst her
    have HU := Lib.hid (show lookL l = (S0, S2.length, 0) by unfold lookL; rw [hs]; exact if_neg (fun q => q rfl))
    clear hs
    go_enter Try.func20, Try.ntmps20
    go_wp2_with (first
      | (go_at_call 29; refine (CO.out).mono ?_; rintro e w1 (⟨h0, -⟩ | ⟨-, gg, cc, a0, c0, a1, c1, a2, c2, rfl, x0, x1, x2, b0, b1, b2, l0, l1, l2, h3, hb⟩); (exact absurd rfl h0); (have HB1 := Lib.hid hb.drew; have cv0 := conv_any (b0.below (Below.refl _ _).drew) c0; clear hb b0 b1 b2 l0 l1 l2)))
    go_region_law (first | fail)
    all_goals go_wp2_with fail
    all_goals
      go_ret3
      rw [HU.out]
      exact ⟨rfl, HB1.out⟩

set_option maxHeartbeats 4000000 in
set_option maxRecDepth 8000 in
theorem runpack_any (a : Option Addr) (cap : Nat) (l : List UInt8) (w : World) (hB : BysAt w a l) (hc : l.length ≤ cap) :
    Calls Try.prog 18 #[.slice a l.length cap] w (UnR w (unpackL l)) := by
  have CO := Lib.hid (fun W h => ropen_any a cap l W h hc)
  have CD := Lib.hid (fun a l cap W h hc => rdecode_any a l cap W h hc)
  have hA : Below w.heap.size w (w.alloc izBlk) := (Below.refl _ _).alloc (Nat.le_refl _) _
  have K := Lib.hid (KAt.new w izBlk)
  have HA := Lib.hid hA
  have HB := Lib.hid (hB.below hA)
  have hi' : (Try.prog.info? 33).map (·.size) = some 6 := by kernel_rfl
  obtain ⟨n, hnn⟩ : ∃ n, l.length = n := ⟨_, rfl⟩
  rw [hnn] at CO ⊢
  obtain ⟨⟨er, S0, S1, S2⟩, hs⟩ : ∃ s, secsL l = s := ⟨_, rfl⟩
  rw [hs] at CO
  clear hA hB hc hnn
  by_cases her : er = 0
  rotate_left
  · have HU := Lib.hid (show unpackL l = ([], [], pg0, er) by unfold unpackL; rw [hs]; exact if_pos her)
    have hk : ¬ (er = 0) := her
    clear hs
    go_enter Try.func18, Try.ntmps18
    go_wp2_with (first
      | (go_at_call 29; refine (CO.out _ HB.out).mono ?_; rintro e w1 (⟨-, rfl, hb⟩ | ⟨h0, -⟩); (have HB1 := Lib.hid (HA.out.trans (hb.mono HA.out.size)); have K1 := Lib.hid (K.out.below hb); obtain ⟨e0, e1, e2, e3, e4, e5⟩ := K1.out.izcells; obtain ⟨f0, f1, f2, f3, f4, f5⟩ := K1.out.izfrozen; clear hb); rotate_left; (exact absurd h0 her)))
    (try simp only [Exit.inBlock, Exit.then]); refine bodyPost_ret (results_cell2 rfl _ _ w.heap.size 33 _ (0, 0) _ rfl (i_set K1.out _ _ _ _ _ _) Try.underlying33 rfl hi') rfl ?_
    have hl := HB1.out
    exact UnR.err HU.out
      ((((((hl.setCell (p := ⟨w.heap.size, 0, none⟩) (Nat.le_refl _) _).setCell (p := ⟨w.heap.size, 1, none⟩) (Nat.le_refl _) _).setCell (p := ⟨w.heap.size, 2, none⟩) (Nat.le_refl _) _).setCell (p := ⟨w.heap.size, 3, none⟩) (Nat.le_refl _) _).setCell (p := ⟨w.heap.size, 4, none⟩) (Nat.le_refl _) _).setCell (p := ⟨w.heap.size, 5, none⟩) (Nat.le_refl _) _)
  · subst her
    obtain ⟨⟨P, de⟩, hd⟩ : ∃ d, decodeL S2 = d := ⟨_, rfl⟩
    have HU := Lib.hid (show unpackL l = if de ≠ 0 then ([], [], pg0, de) else (S0, S1, P, 0) by unfold unpackL; rw [hs]; dsimp only; rw [if_neg (fun q => q rfl), hd])
    have CD2 := Lib.hid (fun a cap W h hc => CD.out a S2 cap W h hc)
    rw [hd] at CD2
    clear hs hd CD
    by_cases hde : de = 0
    rotate_left
    · have HU2 := Lib.hid (HU.out.trans (if_pos hde))
      have hk : ¬ (de = 0) := hde
      go_enter Try.func18, Try.ntmps18
      go_wp2_with (first
        | (go_at_call 29; refine (CO.out _ HB.out).mono ?_; rintro e w1 (⟨h0, -⟩ | ⟨-, gg, cc, a0, c0, a1, c1, a2, c2, rfl, x0, x1, x2, b0, b1, b2, l0, l1, l2, h3, hb⟩); (exact absurd rfl h0); (have H0 := Lib.hid b0; have H1 := Lib.hid b1; have H2 := Lib.hid b2; have L2 := Lib.hid l2; have K1 := Lib.hid (K.out.below hb); have HB1 := Lib.hid (HA.out.trans (hb.mono HA.out.size)); have X0 := Lib.hid x0; have X1 := Lib.hid x1; clear b0 b1 b2 l0 l1 l2 hb))
        | (go_at_call 30; refine (CD2.out a2 c2 _ H2.out L2.out).mono ?_; rintro e w2 ⟨fa, fc, sa, sc, ra, rc, rfl, hP, hb⟩; have HP := Lib.hid hP; have K2 := Lib.hid (K1.out.below hb); have G0 := Lib.hid (H0.out.below hb); have G1 := Lib.hid (H1.out.below hb); have HB2 := Lib.hid (HB1.out.trans (hb.mono HB1.out.size)); have HZ2 := Lib.hid hb.size; have hb3 : Below w2.heap.size w2 (w2.alloc (pgBlk (.slice fa P.fs.length fc) (.slice sa P.ss.length sc) (.slice ra P.us.length rc) P.en)) := (Below.refl _ _).alloc (Nat.le_refl _) _; clear x0 x1 x2; have x0 := cell_bw (cell_bw X0.out hb) hb3; have x1 := cell_bw (cell_bw X1.out hb) hb3; clear hP hb; obtain ⟨e0, e1, e2, e3, e4, e5⟩ := (K2.out.alloc (pgBlk (.slice fa P.fs.length fc) (.slice sa P.ss.length sc) (.slice ra P.us.length rc) P.en)).izcells; obtain ⟨f0, f1, f2, f3, f4, f5⟩ := (K2.out.alloc (pgBlk (.slice fa P.fs.length fc) (.slice sa P.ss.length sc) (.slice ra P.us.length rc) P.en)).izfrozen; have cv0 := conv_any (G0.out.below (hb3.drew)) c0; have cv1 := conv_any (G1.out.below (hb3.drew)) c1; unfold pgBlk at e0 e1 e2 e3 e4 e5 f0 f1 f2 f3 f4 f5 cv0 cv1 x0 x1; clear hb3))
      (try simp only [Exit.inBlock, Exit.then]); refine bodyPost_ret (results_cell2 rfl _ _ w.heap.size 33 _ (0, 0) _ rfl (i_set (K2.out.alloc _) _ _ _ _ _ _) Try.underlying33 rfl hi') rfl ?_
      have hl := HB2.out.alloc HB2.out.size (pgBlk (.slice fa P.fs.length fc) (.slice sa P.ss.length sc) (.slice ra P.us.length rc) P.en)
      exact UnR.err HU2.out
        ((((((hl.setCell (p := ⟨w.heap.size, 0, none⟩) (Nat.le_refl _) _).setCell (p := ⟨w.heap.size, 1, none⟩) (Nat.le_refl _) _).setCell (p := ⟨w.heap.size, 2, none⟩) (Nat.le_refl _) _).setCell (p := ⟨w.heap.size, 3, none⟩) (Nat.le_refl _) _).setCell (p := ⟨w.heap.size, 4, none⟩) (Nat.le_refl _) _).setCell (p := ⟨w.heap.size, 5, none⟩) (Nat.le_refl _) _)
    · subst hde
      have HU2 := Lib.hid (HU.out.trans (if_neg (fun q => q rfl)))
      go_enter Try.func18, Try.ntmps18
      go_wp2_with (first
        | (go_at_call 29; refine (CO.out _ HB.out).mono ?_; rintro e w1 (⟨h0, -⟩ | ⟨-, gg, cc, a0, c0, a1, c1, a2, c2, rfl, x0, x1, x2, b0, b1, b2, l0, l1, l2, h3, hb⟩); (exact absurd rfl h0); (have H0 := Lib.hid b0; have H1 := Lib.hid b1; have H2 := Lib.hid b2; have L2 := Lib.hid l2; have K1 := Lib.hid (K.out.below hb); have HB1 := Lib.hid (HA.out.trans (hb.mono HA.out.size)); have X0 := Lib.hid x0; have X1 := Lib.hid x1; clear b0 b1 b2 l0 l1 l2 hb))
        | (go_at_call 30; refine (CD2.out a2 c2 _ H2.out L2.out).mono ?_; rintro e w2 ⟨fa, fc, sa, sc, ra, rc, rfl, hP, hb⟩; have HP := Lib.hid hP; have K2 := Lib.hid (K1.out.below hb); have G0 := Lib.hid (H0.out.below hb); have G1 := Lib.hid (H1.out.below hb); have HB2 := Lib.hid (HB1.out.trans (hb.mono HB1.out.size)); have HZ2 := Lib.hid hb.size; have hb3 : Below w2.heap.size w2 (w2.alloc (pgBlk (.slice fa P.fs.length fc) (.slice sa P.ss.length sc) (.slice ra P.us.length rc) P.en)) := (Below.refl _ _).alloc (Nat.le_refl _) _; clear x0 x1 x2; have x0 := cell_bw (cell_bw X0.out hb) hb3; have x1 := cell_bw (cell_bw X1.out hb) hb3; clear hP hb; obtain ⟨e0, e1, e2, e3, e4, e5⟩ := (K2.out.alloc (pgBlk (.slice fa P.fs.length fc) (.slice sa P.ss.length sc) (.slice ra P.us.length rc) P.en)).izcells; obtain ⟨f0, f1, f2, f3, f4, f5⟩ := (K2.out.alloc (pgBlk (.slice fa P.fs.length fc) (.slice sa P.ss.length sc) (.slice ra P.us.length rc) P.en)).izfrozen; have cv0 := conv_any (G0.out.below (hb3.drew)) c0; have cv1 := conv_any (G1.out.below (hb3.drew)) c1; unfold pgBlk at e0 e1 e2 e3 e4 e5 f0 f1 f2 f3 f4 f5 cv0 cv1 x0 x1; clear hb3))
      have hlo := heap_lt K1.out.x
      have HQ : Hid (UnR w (unpackL l) (.returned (.tuple #[.agg #[.string ⟨S0.toArray⟩, .string ⟨S1.toArray⟩, .slice fa P.fs.length fc, .slice sa P.ss.length sc, .slice ra P.us.length rc, .int .i64 P.en], .int .i64 0])) (((((((w2.alloc (pgBlk (.slice fa P.fs.length fc) (.slice sa P.ss.length sc) (.slice ra P.us.length rc) P.en)).setCell ⟨w.heap.size, 0, none⟩ (.string ⟨S0.toArray⟩)).setCell ⟨w.heap.size, 1, none⟩ (.string ⟨S1.toArray⟩)).setCell ⟨w.heap.size, 2, none⟩ (.slice fa P.fs.length fc)).setCell ⟨w.heap.size, 3, none⟩ (.slice sa P.ss.length sc)).setCell ⟨w.heap.size, 4, none⟩ (.slice ra P.us.length rc)).setCell ⟨w.heap.size, 5, none⟩ (.int .i64 P.en)).drew) := Lib.hid (by
        have q : ∀ (W : World) i v, Kp (KUp w1.heap.size) W (W.setCell ⟨w.heap.size, i, none⟩ v) := fun W i v => Kp.set ⟨w.heap.size, i, none⟩ v (fun _ _ _ h => Nat.lt_asymm hlo h)
        have hp := HP.out.kp (Kp.below ((Below.refl _ _).alloc (Nat.le_refl _) (pgBlk (.slice fa P.fs.length fc) (.slice sa P.ss.length sc) (.slice ra P.us.length rc) P.en)))
        have hp6 := ((((((hp.kp (q _ 0 (.string ⟨S0.toArray⟩))).kp (q _ 1 (.string ⟨S1.toArray⟩))).kp (q _ 2 (.slice fa P.fs.length fc))).kp (q _ 3 (.slice sa P.ss.length sc))).kp (q _ 4 (.slice ra P.us.length rc))).kp (q _ 5 (.int .i64 P.en))).kp (Kp.below ((Below.refl _ _).drew))
        have hl := HB2.out.alloc HB2.out.size (pgBlk (.slice fa P.fs.length fc) (.slice sa P.ss.length sc) (.slice ra P.us.length rc) P.en)
        rw [HU2.out]
        exact ⟨fa, fc, sa, sc, ra, rc, rfl, hp6.wk (fun b T _ h => Nat.lt_trans hlo h), Below.drew (
          ((((((hl.setCell (p := ⟨w.heap.size, 0, none⟩) (Nat.le_refl _) _).setCell (p := ⟨w.heap.size, 1, none⟩) (Nat.le_refl _) _).setCell (p := ⟨w.heap.size, 2, none⟩) (Nat.le_refl _) _).setCell (p := ⟨w.heap.size, 3, none⟩) (Nat.le_refl _) _).setCell (p := ⟨w.heap.size, 4, none⟩) (Nat.le_refl _) _).setCell (p := ⟨w.heap.size, 5, none⟩) (Nat.le_refl _) _)
          )⟩)
      clear HP G0 G1 HB2 HZ2 HB1 K1 K HA HB H0 H1 H2 hlo CD2 CO HU HU2
      go_region
      all_goals go_wp2_with fail
      all_goals
        (try simp only [Exit.inBlock, Exit.then]); refine bodyPost_ret (results_cell2 rfl _ _ w.heap.size 33 _ (0, 0) _ rfl (i_setd (K2.out.alloc _) _ _ _ _ _ _) Try.underlying33 rfl hi') rfl ?_
        exact HQ.out

set_option maxHeartbeats 4000000 in
set_option maxRecDepth 8000 in
theorem imageUnpacks_any (a : Option Addr) (cap : Nat) (l : List UInt8) (w : World) (hB : BysAt w a l) (hc : l.length ≤ cap) :
    Calls Try.prog 9 #[.slice a l.length cap] w fun x w' => x = .returned (.bool true) ∧ Below w.heap.size w w' := by
  have CU := Lib.hid (fun W h => unpack_any a cap l W h hc)
  have CV := Lib.hid (fun W h => runpack_any a cap l W h hc)
  have CL := Lib.hid (fun W h => look_any a cap l W h hc)
  have CM := Lib.hid (fun W h => rlook_any a cap l W h hc)
  have CA := Lib.hid (fun W => awake_24 W)
  have HB := Lib.hid hB
  obtain ⟨n, hnn⟩ : ∃ n, l.length = n := ⟨_, rfl⟩
  rw [hnn] at CU CV CL CM ⊢
  obtain ⟨⟨T, Y, P, er⟩, hu⟩ : ∃ s, unpackL l = s := ⟨_, rfl⟩
  rw [hu] at CU CV
  obtain ⟨⟨tt, nn, ee⟩, hl⟩ : ∃ s, lookL l = s := ⟨_, rfl⟩
  rw [hl] at CL CM
  dsimp only at CL CM
  have CS := Lib.hid (fun fa sa ra fc sc rc fb sb rb fd sd rd W h1 h2 => isame_any T Y fa sa ra fc sc rc fb sb rb fd sd rd P W h1 h2)
  clear hB hc hnn hu hl
  go_enter Try.func9, Try.ntmps9
  go_wp2_with (first
    | (go_at_call 15; refine (CU.out _ HB.out).mono ?_; rintro e w1 ⟨fa, fc, sa, sc, ra, rc, rfl, hP, hb1⟩; have HB1 := Lib.hid (hb1.alloc hb1.size (imBlk (.string ⟨T.toArray⟩) (.string ⟨Y.toArray⟩) (.slice fa P.fs.length fc) (.slice sa P.ss.length sc) (.slice ra P.us.length rc) P.en)); have P1 := Lib.hid ((hP.kp (Kp.below ((Below.refl _ _).alloc (Nat.le_refl _) (imBlk (.string ⟨T.toArray⟩) (.string ⟨Y.toArray⟩) (.slice fa P.fs.length fc) (.slice sa P.ss.length sc) (.slice ra P.us.length rc) P.en)))).at); have X1 := Lib.hid (KAt.new w1 (imBlk (.string ⟨T.toArray⟩) (.string ⟨Y.toArray⟩) (.slice fa P.fs.length fc) (.slice sa P.ss.length sc) (.slice ra P.us.length rc) P.en)); unfold imBlk at HB1 P1 X1; clear hP hb1)
    | (go_at_call 18; refine (CV.out _ (HB.out.below HB1.out)).mono ?_; rintro e w2 ⟨fb, fd, sb, sd, rb, rd, rfl, hP, hb2⟩; have hB2 := hb2.alloc hb2.size (imBlk (.string ⟨T.toArray⟩) (.string ⟨Y.toArray⟩) (.slice fb P.fs.length fd) (.slice sb P.ss.length sd) (.slice rb P.us.length rd) P.en); have HB2 := Lib.hid (HB1.out.trans (hB2.mono HB1.out.size)); have P2 := Lib.hid ((hP.kp (Kp.below ((Below.refl _ _).alloc (Nat.le_refl _) (imBlk (.string ⟨T.toArray⟩) (.string ⟨Y.toArray⟩) (.slice fb P.fs.length fd) (.slice sb P.ss.length sd) (.slice rb P.us.length rd) P.en)))).at); have P1 := Lib.hid (P1.out.below hB2); have X1 := Lib.hid (X1.out.below hB2); have X2 := Lib.hid (KAt.new w2 (imBlk (.string ⟨T.toArray⟩) (.string ⟨Y.toArray⟩) (.slice fb P.fs.length fd) (.slice sb P.ss.length sd) (.slice rb P.us.length rd) P.en)); unfold imBlk at HB2 P2 P1 X1 X2; clear hP hb2 hB2)
    | (go_at_call 19; refine (CL.out _ (HB.out.below HB2.out)).mono ?_; rintro e w3 ⟨rfl, hb3⟩; have HB3 := Lib.hid (HB2.out.trans (hb3.mono HB2.out.size)); have P1 := Lib.hid (P1.out.below hb3); have P2 := Lib.hid (P2.out.below hb3); have X1 := Lib.hid (X1.out.below hb3); have X2 := Lib.hid (X2.out.below hb3); clear hb3)
    | (go_at_call 20; refine (CM.out _ (HB.out.below HB3.out)).mono ?_; rintro e w4 ⟨rfl, hb4⟩; have HB4 := Lib.hid (HB3.out.trans (hb4.mono HB3.out.size)); have P1 := Lib.hid (P1.out.below hb4); have P2 := Lib.hid (P2.out.below hb4); have X1 := Lib.hid (X1.out.below hb4); have X2 := Lib.hid (X2.out.below hb4); clear hb4; obtain ⟨p0, p1, p2, p3, p4, p5⟩ := mkbox_cells X1.out; obtain ⟨q0, q1, q2, q3, q4, q5⟩ := mkbox_cells X2.out)
    | (go_at_call 16; refine (CS.out _ _ _ _ _ _ _ _ _ _ _ _ _ P1.out P2.out).mono ?_; rintro e w5 ⟨rfl, hb5⟩; have HB5 := Lib.hid (HB4.out.trans (hb5.mono HB4.out.size)); clear hb5)
    | (go_at_call 12; refine (CA.out _).mono ?_; rintro e w6 ⟨rfl, hb6⟩; have HB6 := Lib.hid (HB5.out.trans (hb6.mono HB5.out.size)); clear hb6))
  go_ret
  exact ⟨rfl, HB6.out⟩

theorem imageUnpacks_row {w : World} {x : Addr} {len cap : Nat} {zs : List Int} (hl : len ≤ cap) (hm : cap ≤ maxLen) (hz : zs.length = cap)
    (hcell : ∀ i, i < zs.length → w.cell? (x.add i) = some (.int .u8 (zs.getD i 0))) (hwf : ∀ n ∈ zs, (Lit.int .u8 n).wf = true) :
    Calls Try.prog 9 #[.slice (some x) len cap] w fun e w' => e = .returned (.bool true) ∧ Below w.heap.size w w' := by
  have hlen : ((zs.take len).map (fun z => UInt8.ofNat z.toNat)).length = len := by rw [List.length_map, List.length_take]; omega
  have h := imageUnpacks_any (some x) cap _ w (bysAt_row hl hm hz hcell hwf) (by rw [hlen]; exact hl)
  rw [hlen] at h
  exact h
end Go.Proofs.Ytgbgahdeopedpaa
