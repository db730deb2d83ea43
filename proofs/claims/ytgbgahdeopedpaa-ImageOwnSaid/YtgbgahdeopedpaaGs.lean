/- Layer 24's laws, walked: bytes and image, there and back. -/
import Derived.Test.YtgbgahdeopedpaaAw
import Derived.Test.YtgbgahdeopedpaaGr
namespace Go.Proofs.Ytgbgahdeopedpaa
open Go.RowKit
set_option linter.unusedVariables false
attribute [local go_sem] ext_mk size_mk toList_mk get_mk take_drop_len take_tail_len ByteArray.mk_append_mk List.append_toArray

set_option maxHeartbeats 2000000 in
set_option maxRecDepth 8000 in
theorem isame_any (T Y : List UInt8) (fa sa ra : Option Addr) (fc sc rc : Nat) (fb sb rb : Option Addr) (fd sd rd : Nat) (P : Pg) (w : World) (hP : PgAt w fa sa ra P) (hQ : PgAt w fb sb rb P) :
    Calls Try.prog 16 #[.agg #[.string ⟨T.toArray⟩, .string ⟨Y.toArray⟩, .slice fa P.fs.length fc, .slice sa P.ss.length sc, .slice ra P.us.length rc, .int .i64 P.en], .agg #[.string ⟨T.toArray⟩, .string ⟨Y.toArray⟩, .slice fb P.fs.length fd, .slice sb P.ss.length sd, .slice rb P.us.length rd, .int .i64 P.en]] w fun e w' => e = .returned (.bool true) ∧ Below w.heap.size w w' := by
  have CS := Lib.hid (fun W h1 h2 => rsame_any fa sa ra fc sc rc fb sb rb fd sd rd P W h1 h2)
  have HA : Hid (∀ o1 o2, Below w.heap.size w ((w.alloc o1).alloc o2)) := Lib.hid (fun o1 o2 => ((Below.refl _ _).alloc (Nat.le_refl _) _).alloc (by simp) _)
  have HP := Lib.hid hP
  have HQ := Lib.hid hQ
  clear hP hQ
  go_enter Try.func16, Try.ntmps16
  go_wp2_with (first
    | (go_at_call 28; refine (CS.out _ (HP.out.below (HA.out _ _)) (HQ.out.below (HA.out _ _))).mono ?_; rintro e w1 ⟨rfl, hb⟩; have HB1 := Lib.hid ((HA.out _ _).trans (hb.mono (HA.out _ _).size)); clear hb))
  go_ret
  exact ⟨rfl, HB1.out⟩

theorem packR_err {T Y : List UInt8} {P : Pg} (h : (packR T Y P).2 ≠ 0) : (packR T Y P).1 = [] := by
  by_cases h1 : 255 < T.length ∨ 1048576 < Y.length
  · rw [packR_big h1]
  · by_cases h2 : (encR P).2 = 0
    · rw [packR_ok (by omega) (by omega) h2] at h; exact absurd rfl h
    · rw [packR_bad (by omega) (by omega) h2]

set_option maxHeartbeats 4000000 in
set_option maxRecDepth 8000 in
theorem imageBack_any (T Y : List UInt8) (fa sa ra : Option Addr) (fc sc rc : Nat) (P : Pg) (w : World) (hT : T.length ≤ maxLen) (hY : Y.length ≤ maxLen) (hP : PgAt w fa sa ra P) :
    Calls Try.prog 5 #[.agg #[.string ⟨T.toArray⟩, .string ⟨Y.toArray⟩, .slice fa P.fs.length fc, .slice sa P.ss.length sc, .slice ra P.us.length rc, .int .i64 P.en]] w fun e w' => e = .returned (.bool true) ∧ Below w.heap.size w w' := by
  have S := Lib.hid hP
  have CP := Lib.hid (fun fa sa ra fc sc rc W h => pack_any T Y fa sa ra fc sc rc P W hT hY h)
  have CA := Lib.hid (fun W => awake_24 W)
  have CU := Lib.hid (fun a cap l W h1 h2 => unpack_any a cap l W h1 h2)
  have CS := Lib.hid (fun fa sa ra fc sc rc fb sb rb fd sd rd W h1 h2 => isame_any T Y fa sa ra fc sc rc fb sb rb fd sd rd P W h1 h2)
  have hA : Below w.heap.size w (w.alloc (.cells #[.string ⟨T.toArray⟩, .string ⟨Y.toArray⟩, .slice fa P.fs.length fc, .slice sa P.ss.length sc, .slice ra P.us.length rc, .int .i64 P.en] 33)) := (Below.refl _ _).alloc (Nat.le_refl _) _
  have HA := Lib.hid hA
  have X0 := Lib.hid (KAt.new w (.cells #[.string ⟨T.toArray⟩, .string ⟨Y.toArray⟩, .slice fa P.fs.length fc, .slice sa P.ss.length sc, .slice ra P.us.length rc, .int .i64 P.en] 33 (0, 0)))
  have KE := Lib.hid (fun (h : (packR T Y P).2 ≠ 0) => packR_err h)
  have KU := Lib.hid (fun (h : (packR T Y P).2 = 0) => unpack_img h hP.z)
  have KL := Lib.hid (fun (h : (packR T Y P).2 = 0) => (okSum_img h).2)
  obtain ⟨⟨B, er⟩, hR⟩ : ∃ t, packR T Y P = t := ⟨_, rfl⟩
  rw [hR] at CP KE KU KL
  dsimp only at CP KE KU KL
  clear hA hP hT hY hR
  by_cases her : er = 0
  rotate_left
  · have hk : (er == 0) = false := by simpa using her
    have hk2 : (er != 0) = true := by simpa using her
    have hB0 := KE.out her
    subst hB0
    clear KE KU KL her
    go_enter Try.func5, Try.ntmps5
    go_wp2_with (first
      | (go_at_call 13; refine (CP.out fa sa ra fc sc rc _ (S.out.below HA.out)).mono ?_; rintro e w1 ⟨v, rfl, hB, hb1⟩; have HB1 := Lib.hid (HA.out.trans (hb1.mono HA.out.size)); obtain ⟨a1, c1, rfl⟩ := hB.form; clear hB hb1)
      | (go_at_call 12; refine (CA.out _).mono ?_; rintro e w3 ⟨rfl, hb3⟩; have HB1 := Lib.hid (HB1.out.trans (hb3.mono HB1.out.size)); clear hb3))
    go_ret
    exact ⟨rfl, HB1.out⟩
  · subst her
    have hKL := KL.out rfl
    have HU := Lib.hid (KU.out rfl)
    obtain ⟨n, hn⟩ : ∃ n, B.length = n := ⟨_, rfl⟩
    rw [hn] at hKL
    have HN := Lib.hid hn
    have HBB := Lib.hid (show 0 < B.length by omega)
    have CU2 := Lib.hid (fun a cap W h1 h2 => CU.out a cap B W h1 h2)
    rw [HU.out, hn] at CU2
    clear hn KE KL KU CU
    go_enter Try.func5, Try.ntmps5
    go_wp2_with (first
      | (go_at_call 13; (with_reducible refine (CP.out fa sa ra fc sc rc _ (S.out.below HA.out)).mono ?_); rintro e w1 ⟨v, rfl, hB, hb1⟩; have HB1 := Lib.hid (HA.out.trans (hb1.mono HA.out.size)); have OB := Lib.hid hB; have X1 := Lib.hid (X0.out.below hb1); obtain ⟨g, c1, rfl⟩ := hB.some HBB.out; have hcp : n ≤ c1 := (by have := ownB_cap hB; rw [HN.out] at this; exact this); clear hB hb1 X0; rw [HN.out])
      | (go_at_call 12; refine (CA.out _).mono ?_; rintro e w3 ⟨rfl, hb3⟩; have HB2 := Lib.hid (HB1.out.trans (hb3.mono HB1.out.size)); have OB := Lib.hid (OB.out.keep hb3); have X3 := Lib.hid (X1.out.below hb3); clear hb3 X1)
      | (go_at_call 15; (with_reducible refine (CU2.out (some ⟨g, 0, none⟩) c1 _ OB.out.bys hcp).mono ?_); rintro e w4 ⟨xa, xb, xc, xd, xe, xf, rfl, hpk, hb4⟩; have HB4 := Lib.hid (HB2.out.trans (hb4.mono HB2.out.size)); have OB4 := Lib.hid (OB.out.keep hb4); have X4 := Lib.hid (X3.out.below hb4); have PK := Lib.hid hpk.at; have A4 := Lib.hid (fun o => (show Below w4.heap.size w4 (w4.alloc o) from (Below.refl _ _).alloc (Nat.le_refl _) _)); have Y4 := Lib.hid (KAt.new w4 (.cells #[.string ⟨T.toArray⟩, .string ⟨Y.toArray⟩, .slice xa P.fs.length xb, .slice xc P.ss.length xd, .slice xe P.us.length xf, .int .i64 P.en] 33 (0, 0))); clear hpk hb4)
      | (go_at_call 13; (with_reducible refine (CP.out xa xc xe xb xd xf _ (PK.out.below (A4.out _))).mono ?_); rintro e w5 ⟨v, rfl, hB, hb5⟩; have HB5 := Lib.hid ((A4.out _).trans (hb5.mono (A4.out _).size)); have O5 := Lib.hid hB; have OB5 := Lib.hid (OB4.out.keep HB5.out); have Y5 := Lib.hid (Y4.out.below hb5); obtain ⟨g5, c5, rfl⟩ := hB.some HBB.out; clear hB hb5; rw [HN.out]; obtain ⟨q0, q1, q2, q3, q4, q5⟩ := mkbox_cells Y5.out; obtain ⟨p0, p1, p2, p3, p4, p5⟩ := mkbox_cells (X4.out.below HB5.out))
      | (go_at_call 16; (with_reducible refine (CS.out fa sa ra fc sc rc xa xc xe xb xd xf _ (S.out.below (HB4.out.trans (HB5.out.mono HB4.out.size))) (PK.out.below HB5.out)).mono ?_); rintro e w6 ⟨rfl, hb6⟩; have HB6 := Lib.hid (HB5.out.trans (hb6.mono HB5.out.size)); have hc1 := conv_own (OB5.out.keep hb6); have hc2 := conv_own (O5.out.keep hb6); rw [HN.out] at hc1 hc2; clear hb6))
    go_ret
    exact ⟨rfl, HB4.out.trans (HB6.out.mono HB4.out.size)⟩
end Go.Proofs.Ytgbgahdeopedpaa
