/- Walks of layer 16's reference: the program that bytes are. -/
import Derived.Test.YtokjkligechcoaaGreatDoorJc
import Derived.Test.YtokjkligechcoaaGreatDoorEf
set_option linter.unusedVariables false
namespace Go.Proofs.YtokjkligechcoaaGreatDoor
open _root_.Go.Lib (hid)
open Go.RowKit
attribute [local go_sem] ext_mk size_mk toList_mk get_mk take_drop_len take_tail_len ByteArray.mk_append_mk List.append_toArray
theorem EcAt.mark {w W : World} {m : Nat} {sl : Value} {i : Nat} {bad : Bool} {v0 v1 v2 : Value} {en : Int} (h : EcAt w W m sl i bad v0 v1 v2 en) : EcAt w (W.setCell ⟨w.heap.size + 1, 2, none⟩ (.bool true)) m sl i true v0 v1 v2 en := by
 have h1 := h.hm
 exact ⟨h.be.setCell (p := ⟨w.heap.size + 1, 2, none⟩) (Nat.le_succ _) _, h.r.put ⟨w.heap.size + 1, 2, none⟩ (by show _ ≠ w.heap.size + 1; omega) _, ⟨heap_setCell_same (i := 2) _ _ _ _ _ h.b.x⟩, h.q.put ⟨w.heap.size + 1, 2, none⟩ (by show m ≠ w.heap.size + 1; omega) _, h1⟩
theorem EoAt.mark {w W : World} {m : Nat} {sl : Value} {i : Nat} {bad : Bool} {v0 v1 v2 : Value} {en : Int} {B : Nat} {T : TypeId} {size : Nat} {v : Value} {n : Nat} {xs : List Value} (h : EoAt w W m sl i bad v0 v1 v2 en B T size v n xs) : EoAt w (W.setCell ⟨w.heap.size + 1, 2, none⟩ (.bool true)) m sl i true v0 v1 v2 en B T size v n xs := by
 have h1 := h.h
 have h2 := h.d.hm
 exact ⟨h.d.mark, ownsRow_setCell_below h.o (a := ⟨w.heap.size + 1, 2, none⟩) (by show w.heap.size + 1 < B; omega) _, h1, by simpa [World.setCell] using h.hB⟩
set_option maxHeartbeats 40000000 in
set_option maxRecDepth 8000 in
theorem rdecode_fit (a : Option Addr) (l : List UInt8) (cap : Nat) (w : World) (hB : BysAt w a l) (hc : l.length ≤ cap) (hl : l.length ≤ 16777216) :
  Calls Tryz.prog 24 #[.slice a l.length cap] w fun x w' => ∃ fa fc sa sc ra rc, x = .returned (.tuple #[.agg #[.slice fa (rdecodeL l).1.fs.length fc, .slice sa (rdecodeL l).1.ss.length sc, .slice ra (rdecodeL l).1.us.length rc, .int .i64 (rdecodeL l).1.en], .int .i64 (rdecodeL l).2]) ∧ PgK (KUp w.heap.size) w' fa sa ra (rdecodeL l).1 ∧ Below w.heap.size w w' := by
 obtain ⟨W0, hW0⟩ : ∃ W, (w.alloc rzBlk).alloc (rbBlk (.slice a l.length cap) 0 false) = W := ⟨_, rfl⟩
 have kd : KAt W0 (w.heap.size + 1) (rbBlk (.slice a l.length cap) 0 false) := by
  rw [← hW0, show w.heap.size + 1 = (w.alloc rzBlk).heap.size by simp]; exact KAt.new _ _
 have hb0 : Below w.heap.size w W0 := by rw [← hW0]; exact ((Below.refl _ _).alloc (Nat.le_refl _) _).alloc (by simp) _
 have CS := hid (fun i b W (h1 : KAt W (w.heap.size + 1) (rbBlk (.slice a l.length cap) i b)) (h2 : Below w.heap.size w W) h3 => rnat_rd (w.heap.size + 1) a l cap i b w W h1 hB (Nat.le_succ _) h2 h3)
 have CC := hid (fun i b W (h1 : KAt W (w.heap.size + 1) (rbBlk (.slice a l.length cap) i b)) (h2 : Below w.heap.size w W) h3 => rcount_rd (w.heap.size + 1) a l cap i b w W h1 hB (Nat.le_succ _) h2 h3)
 have CI := hid (fun i b W (h1 : KAt W (w.heap.size + 1) (rbBlk (.slice a l.length cap) i b)) (h2 : Below w.heap.size w W) h3 => rinsn_rd (w.heap.size + 1) a l cap i b w W h1 hB (Nat.le_succ _) h2 h3 hl)
 have DS := hid (fun w1 j b' en (h : BxAt W0 w1 (w.heap.size + 1) (rbBlk (.slice a l.length cap) j b')) => ec_start (w := w) (w1 := w1) (j := j) (b' := b') en (by rw [hW0]; exact h))
 have KD := hid kd
 have HB := hid hB
 have HB0 := hid hb0
 have HC := hid hc
 have HLE := hid hl
 have g0 : decide ((16777216 : Int) < (l.length : Int)) = false := decide_eq_false (by omega)
 change (w.alloc (.cells #[.slice none 0 0, .slice none 0 0, .slice none 0 0, .int .i64 0] 26)).alloc (.cells #[.slice a l.length cap, .int .i64 0, .bool false] 113) = W0 at hW0
 obtain ⟨en, hen⟩ : ∃ s, rnatI l 0 false = s := ⟨_, rfl⟩
 obtain ⟨ns, hns⟩ : ∃ s, rcntL l en.2.1 en.2.2 = s := ⟨_, rfl⟩
 obtain ⟨ST, hST⟩ : ∃ s, rstrs l ns.1 ns.2.1 ns.2.2 = s := ⟨_, rfl⟩
 obtain ⟨nr, hnr⟩ : ∃ s, rcntL l ST.2.1 ST.2.2 = s := ⟨_, rfl⟩
 obtain ⟨UT, hUT⟩ : ∃ s, listL (rrealL l) nr.1 nr.2.1 nr.2.2 = s := ⟨_, rfl⟩
 obtain ⟨nf, hnf⟩ : ∃ s, rcntL l UT.2.1 UT.2.2 = s := ⟨_, rfl⟩
 obtain ⟨FT, hFT⟩ : ∃ s, listL (rfnL l) nf.1 nf.2.1 nf.2.2 = s := ⟨_, rfl⟩
 have HDP := hid (show rdecP l = (⟨FT.1, ST.1, UT.1, en.1⟩, FT.2) by rw [← hFT, ← hnf, ← hUT, ← hnr, ← hST, ← hns, ← hen]; rfl)
 have HST := hid hST
 have HM1 := hid (show ns.1 ≤ l.length by have := rcntL_fit l en.2.1 en.2.2; rw [hns] at this; omega)
 have HNR := hid hnr
 have HUT := hid hUT
 have HNF := hid hnf
 have HFT := hid hFT
 have l0 : en.2.1 ≤ l.length := by rw [← hen]; exact rnatI_le l 0 false (Nat.zero_le _)
 have l1 : ns.2.1 ≤ l.length := by rw [← hns]; exact rcntL_le l _ _ l0
 have m1 : ns.1 ≤ l.length := by have := rcntL_fit l en.2.1 en.2.2; rw [hns] at this; omega
 have C0 := hid (fun W h1 h2 => CS.out 0 false W h1 h2 (Nat.zero_le _))
 have C1 := hid (fun W h1 h2 => CC.out en.2.1 en.2.2 W h1 h2 l0)
 have E0 := hid (show ((natL l 0 false).1 : Int) = en.1 ∧ (natL l 0 false).2 = en.2 by rw [← hen]; exact ⟨rfl, rfl⟩)
 rw [E0.out.1, E0.out.2] at C0
 rw [hns] at C1
 clear hST hnr hUT hnf hFT
 clear hen hns hB kd hb0 hl hc E0 l0
 go_enter Tryz.func24, Tryz.ntmps24
 go_wp2_with (first
  | (go_at_call 60; (refine (C0.out _ KD.out HB0.out).mono ?_); rintro e w1 ⟨rfl, h1⟩; have D := hid (DS.out w1 _ _ en.1 h1); clear h1)
  | (go_at_call 61; refine (C1.out _ D.out.b D.out.be).mono ?_; rintro e w2 ⟨rfl, h1⟩; have D2 := hid (D.out.call h1); clear D h1))
 obtain ⟨m, hm⟩ : ∃ m, w1.heap.size = m := ⟨_, rfl⟩
 rw [hm] at D2 ⊢
 have S2 := hid (EoAt.start D2.out 9 1)
 obtain ⟨B1, hB1⟩ : ∃ B, w2.heap.size = B := ⟨_, rfl⟩
 rw [hB1] at S2
 clear D2 hm hB1 C0 C1 DS KD HB0 hW0
 go_loopw [7] (fun v7 wr => ∃ (k i : Nat) (b : Bool) (v : Value) (ss : List (List UInt8)), v7 = .int .i64 (k : Int) ∧ i ≤ l.length ∧ (k ≤ ns.1 ∧ ss.length ≤ k) ∧ EoAt w wr m (.slice a l.length cap) i b (.slice none 0 0) v (.slice none 0 0) en.1 B1 9 1 v ss.length (strC ss) ∧ ST = (ss ++ (rstrs l (ns.1 - k) i b).1, (rstrs l (ns.1 - k) i b).2)) (fun v7 _ => ns.1 - (intOf v7).toNat)
 case atStart => exact ⟨0, ns.2.1, ns.2.2, _, [], rfl, l1, ⟨Nat.zero_le _, Nat.le_refl _⟩, S2.out, by rw [← HST.out]; rfl⟩
 case round =>
  clear S2 l1 m1
  obtain ⟨k, i, b, v, ss, rfl, hi, hn, hS, he⟩ := hrel
  have HE := hid he
  have S := hid hS
  have HN := hid hn
  have hk1 := hn.1
  obtain ⟨x0, x1, x2, x3, z0, z1, z2, z3⟩ := hS.d.q.pg
  obtain ⟨d0, d1, d2, e1, e2⟩ := hS.d.b.rbcells
  have hmp : ¬ (m = w.heap.size + 1) := by have := hS.d.hm; omega
  have hpm : ¬ (w.heap.size + 1 = m) := by have := hS.d.hm; omega
  clear he
  by_cases hx : k < ns.1 ∧ b = false
  ·obtain ⟨hn0, rfl⟩ := hx
   obtain ⟨n, hnk⟩ : ∃ n, ns.1 - k = n + 1 := ⟨ns.1 - k - 1, by omega⟩
   have HNK := hid (show ns.1 - (k + 1) = n by omega)
   rw [hnk] at HE
   have hkb : k < 16777216 := by have := HM1.out; have := HLE.out; omega
   obtain ⟨c, hcn⟩ : ∃ s, rcntL l i false = s := ⟨_, rfl⟩
   have lc : c.2.1 ≤ l.length := by rw [← hcn]; exact rcntL_le l _ _ hi
   have lf : c.1 ≤ l.length - c.2.1 := by have := rcntL_fit l i false; rw [hcn] at this; exact this
   have CN := hid (fun W h1 h2 => CC.out i false W h1 h2 hi)
   have HE2 := hid (show ST = if c.2.2 then (ss, c.2.1, true) else (ss ++ [(l.drop c.2.1).take c.1] ++ (rstrs l n (c.2.1 + c.1) false).1, (rstrs l n (c.2.1 + c.1) false).2) by
    rw [HE.out]; conv => lhs; unfold rstrs
    rw [hcn]; split <;> simp)
   rw [hcn] at CN
   obtain ⟨s, j, b'⟩ := c
   dsimp only at lc lf HE2 CN
   clear hcn hS HE hnk hn
   cases b' with
   | true =>
    have HE3 := hid (HE2.out.trans (if_pos rfl))
    go_wp2_with (first | (go_at_call 61; refine (CN.out _ S.out.d.b S.out.d.be).mono ?_; rintro e w3 ⟨rfl, h1⟩; have S3 := hid (S.out.call h1); clear d0 d1 d2 e1 e2 x0 x1 x2 x3 z0 z1 z2 z3; obtain ⟨d0, d1, d2, e1, e2⟩ := S3.out.d.b.rbcells; clear S h1))
    go_roundw
    case rel => exact ⟨k + 1, j, true, _, ss, rfl, lc, ⟨by omega, by have := HN.out.2; omega⟩, S3.out, by rw [HNK.out, rstrs_bad, HE3.out]; simp⟩
    case measure => simp only [intOf]; omega
   | false =>
    have HE3 := HE2.out.trans (if_neg (by decide))
    obtain ⟨g, off, rfl⟩ : ∃ g off, a = some ⟨g, off, none⟩ := by
     rcases HB.out.2 with h | ⟨b, off, ha, -⟩
     ·have := HM1.out; subst h; simp at this; omega
     ·exact ⟨b, off, ha⟩
    have k1 : IntKind.i64.wrap ((j : Int) + (s : Int)) = (j : Int) + (s : Int) := IntWalk.i64_in _ (by have := HLE.out; omega)
    have k2 : j + s ≤ cap := by have := HC.out; omega
    clear HE2
    go_upto_region 11 with (first | (go_at_call 61; refine (CN.out _ S.out.d.b S.out.d.be).mono ?_; rintro e w3 ⟨rfl, h1⟩; have S3 := hid (S.out.call h1); clear d0 d1 d2 e1 e2 x0 x1 x2 x3 z0 z1 z2 z3; obtain ⟨x0, x1, x2, x3, z0, z1, z2, z3⟩ := S3.out.d.q.pg; obtain ⟨d0, d1, d2, e1, e2⟩ := S3.out.d.b.rbcells; clear S h1))
    obtain ⟨T, hT⟩ : ∃ T, (l.drop j).take s = T := ⟨_, rfl⟩
    rw [hT] at HE3
    have HE3 := hid HE3
    have D3 := hid (S3.out.below (Below.refl _ _).drew)
    have y6 : ∀ o, (w3.alloc o).cell? ⟨m, 1, none⟩ = some v := fun o => ((S3.out.below ((Below.refl _ _).alloc (Nat.le_refl _) o)).d.q.pg).2.1
    have y8 : ∀ o, (w3.alloc o).cell? ⟨w.heap.size + 1, 1, none⟩ = some (.int .i64 (j : Int)) := fun o => ((S3.out.below ((Below.refl _ _).alloc (Nat.le_refl _) o)).d.b.rbcells).2.1
    have hB3 : BysAt w3.drew (some ⟨g, off, none⟩) l := D3.out.d.bys HB.out
    have HL3 := hid (And.intro lc lf)
    have hss : ss.length ≤ 100000000 := by have := HN.out.2; omega
    have HSS := hid hss
    have q1 : (0 : Int) ≤ (j : Int) + (s : Int) := by omega
    have q2 : (j : Int) + (s : Int) ≤ (cap : Int) := by omega
    have q3 : ((j : Int) + (s : Int)).toNat = j + s := by omega
    have q4 : j ≤ j + s := by omega
    have q5 : j + s - j = s := by omega
    rcases Nat.lt_or_ge j cap with hcj | hcj
    ·have hcv := sub_bys hB3 (show j + s ≤ l.length by omega) (cap - j)
     rw [hT] at hcv
     have hcj2 : ¬ (cap = j) := by omega
     have hcj3 : j ≤ cap := by omega
     clear hB3 lc lf hT hss
     go_region_law (first
      | (refine step_one (W := w3.drew) (news := [Value.string ⟨T.toArray⟩]) infoStr Tryz.underlying23 rfl (by decide) D3.out.o D3.out.hB rfl _ _ rfl rfl rfl rfl (by intro u hu; simp at hu; subst hu; rfl) HSS.out (by decide) ?_; intro g7 c7 V o7 hb7 kp7; have S4 := hid (D3.out.grown o7 hb7); have z7 := S4.out.d.q.pg.2.2.2.2.2.1; have y7 := S4.out.d.q.pg.2.1; obtain ⟨r0, r1, r2, f1, f2⟩ := S4.out.d.b.rbcells))
     all_goals go_wp2_with fail
     all_goals
      go_roundw
      case rel => exact ⟨k + 1, j + s, false, _, ss ++ [T], rfl, (by have := HL3.out; omega), ⟨by omega, by have := HN.out.2; simp; omega⟩, (by have := (S4.out.put1 (.slice (some ⟨g7, 0, none⟩) (ss.length + 1) c7)).seek (j + s); simpa [strC] using this), (by rw [HNK.out]; exact HE3.out)⟩
      case measure => simp only [intOf]; omega
    ·obtain rfl : j = cap := by have := HC.out; omega
     obtain rfl : s = 0 := by have := HC.out; omega
     have hcv := sub_nil (W := w3.drew) (g := g) (off := off) 0
     rw [show (#[] : Array UInt8) = T.toArray by rw [← hT]; simp] at hcv
     clear k1
     have k1 : IntKind.i64.wrap (j : Int) = (j : Int) := IntWalk.i64_in _ (by have := HLE.out; omega)
     clear hB3 lc lf hT hss q1 q2 q3 q4 q5 hcj
     go_region_law (first
      | (refine step_one (W := w3.drew) (news := [Value.string ⟨T.toArray⟩]) infoStr Tryz.underlying23 rfl (by decide) D3.out.o D3.out.hB rfl _ _ rfl rfl rfl rfl (by intro u hu; simp at hu; subst hu; rfl) HSS.out (by decide) ?_; intro g7 c7 V o7 hb7 kp7; have S4 := hid (D3.out.grown o7 hb7); have z7 := S4.out.d.q.pg.2.2.2.2.2.1; have y7 := S4.out.d.q.pg.2.1; obtain ⟨r0, r1, r2, f1, f2⟩ := S4.out.d.b.rbcells))
     all_goals go_wp2_with fail
     all_goals
      go_roundw
      case rel => exact ⟨k + 1, j, false, _, ss ++ [T], rfl, (by have := HL3.out; omega), ⟨by omega, by have := HN.out.2; simp; omega⟩, (by have := (S4.out.put1 (.slice (some ⟨g7, 0, none⟩) (ss.length + 1) c7)).seek (j); simpa [strC] using this), (by rw [HNK.out]; exact HE3.out)⟩
      case measure => simp only [intOf]; omega
  ·have hE2 : ST = (ss, i, b) := by
    rw [HE.out]
    rcases Nat.eq_zero_or_pos (ns.1 - k) with h | h
    ·rw [h, rstrs_zero]; simp
    ·have hb : b = true := by
      cases b
      ·exact absurd ⟨by omega, rfl⟩ hx
      ·rfl
     rw [hb, rstrs_bad]; simp
   have kk : ¬ (k < ns.1) ∨ (k < ns.1 ∧ b = true) := by
    rcases Nat.eq_zero_or_pos (ns.1 - k) with h | h
    ·left; omega
    ·right; refine ⟨by omega, ?_⟩
     cases b
     ·exact absurd ⟨by omega, rfl⟩ hx
     ·rfl
   have HSB := hid hS.h
   obtain ⟨sa, sc, rfl, hsc, hSK⟩ := strs_rest (K := KS m) hS.o (fun s hs => by
    have h1 := rstrs_len l ns.1 ns.2.1 ns.2.2
    rw [HST.out, hE2] at h1
    exact Nat.le_trans (h1 s hs) HB.out.1) (fun b h1 _ => ⟨by have := HSB.out; omega, rfl⟩)
   have SK := hid hSK
   have HDS := hid hS.d
   have l3 : nr.2.1 ≤ l.length := by rw [← HNR.out, hE2]; exact rcntL_le l _ _ hi
   have l4 : nr.1 ≤ l.length - nr.2.1 := by have := rcntL_fit l i b; rw [show rcntL l i b = nr by rw [← HNR.out, hE2]] at this; exact this
   have HM2 := hid (show nr.1 ≤ l.length by omega)
   have C3 := hid (fun W h1 h2 => CC.out i b W h1 h2 hi)
   rw [show rcntL l i b = nr by rw [← HNR.out, hE2]] at C3
   have HE2 := hid hE2
   clear hS S HE hE2 hSK hx hi hn HNR HST hsc hk1
   go_upto_region 7 with (fail)
   go_cut [40] from 31 to 40 (fun v40 wx => v40 = .bool false ∧ wx = wr)
   case first =>
    rcases kk with k0 | ⟨k0, rfl⟩
    all_goals go_wp2_with fail
    all_goals go_meet
    all_goals exact ⟨rfl, rfl⟩
   case rest =>
    obtain ⟨rfl, rfl⟩ := hcut
    clear kk
    go_wp2_with (first
     | (go_at_call 61; refine (C3.out _ HDS.out.b HDS.out.be).mono ?_; rintro e w4 ⟨rfl, h1⟩; have D4 := hid (HDS.out.call h1); have K4 := hid (SK.out.kp (Kp.bx h1 (fun T h => by have := h.1; have := HDS.out.hm; omega))); clear HDS SK h1))
    have S4 := hid (EoAt.start D4.out 45 1)
    obtain ⟨B2, hB2⟩ : ∃ B, w4.heap.size = B := ⟨_, rfl⟩
    rw [hB2] at S4
    clear D4 hB2 C3 x0 x1 x2 x3 z0 z1 z2 z3 d0 d1 d2 e1 e2
    go_loopw [9] (fun v9 wr => ∃ (k i : Nat) (b : Bool) (v : Value) (us : List Int), v9 = .int .i64 (k : Int) ∧ i ≤ l.length ∧ (k ≤ nr.1 ∧ us.length = k) ∧ EoAt w wr m (.slice a l.length cap) i b (.slice none 0 0) (.slice sa ss.length sc) v en.1 B2 45 1 v us.length (u64C us) ∧ StrsK (KS m) wr sa ss ∧ UT = (us ++ (listL (rrealL l) (nr.1 - k) i b).1, (listL (rrealL l) (nr.1 - k) i b).2)) (fun v9 _ => nr.1 - (intOf v9).toNat)
    case atStart => exact ⟨0, nr.2.1, nr.2.2, _, [], rfl, l3, ⟨Nat.zero_le _, rfl⟩, S4.out, K4.out, by rw [← HUT.out]; rfl⟩
    case round =>
     clear S4 K4 l3 l4
     obtain ⟨k, i, b, v, us, rfl, hi, hn, hS, hK, he⟩ := hrel
     have HE := hid he
     have S := hid hS
     have SK := hid hK
     have HN2 := hid hn
     have hk1 := hn.1
     obtain ⟨x0, x1, x2, x3, z0, z1, z2, z3⟩ := hS.d.q.pg
     obtain ⟨d0, d1, d2, e1, e2⟩ := hS.d.b.rbcells
     clear he hK
     by_cases hx : k < nr.1 ∧ b = false
     ·obtain ⟨hn0, rfl⟩ := hx
      obtain ⟨n, hnk⟩ : ∃ n, nr.1 - k = n + 1 := ⟨nr.1 - k - 1, by omega⟩
      have HNK2 := hid (show nr.1 - (k + 1) = n by omega)
      have hkb : k < 16777216 := by have := HM2.out; have := HLE.out; omega
      rw [hnk] at HE
      have HE2 := hid (show UT = (us ++ [(((rwordL l i false 8).1 : Nat) : Int)] ++ (listL (rrealL l) n (rwordL l i false 8).2.1 (rwordL l i false 8).2.2).1, (listL (rrealL l) n (rwordL l i false 8).2.1 (rwordL l i false 8).2.2).2) by
       rw [HE.out, listL_succ]; unfold rrealL; simp)
      obtain ⟨g, off, rfl⟩ : ∃ g off, a = some ⟨g, off, none⟩ := by
       rcases HB.out.2 with h | ⟨b, off, ha, -⟩
       ·have := HM2.out; subst h; simp at this; omega
       ·exact ⟨b, off, ha⟩
      have hlb : l.length ≤ 16777216 := HLE.out
      clear hS HE hnk hn x0 x1 x2 x3 z0 z1 z2 z3
      go_wp2_with fail
      clear d0 d1 d2 e1 e2
      have HI := hid hi
      go_loopw [10, 11] (fun v10 v11 wx => ∃ j : Nat, j ≤ 8 ∧ v10 = .int .u64 (((rwordL l i false j).1 : Nat) : Int) ∧ v11 = .int .i64 (j : Int) ∧ EoAt w wx m (.slice (some ⟨g, off, none⟩) l.length cap) (rwordL l i false j).2.1 (rwordL l i false j).2.2 (.slice none 0 0) (.slice sa ss.length sc) v en.1 B2 45 1 v us.length (u64C us) ∧ StrsK (KS m) wx sa ss) (fun _ v11 _ => 8 - (intOf v11).toNat)
      case atStart => exact ⟨0, by omega, rfl, rfl, S.out, SK.out⟩
      case round =>
       clear S SK hi
       obtain ⟨j, hj, rfl, rfl, hS5, hK5⟩ := hrel
       have hal := rwordL_le l i false HI.out j
       have hul := rwordL_lt l i false j
       have HR0 := hid (show rwordL l i false (j + 1) = if l.length ≤ (rwordL l i false j).2.1 then ((rwordL l i false j).1, (rwordL l i false j).2.1, true) else ((rwordL l i false j).1 + (l.getD (rwordL l i false j).2.1 0).toNat * 2 ^ (8 * j), (rwordL l i false j).2.1 + 1, (rwordL l i false j).2.2) from rfl)
       have HJ := hid (show j = 8 → rwordL l i false j = rwordL l i false 8 from fun h => by rw [h])
       obtain ⟨⟨u, at', bd⟩, hr⟩ : ∃ r, rwordL l i false j = r := ⟨_, rfl⟩
       rw [hr] at hS5 hal hul HR0 HJ ⊢
       dsimp only at hS5 hal hul HR0
       have S5 := hid hS5
       have K5 := hid hK5
       obtain ⟨d0, d1, d2, e1, e2⟩ := hS5.d.b.rbcells
       by_cases hj8 : j < 8
       ·by_cases hle : l.length ≤ at'
        ·have HR1 := hid (HR0.out.trans (if_pos hle))
         clear hS5 hK5 hr hul HR0 HJ
         go_wp2_with fail
         go_roundw
         case rel =>
          refine ⟨j + 1, by omega, by rw [HR1.out], rfl, ?_, ?_⟩
          ·rw [HR1.out]; exact S5.out.mark
          ·exact K5.out.kp (Kp.set2 S5.out.d.b (fun h => by have := h.1; have := S5.out.d.hm; omega) 2 _)
         case measure => simp only [intOf]; omega
        ·have b0 : wr.cell? ⟨g, off + at', none⟩ = some (.int .u8 ((l.getD at' 0).toNat : Int)) := by
          obtain ⟨b', off', h1, h2⟩ := bys_get (S5.out.d.bys HB.out) (show at' < l.length by omega)
          cases h1
          exact h2
         have HR2 := HR0.out.trans (if_neg hle)
         obtain ⟨cc, hcc⟩ : ∃ cc, (l.getD at' 0).toNat = cc := ⟨_, rfl⟩
         have hc256 : cc < 256 := by rw [← hcc]; exact (l.getD at' 0).toNat_lt
         rw [hcc] at b0 HR2
         have HR2 := hid HR2
         have HV := hid (or_word u cc j hul hc256 hj8)
         have k2 : IntKind.i64.wrap ((at' : Int) + 1) = (at' : Int) + 1 := IntWalk.i64_in _ (by omega)
         have q2 : (at' : Int) < (l.length : Int) := by omega
         have q3 : ((8 : Int) * (j : Int)).toNat = 8 * j := by omega
         clear hS5 hK5 hr hul HR0 HJ hcc
         go_wp2_with fail
         go_roundw
         case rel =>
          refine ⟨j + 1, by omega, congrArg (fun z => Value.int .u64 z) (by rw [HR2.out]; exact HV.out), rfl, ?_, ?_⟩
          ·rw [HR2.out]; exact S5.out.seek (at' + 1)
          ·exact K5.out.kp (Kp.set2 S5.out.d.b (fun h => by have := h.1; have := S5.out.d.hm; omega) 1 _)
         case measure => simp only [intOf]; omega
       ·obtain rfl : j = 8 := by omega
        rw [hr] at HE2
        dsimp only at HE2
        obtain ⟨x0, x1, x2, x3, z0, z1, z2, z3⟩ := hS5.d.q.pg
        have hus : us.length ≤ 100000000 := by have := HN2.out.2; omega
        have HUS := hid hus
        have HAL := hid hal
        clear hS5 hK5 hr hul HR0 HJ hal hus hj hj8
        go_wp2_with (first
         | (at_builtin; (refine wp_one (W := wr) (news := [Value.int .u64 (u : Int)]) infoU64 Tryz.underlying24 rfl (by decide) S5.out.o S5.out.hB rfl _ _ rfl rfl _ rfl rfl rfl (by intro u hu; simp at hu; subst hu; rfl) HUS.out (by decide) ?_); (intro g7 c7 V o7 hb7 kp7; have S6 := hid (S5.out.grown o7 hb7); have KP7 := hid (kp7 (KS m) (fun b _ h => absurd h.2 (by decide))); clear x0 x1 x2 x3 z0 z1 z2 z3; obtain ⟨x0, x1, x2, x3, z0, z1, z2, z3⟩ := S6.out.d.q.pg)))
        go_roundw
        case rel =>
         refine ⟨k + 1, at', bd, _, us ++ [(u : Int)], rfl, HAL.out, ⟨by omega, by rw [List.length_append, HN2.out.2]; rfl⟩, (by have := S6.out.put2 (.slice (some ⟨g7, 0, none⟩) (us.length + 1) c7); simpa [u64C] using this), (K5.out.kp KP7.out).kp (Kp.set2 S6.out.d.q (fun h => absurd h.1 (Nat.lt_irrefl _)) 2 _), (by rw [HNK2.out]; exact HE2.out)⟩
        case measure => simp only [intOf]; omega
     ·have hE2 : UT = (us, i, b) := by
       rw [HE.out]
       rcases Nat.eq_zero_or_pos (nr.1 - k) with h | h
       ·rw [h, listL_zero]; simp
       ·have hb : b = true := by
         cases b
         ·exact absurd ⟨by omega, rfl⟩ hx
         ·rfl
        rw [hb, listL_bad]; simp
      have kk : ¬ (k < nr.1) ∨ (k < nr.1 ∧ b = true) := by
       rcases Nat.eq_zero_or_pos (nr.1 - k) with h | h
       ·left; omega
       ·right; refine ⟨by omega, ?_⟩
        cases b
        ·exact absurd ⟨by omega, rfl⟩ hx
        ·rfl
      have HSB2 := hid hS.h
      obtain ⟨ra, rc, rfl, hrc, hRK⟩ := u64s_rest (K := KO m) hS.o (fun b h1 _ => ⟨by have := HSB2.out; omega, .inr (.inr (.inr rfl))⟩)
      have RS := hid (show RsT (KO m) wr [] [] sa ss ra us from ⟨FnsV.nil _ _, SK.out.wk (fun b _ h => ⟨h.1, .inr (.inr (.inl rfl))⟩), hRK⟩)
      have HDS := hid hS.d
      have l5 : nf.2.1 ≤ l.length := by rw [← HNF.out, hE2]; exact rcntL_le l _ _ hi
      have l6 : nf.1 ≤ l.length := by have := rcntL_fit l i b; rw [show rcntL l i b = nf by rw [← HNF.out, hE2]] at this; omega
      have HM3 := hid l6
      have C4 := hid (fun W h1 h2 => CC.out i b W h1 h2 hi)
      rw [show rcntL l i b = nf by rw [← HNF.out, hE2]] at C4
      have HUE := hid hE2
      have HUT2 := hid HUT.out
      clear hS S SK HE hE2 hRK hx hi hn HNF HUT hrc hk1
      go_upto_region 15 with (fail)
      go_cut [88] from 79 to 88 (fun v88 wx => v88 = .bool false ∧ wx = wr)
      case first =>
       rcases kk with k0 | ⟨k0, rfl⟩
       all_goals go_wp2_with fail
       all_goals go_meet
       all_goals exact ⟨rfl, rfl⟩
      case rest =>
       obtain ⟨rfl, rfl⟩ := hcut
       clear kk
       go_wp2_with (first
        | (go_at_call 61; refine (C4.out _ HDS.out.b HDS.out.be).mono ?_; rintro e w5 ⟨rfl, h1⟩; have D5 := hid (HDS.out.call h1); have R5 := hid (RS.out.kp (Kp.bx h1 (fun T h => by have := h.1; have := HDS.out.hm; omega))); clear HDS RS h1))
       have S5 := hid (EoAt.start D5.out 48 3)
       obtain ⟨B3, hB3⟩ : ∃ B, w5.heap.size = B := ⟨_, rfl⟩
       rw [hB3] at S5
       clear D5 hB3 C4 x0 x1 x2 x3 z0 z1 z2 z3 d0 d1 d2 e1 e2
       go_loopw [12] (fun v12 wr => ∃ (k i : Nat) (b : Bool) (v : Value) (fs : List Fu) (xs : List Value), v12 = .int .i64 (k : Int) ∧ i ≤ l.length ∧ (k ≤ nf.1 ∧ fs.length = k) ∧ EoAt w wr m (.slice a l.length cap) i b v (.slice sa ss.length sc) (.slice ra us.length rc) en.1 B3 48 3 v fs.length xs ∧ RsT (KO m) wr fs xs sa ss ra us ∧ FT = (fs ++ (listL (rfnL l) (nf.1 - k) i b).1, (listL (rfnL l) (nf.1 - k) i b).2)) (fun v12 _ => nf.1 - (intOf v12).toNat)
       case atStart => exact ⟨0, nf.2.1, nf.2.2, _, [], [], rfl, l5, ⟨Nat.zero_le _, rfl⟩, S5.out, R5.out, by rw [← HFT.out]; rfl⟩
       case round =>
        clear S5 R5 l5 l6
        obtain ⟨k, i, b, v, fs, xs, rfl, hi, hn, hS, hR, he⟩ := hrel
        have HE := hid he
        have S := hid hS
        have RS := hid hR
        have HN3 := hid hn
        have hk1 := hn.1
        obtain ⟨x0, x1, x2, x3, z0, z1, z2, z3⟩ := hS.d.q.pg
        obtain ⟨d0, d1, d2, e1, e2⟩ := hS.d.b.rbcells
        clear he hR
        by_cases hx : k < nf.1 ∧ b = false
        ·obtain ⟨hn0, rfl⟩ := hx
         obtain ⟨n, hnk⟩ : ∃ n, nf.1 - k = n + 1 := ⟨nf.1 - k - 1, by omega⟩
         have HNK3 := hid (show nf.1 - (k + 1) = n by omega)
         have hkb : k < 16777216 := by have := HM3.out; have := HLE.out; omega
         rw [hnk] at HE
         obtain ⟨fp, hfp⟩ : ∃ s, rnatI l i false = s := ⟨_, rfl⟩
         obtain ⟨fr, hfr⟩ : ∃ s, rnatI l fp.2.1 fp.2.2 = s := ⟨_, rfl⟩
         obtain ⟨nc, hnc⟩ : ∃ s, rcntL l fr.2.1 fr.2.2 = s := ⟨_, rfl⟩
         obtain ⟨CT, hCT⟩ : ∃ s, listL (insnR l) nc.1 nc.2.1 nc.2.2 = s := ⟨_, rfl⟩
         have l1 : fp.2.1 ≤ l.length := by rw [← hfp]; exact rnatI_le l _ _ hi
         have l2 : fr.2.1 ≤ l.length := by rw [← hfr]; exact rnatI_le l _ _ l1
         have l3 : nc.2.1 ≤ l.length := by rw [← hnc]; exact rcntL_le l _ _ l2
         have l4 : nc.1 ≤ l.length := by have := rcntL_fit l fr.2.1 fr.2.2; rw [hnc] at this; omega
         have HM4 := hid l4
         have HE2 := hid (show FT = (fs ++ [⟨fp.1, fr.1, CT.1⟩] ++ (listL (rfnL l) n CT.2.1 CT.2.2).1, (listL (rfnL l) n CT.2.1 CT.2.2).2) by
          rw [HE.out, listL_succ]
          have : rfnL l i false = (⟨fp.1, fr.1, CT.1⟩, CT.2) := by unfold rfnL; simp only [hfp, hfr, hnc, hCT]
          rw [this]; simp)
         have E0 := hid (show ((natL l i false).1 : Int) = fp.1 ∧ (natL l i false).2 = fp.2 by rw [← hfp]; exact ⟨rfl, rfl⟩)
         have E1 := hid (show ((natL l fp.2.1 fp.2.2).1 : Int) = fr.1 ∧ (natL l fp.2.1 fp.2.2).2 = fr.2 by rw [← hfr]; exact ⟨rfl, rfl⟩)
         have F0 := hid (fun W h1 h2 => CS.out i false W h1 h2 hi)
         have F1 := hid (fun W h1 h2 => CS.out fp.2.1 fp.2.2 W h1 h2 l1)
         have F2 := hid (fun W h1 h2 => CC.out fr.2.1 fr.2.2 W h1 h2 l2)
         rw [E0.out.1, E0.out.2] at F0
         rw [E1.out.1, E1.out.2] at F1
         rw [hnc] at F2
         have HCT := hid hCT
         clear hfp hfr hnc hCT hS HE E0 E1 hn hnk
         go_wp2_with (first
          | (go_at_call 60; (with_reducible refine (F0.out _ S.out.d.b S.out.d.be).mono ?_); rintro e w6 ⟨rfl, h1⟩; have S1 := hid (S.out.call h1); have R1 := hid (RS.out.kp (Kp.bx h1 (fun T h => by have := h.1; have := S.out.d.hm; omega))); clear S RS h1)
          | (go_at_call 60; (with_reducible refine (F1.out _ S1.out.d.b S1.out.d.be).mono ?_); rintro e w7 ⟨rfl, h1⟩; have S2 := hid (S1.out.call h1); have R2 := hid (R1.out.kp (Kp.bx h1 (fun T h => by have := h.1; have := S1.out.d.hm; omega))); have A := hid (EfAt.start S2.out R2.out fp.1 fr.1); clear S1 S2 R1 R2 h1)
          | (go_at_call 61; refine (F2.out _ A.out.d.b A.out.d.be).mono ?_; rintro e w8 ⟨rfl, h1⟩; have A8 := hid (A.out.call h1); clear A h1))
         obtain ⟨fb, hfb⟩ : ∃ fb, w7.heap.size = fb := ⟨_, rfl⟩
         rw [hfb] at A8 ⊢
         clear hfb x0 x1 x2 x3 z0 z1 z2 z3 d0 d1 d2 e1 e2 F0 F1 F2
         go_loopw [15] (fun v15 wr => ∃ (q i : Nat) (b : Bool) (vc : Value) (code : List In) (ys : List Value), v15 = .int .i64 (q : Int) ∧ i ≤ l.length ∧ (q ≤ nc.1 ∧ code.length = q) ∧ EfAt w wr m (.slice a l.length cap) i b (.slice sa ss.length sc) (.slice ra us.length rc) en.1 B3 v fs xs sa ss ra us fb fp.1 fr.1 vc code ys ∧ CT = (code ++ (listL (insnR l) (nc.1 - q) i b).1, (listL (insnR l) (nc.1 - q) i b).2)) (fun v15 _ => nc.1 - (intOf v15).toNat)
         case atStart => exact ⟨0, nc.2.1, nc.2.2, _, [], [], rfl, l3, ⟨Nat.zero_le _, rfl⟩, A8.out, by rw [← HCT.out]; rfl⟩
         case round =>
          clear A8 l1 l2 l3 l4
          obtain ⟨q, i, b, vc, code, ys, rfl, hi, hn, hA, he⟩ := hrel
          have HE := hid he
          have A := hid hA
          have HN4 := hid hn
          have hq1 := hn.1
          obtain ⟨x0, x1, x2, z2⟩ := hA.f.fb
          obtain ⟨d0, d1, d2, e1, e2⟩ := hA.d.b.rbcells
          clear he
          by_cases hx : q < nc.1 ∧ b = false
          ·obtain ⟨hq0, rfl⟩ := hx
           obtain ⟨N, hnk⟩ : ∃ n, nc.1 - q = n + 1 := ⟨nc.1 - q - 1, by omega⟩
           have HNK4 := hid (show nc.1 - (q + 1) = N by omega)
           have hqb : q < 16777216 := by have := HM4.out; have := HLE.out; omega
           rw [hnk] at HE
           obtain ⟨rr, hrr⟩ : ∃ s, insnR l i false = s := ⟨_, rfl⟩
           have lr : rr.2.1 ≤ l.length := by rw [← hrr]; exact insnR_le l _ _ hi
           have HE3 := hid (show CT = (code ++ [rr.1] ++ (listL (insnR l) N rr.2.1 rr.2.2).1, (listL (insnR l) N rr.2.1 rr.2.2).2) by
            rw [HE.out, listL_succ, hrr]; simp)
           have CN := hid (fun W h1 h2 => CI.out i false W h1 h2 hi)
           rw [hrr] at CN
           have HCL := hid (show code.length ≤ 100000000 by have := HN4.out.2; omega)
           have HFB := hid (heap_lt hA.f.x)
           clear hrr hA HE hn hnk
           go_upto_region 35 with (fail)
           go_region_law (first
            | (go_simp; go_at_call 62; refine (CN.out _ (A.out.below (Below.refl _ _).drew).d.b (A.out.below (Below.refl _ _).drew).d.be).mono ?_; rintro e w9 ⟨la, lc, va, vc', rfl, h1, h2, h3⟩; have A1 := hid ((A.out.below (Below.refl _ _).drew).call h1); have y5 := A1.out.f.fb.2.2.1; have y6 : ∀ o, (w9.alloc o).cell? ⟨fb, 2, none⟩ = some vc := fun o => (A1.out.below ((Below.refl _ _).alloc (Nat.le_refl _) o)).f.fb.2.2.1; have HI := hid (And.intro h2 h3); have HB9 := hid (heap_lt A1.out.f.x); clear h1 h2 h3)
            | (refine step_one (W := w9) (news := [.int .i64 rr.1.op, .int .i64 rr.1.a, .int .i64 rr.1.b, .int .i64 rr.1.c, .slice la rr.1.l.length lc, .slice va rr.1.lv.length vc']) infoInsn Tryz.underlying46 rfl (by decide) A1.out.o HB9.out rfl _ _ rfl rfl rfl rfl (by intro u hu; simp at hu; rcases hu with rfl | rfl | rfl | rfl | rfl | rfl <;> rfl) HCL.out (by decide) ?_; intro g7 c7 V o7 hb7 kp7; have O7 := hid o7; have B7 := hid hb7; have K7 := hid kp7; have F7 := (show KAt V fb (fbBlk fp.1 fr.1 vc) from ⟨by rw [hb7.block fb (Nat.lt_succ_self _)]; exact A1.out.f.x⟩); have y7 := F7.fb.2.2.1; have z7 := F7.fb.2.2.2; clear F7 o7 hb7 kp7))
           all_goals go_wp2_with fail
           all_goals
            go_roundw
            case rel =>
             have hmB := A1.out.hm
             have hBf := A1.out.hB
             have hfw := HFB.out
             have hk9 : ∀ b, wr.heap.size ≤ b → b < w9.heap.size → KI m fb b 3 := fun b h1 _ => ⟨by omega, by omega, .inl rfl⟩
             have hK := K7.out (KI m fb) (fun b hb h => by
              rcases h.2.2 with q | q | q | q
              ·exact absurd q (by decide)
              ·exact absurd q (by decide)
              ·exact absurd q (by decide)
              ·have := q.2; omega)
             have A2 := A1.out.app O7.out B7.out hK rfl (x := rr.1) ⟨la, lc, va, vc', rfl, rfl, rfl, rfl, rfl, rfl, (HI.out.1.rest hk9).kp hK, (HI.out.2.rest hk9).kp hK⟩
             exact ⟨q + 1, rr.2.1, rr.2.2, _, code ++ [rr.1], _, rfl, lr, ⟨by omega, by rw [List.length_append, HN4.out.2]; rfl⟩, A2, by rw [HNK4.out]; exact HE3.out⟩
            case measure => simp only [intOf]; omega
          ·have hE2 : CT = (code, i, b) := by
            rw [HE.out]
            rcases Nat.eq_zero_or_pos (nc.1 - q) with h | h
            ·rw [h, listL_zero]; simp
            ·have hb : b = true := by
              cases b
              ·exact absurd ⟨by omega, rfl⟩ hx
              ·rfl
             rw [hb, listL_bad]; simp
           have kk : ¬ (q < nc.1) ∨ (q < nc.1 ∧ b = true) := by
            rcases Nat.eq_zero_or_pos (nc.1 - q) with h | h
            ·left; omega
            ·right; refine ⟨by omega, ?_⟩
             cases b
             ·exact absurd ⟨by omega, rfl⟩ hx
             ·rfl
           have HE4 := hid hE2
           have HI2 := hid hi
           obtain ⟨s0, s1, s2, s3, q0, q1, q2, q3⟩ := hA.d.q.pg
           obtain ⟨ca, cc, rfl, -, -⟩ := own_form hA.o
           have HFL := hid (show fs.length ≤ 100000000 by have := HN3.out.2; omega)
           clear hA hE2 HE hx hi hn hq1
           go_upto_region 33 with (fail)
           go_cut [162] from 153 to 162 (fun v162 wx => v162 = .bool false ∧ wx = wr)
           case first =>
            rcases kk with k0 | ⟨k0, rfl⟩
            all_goals go_wp2_with fail
            all_goals go_meet
            all_goals exact ⟨rfl, rfl⟩
           case rest =>
            obtain ⟨rfl, rfl⟩ := hcut
            clear kk
            go_wp2_with (first
             | (at_builtin; (refine wp_one (W := wc) (news := [.int .i64 fp.1, .int .i64 fr.1, .slice ca code.length cc]) infoFunc Tryz.underlying22 rfl (by decide) A.out.out.o A.out.out.hB rfl _ _ rfl rfl _ rfl rfl rfl (by intro u hu; simp at hu; rcases hu with rfl | rfl | rfl <;> rfl) HFL.out (by decide) ?_); (intro g7 c7 V o7 hb7 kp7; have S6 := hid (A.out.out.grown o7 hb7); have KP7 := hid (kp7 (KO m) (fun b _ h => absurd h.2 (by decide))); clear s0 s1 s2 s3 q0 q1 q2 q3; obtain ⟨s0, s1, s2, s3, q0, q1, q2, q3⟩ := S6.out.d.q.pg)))
            go_roundw
            case rel =>
             have hf := (A.out.fn.kp KP7.out)
             have hR := ((A.out.rest.kp KP7.out))
             have hR2 : RsT (KO m) V (fs ++ [⟨fp.1, fr.1, code⟩]) (xs ++ [.int .i64 fp.1, .int .i64 fr.1, .slice ca code.length cc]) sa ss ra us := ⟨hR.f.snoc rfl hf, hR.s, hR.u⟩
             refine ⟨k + 1, i, b, .slice (some ⟨g7, 0, none⟩) (fs.length + 1) c7, fs ++ [⟨fp.1, fr.1, code⟩], _, rfl, HI2.out, ⟨by omega, by rw [List.length_append, HN3.out.2]; rfl⟩, ?_, hR2.kp (Kp.set2 S6.out.d.q (fun h => absurd h.1 (Nat.lt_irrefl _)) 0 _), ?_⟩
             ·have := S6.out.put0 (.slice (some ⟨g7, 0, none⟩) (fs.length + 1) c7)
              simpa using this
             ·rw [HNK3.out, HE2.out, HE4.out]
            case measure => simp only [intOf]; omega
        ·have hE2 : FT = (fs, i, b) := by
          rw [HE.out]
          rcases Nat.eq_zero_or_pos (nf.1 - k) with h | h
          ·rw [h, listL_zero]; simp
          ·have hb : b = true := by
            cases b
            ·exact absurd ⟨by omega, rfl⟩ hx
            ·rfl
           rw [hb, listL_bad]; simp
         have kk : ¬ (k < nf.1) ∨ (k < nf.1 ∧ b = true) := by
          rcases Nat.eq_zero_or_pos (nf.1 - k) with h | h
          ·left; omega
          ·right; refine ⟨by omega, ?_⟩
           cases b
           ·exact absurd ⟨by omega, rfl⟩ hx
           ·rfl
         obtain ⟨fa, fc, rfl, -, -⟩ := own_form hS.o
         have hus : ∀ u ∈ us, 0 ≤ u ∧ u < 18446744073709551616 := by
          have h1 := listL_all (rd := rrealL l) (P := fun u => 0 ≤ u ∧ u < 18446744073709551616) (fun i b => by have := rwordL_lt l i b 8; unfold rrealL; dsimp only; constructor <;> omega) nr.1 nr.2.1 nr.2.2
          rw [HUT2.out, HUE.out] at h1
          exact h1
         have HUS := hid hus
         have CK := hid (fun W h => rcheck_any fa sa ra fc sc rc ⟨fs, ss, us, en.1⟩ W h)
         have HDL := hid (show rdecodeL l = if b = true ∨ i ≠ l.length ∨ (checkL ⟨fs, ss, us, en.1⟩).2.2 ≠ 0 then (pg0, 163) else (⟨fs, ss, us, en.1⟩, 0) by
          unfold rdecodeL
          rw [if_neg (by have := HLE.out; omega), HDP.out, hE2, HUE.out, HE2.out])
         clear hE2 HE hx hi hn hS hus hk1
         go_upto_region 28 with (fail)
         go_cut [143] from 134 to 143 (fun v143 wx => v143 = .bool false ∧ wx = wr)
         case first =>
          rcases kk with k0 | ⟨k0, rfl⟩
          all_goals go_wp2_with fail
          all_goals go_meet
          all_goals exact ⟨rfl, rfl⟩
         case rest =>
          obtain ⟨rfl, rfl⟩ := hcut
          clear kk
          obtain ⟨ck, hck⟩ : ∃ t, checkL ⟨fs, ss, us, en.1⟩ = t := ⟨_, rfl⟩
          rw [hck] at CK HDL
          obtain ⟨c1, c2, c3⟩ := ck
          clear hck
          obtain ⟨r0, r1, r2, r3, y0, y1, y2, y3⟩ := S.out.d.r.zcells
          have hi' : (Tryz.prog.info? 26).map (·.size) = some 4 := by kernel_rfl
          have HL8 := hid S.out.d.be
          by_cases hbad : b = true ∨ i ≠ l.length
          ·have HDZ := hid (HDL.out.trans (if_pos (hbad.elim Or.inl (fun h => Or.inr (Or.inl h)))))
           have kb : b = true ∨ (b = false ∧ ((i : Int) == (l.length : Int)) = false) := by
            cases b
            ·right
             refine ⟨rfl, ?_⟩
             rw [beq_eq_false_iff_ne]
             intro q
             rcases hbad with h1 | h1
             ·exact absurd h1 (by decide)
             ·exact h1 (by omega)
            ·left; rfl
           clear hbad
           go_upto_region 37 with (fail)
           go_cut [190] from 178 to 190 (fun v190 wx => v190 = .bool true ∧ wx = wc)
           case first =>
            rcases kb with rfl | ⟨rfl, k1⟩
            ·go_wp2_with fail
             go_meet
             exact ⟨rfl, rfl⟩
            ·have k3 : ((i : Int) != (l.length : Int)) = true := by rw [bne, k1]; rfl
             go_wp2_with fail
             go_meet
             exact ⟨rfl, rfl⟩
           case rest =>
            obtain ⟨rfl, rfl⟩ := hcut
            clear kb
            go_wp2_with fail
            (try simp only [Exit.inBlock, Exit.then]); refine bodyPost_ret (results_cell2 rfl _ _ w.heap.size 26 _ (0, 0) _ rfl (p_set S.out.d.r _ _ _ _) Tryz.underlying26 rfl hi') rfl ?_
            rw [HDZ.out]
            first | exact ⟨none, 0, none, 0, none, 0, rfl, pg0_at _ _, (((HL8.out.setCell (p := ⟨w.heap.size, 0, none⟩) (Nat.le_refl _) _).setCell (p := ⟨w.heap.size, 1, none⟩) (Nat.le_refl _) _).setCell (p := ⟨w.heap.size, 2, none⟩) (Nat.le_refl _) _).setCell (p := ⟨w.heap.size, 3, none⟩) (Nat.le_refl _) _⟩ | exact ⟨none, 0, none, 0, none, ⟨0, rfl⟩, pg0_at _ _, (((HL8.out.setCell (p := ⟨w.heap.size, 0, none⟩) (Nat.le_refl _) _).setCell (p := ⟨w.heap.size, 1, none⟩) (Nat.le_refl _) _).setCell (p := ⟨w.heap.size, 2, none⟩) (Nat.le_refl _) _).setCell (p := ⟨w.heap.size, 3, none⟩) (Nat.le_refl _) _⟩
          ·have hb : b = false := by cases b; rfl; exact absurd (Or.inl rfl) hbad
           have hil : i = l.length := Classical.byContradiction fun q => hbad (Or.inr q)
           subst hb
           have k1 : ((i : Int) == (l.length : Int)) = true := by rw [beq_iff_eq]; omega
           have k3 : ((i : Int) != (l.length : Int)) = false := by rw [bne, k1]; rfl
           have HDL2 := hid (show rdecodeL l = if c3 ≠ 0 then (pg0, 163) else (⟨fs, ss, us, en.1⟩, 0) by
            rw [HDL.out]
            by_cases h : c3 = 0
            ·rw [if_neg (by rintro (h1 | h1 | h1); exact absurd h1 (by decide); exact h1 hil; exact h1 h), if_neg (fun h1 => h1 h)]
            ·rw [if_pos (Or.inr (Or.inr h)), if_pos h])
           clear hbad hil HDL
           go_upto_region 40 with (first
            | (go_at_call 12; refine (CK.out _ (pg_rest S.out.o RS.out HUS.out en.1)).mono ?_; rintro e w9 ⟨rfl, hb9⟩; have S9 := hid (S.out.below hb9); have R9 := hid (RS.out.kp (Kp.below hb9)); clear x0 x1 x2 x3 z0 z1 z2 z3 d0 d1 d2 e1 e2 hb9 r0 r1 r2 r3 y0 y1 y2 y3; obtain ⟨r0, r1, r2, r3, y0, y1, y2, y3⟩ := S9.out.d.r.zcells; obtain ⟨x0, x1, x2, x3, -, -, -, -⟩ := S9.out.d.q.pg))
           have HL9 := hid S9.out.d.be
           by_cases hc3 : c3 = 0
           ·have HDZ := hid (HDL2.out.trans (if_neg (fun h => h hc3)))
            have k4 : (c3 != 0) = false := by simpa using hc3
            have hm1 := S9.out.h
            have hm2 := S9.out.d.hm
            clear hc3
            go_wp2_with fail
            (try simp only [Exit.inBlock, Exit.then]); refine bodyPost_ret (results_cell2 rfl _ _ w.heap.size 26 _ (0, 0) _ rfl (p_set S9.out.d.r _ _ _ _) Tryz.underlying26 rfl hi') rfl ?_
            rw [HDZ.out]
            first | exact ⟨fa, fc, sa, sc, ra, rc, rfl, pg_put4 S9.out.o R9.out (by omega) hm1 HUS.out en.1 _ _ _ _, (((HL9.out.setCell (p := ⟨w.heap.size, 0, none⟩) (Nat.le_refl _) _).setCell (p := ⟨w.heap.size, 1, none⟩) (Nat.le_refl _) _).setCell (p := ⟨w.heap.size, 2, none⟩) (Nat.le_refl _) _).setCell (p := ⟨w.heap.size, 3, none⟩) (Nat.le_refl _) _⟩ | exact ⟨fa, fc, sa, sc, ra, ⟨rc, rfl⟩, pg_put4 S9.out.o R9.out (by omega) hm1 HUS.out en.1 _ _ _ _, (((HL9.out.setCell (p := ⟨w.heap.size, 0, none⟩) (Nat.le_refl _) _).setCell (p := ⟨w.heap.size, 1, none⟩) (Nat.le_refl _) _).setCell (p := ⟨w.heap.size, 2, none⟩) (Nat.le_refl _) _).setCell (p := ⟨w.heap.size, 3, none⟩) (Nat.le_refl _) _⟩
           ·have HDZ := hid (HDL2.out.trans (if_pos hc3))
            have k4 : (c3 != 0) = true := by simpa using hc3
            clear hc3
            go_wp2_with fail
            (try simp only [Exit.inBlock, Exit.then]); refine bodyPost_ret (results_cell2 rfl _ _ w.heap.size 26 _ (0, 0) _ rfl (p_set S9.out.d.r _ _ _ _) Tryz.underlying26 rfl hi') rfl ?_
            rw [HDZ.out]
            first | exact ⟨none, 0, none, 0, none, 0, rfl, pg0_at _ _, (((HL9.out.setCell (p := ⟨w.heap.size, 0, none⟩) (Nat.le_refl _) _).setCell (p := ⟨w.heap.size, 1, none⟩) (Nat.le_refl _) _).setCell (p := ⟨w.heap.size, 2, none⟩) (Nat.le_refl _) _).setCell (p := ⟨w.heap.size, 3, none⟩) (Nat.le_refl _) _⟩ | exact ⟨none, 0, none, 0, none, ⟨0, rfl⟩, pg0_at _ _, (((HL9.out.setCell (p := ⟨w.heap.size, 0, none⟩) (Nat.le_refl _) _).setCell (p := ⟨w.heap.size, 1, none⟩) (Nat.le_refl _) _).setCell (p := ⟨w.heap.size, 2, none⟩) (Nat.le_refl _) _).setCell (p := ⟨w.heap.size, 3, none⟩) (Nat.le_refl _) _⟩
end Go.Proofs.YtokjkligechcoaaGreatDoor
