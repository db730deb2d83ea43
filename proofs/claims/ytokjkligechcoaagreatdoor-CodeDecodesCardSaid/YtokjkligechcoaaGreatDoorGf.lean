/- Walks of layer 16: the program that bytes are. -/
import Derived.Test.YtokjkligechcoaaGreatDoorGj
set_option linter.unusedVariables false
namespace Go.Proofs.YtokjkligechcoaaGreatDoor
open _root_.Go.Lib (hid)
open Go.RowKit
attribute [local go_sem] ext_mk size_mk toList_mk get_mk take_drop_len take_tail_len ByteArray.mk_append_mk List.append_toArray
theorem dc_start {w w1 : World} {sl : Value} {j : Nat} {b' : Bool} (en : Int) (h : BxAt ((w.alloc rzBlk).alloc (rdBlk sl 0 false)) w1 (w.heap.size + 1) (rdBlk sl j b')) :
  DcAt w (w1.alloc (pgBlk (.slice none 0 0) (.slice none 0 0) (.slice none 0 0) en)) w1.heap.size sl j b' (.slice none 0 0) (.slice none 0 0) (.slice none 0 0) en := by
 have hz : (w.alloc rzBlk).heap.size = w.heap.size + 1 := by simp
 have hb0 : Below w.heap.size w ((w.alloc rzBlk).alloc (rdBlk sl 0 false)) := ((Below.refl _ _).alloc (Nat.le_refl _) _).alloc (by simp) _
 have kr : KAt ((w.alloc rzBlk).alloc (rdBlk sl 0 false)) w.heap.size rzBlk := (KAt.new w rzBlk).alloc _
 have hl := heap_lt h.k.x
 have hA : Below w1.heap.size w1 (w1.alloc (pgBlk (.slice none 0 0) (.slice none 0 0) (.slice none 0 0) en)) := (Below.refl _ _).alloc (Nat.le_refl _) _
 have hbe := h.be.mono (Nat.le_succ w.heap.size)
 exact ⟨(hb0.trans hbe).trans (hA.mono (by omega)), (h.blk kr (by omega)).below hA, h.k.below hA, KAt.new _ _, hl⟩
theorem listL_all {α : Type} {rd : Nat → Bool → α × Nat × Bool} {P : α → Prop} (h : ∀ i b, P (rd i b).1) : ∀ n i b, ∀ x ∈ (listL rd n i b).1, P x := by
 intro n
 induction n with
 | zero => intro i b x hx; simp [listL_zero] at hx
 | succ n ih =>
  intro i b x hx
  cases b with
  | true => rw [listL_bad] at hx; simp at hx
  | false =>
   rw [listL_succ] at hx
   rcases List.mem_cons.1 hx with rfl | hx
   ·exact h _ _
   ·exact ih _ _ x hx
theorem strL_len (l : List UInt8) (i : Nat) (b : Bool) : (strL l i b).1.length ≤ l.length := by
 unfold strL
 simp
 omega
theorem sub_bys {W : World} {g off j c : Nat} {l : List UInt8} (h : BysAt W (some ⟨g, off, none⟩) l) (hj : j + c ≤ l.length) (cap : Nat) : Sem.run Tryz.prog (convert 40 9 (.slice (some ⟨g, off + j, none⟩) c cap)) W = .ok (.string ⟨((l.drop j).take c).toArray⟩) W := by
 have hl : ((l.drop j).take c).length = c := by simp; omega
 have := conv_bys (l := (l.drop j).take c) cap ((h.drop (by omega)).take2 c).new2
 rw [hl] at this
 exact this
theorem sub_nil {W : World} {g off : Nat} (cap : Nat) : Sem.run Tryz.prog (convert 40 9 (.slice (some ⟨g, off, none⟩) 0 cap)) W = .ok (.string ⟨#[]⟩) W := by
 refine conv_bys (W := W) (g := g) (off := off) (l := []) cap ?_
 intro j u hu
 simp [Lib.byteCells] at hu
set_option maxHeartbeats 4000000 in
set_option maxRecDepth 8000 in
theorem decode_fit (a : Option Addr) (l : List UInt8) (cap : Nat) (w : World) (hB : BysAt w a l) (hc : l.length ≤ cap) (hl : l.length ≤ 16777216) :
  Calls Tryz.prog 23 #[.slice a l.length cap] w fun x w' => ∃ fa fc sa sc ra rc, x = .returned (.tuple #[.agg #[.slice fa (decodeL l).1.fs.length fc, .slice sa (decodeL l).1.ss.length sc, .slice ra (decodeL l).1.us.length rc, .int .i64 (decodeL l).1.en], .int .i64 (decodeL l).2]) ∧ PgK (KUp w.heap.size) w' fa sa ra (decodeL l).1 ∧ Below w.heap.size w w' := by
 obtain ⟨W0, hW0⟩ : ∃ W, (w.alloc rzBlk).alloc (rdBlk (.slice a l.length cap) 0 false) = W := ⟨_, rfl⟩
 have kd : KAt W0 (w.heap.size + 1) (rdBlk (.slice a l.length cap) 0 false) := by
  rw [← hW0, show w.heap.size + 1 = (w.alloc rzBlk).heap.size by simp]; exact KAt.new _ _
 have hb0 : Below w.heap.size w W0 := by rw [← hW0]; exact ((Below.refl _ _).alloc (Nat.le_refl _) _).alloc (by simp) _
 have CS := hid (fun i b W (h1 : KAt W (w.heap.size + 1) (rdBlk (.slice a l.length cap) i b)) (h2 : Below w.heap.size w W) h3 => small_rd (w.heap.size + 1) a l cap i b w W h1 hB (Nat.le_succ _) h2 h3)
 have CC := hid (fun d hd i b W (h1 : KAt W (w.heap.size + 1) (rdBlk (.slice a l.length cap) i b)) (h2 : Below w.heap.size w W) h3 => count_rd (w.heap.size + 1) a l cap i b w W h1 hB (Nat.le_succ _) h2 h3 d hd)
 have CI := hid (fun i b W (h1 : KAt W (w.heap.size + 1) (rdBlk (.slice a l.length cap) i b)) (h2 : Below w.heap.size w W) h3 => insn_rd (w.heap.size + 1) a l cap i b w W h1 hB (Nat.le_succ _) h2 h3 hl)
 have DS := hid (fun w1 j b' en (h : BxAt W0 w1 (w.heap.size + 1) (rdBlk (.slice a l.length cap) j b')) => dc_start (w := w) (w1 := w1) (j := j) (b' := b') en (by rw [hW0]; exact h))
 have KD := hid kd
 have HB := hid hB
 have HB0 := hid hb0
 have HC := hid hc
 have HLE := hid hl
 have g0 : decide ((16777216 : Int) < (l.length : Int)) = false := decide_eq_false (by omega)
 change (w.alloc (.cells #[.slice none 0 0, .slice none 0 0, .slice none 0 0, .int .i64 0] 26)).alloc (.cells #[.slice a l.length cap, .int .i64 0, .bool false] 108) = W0 at hW0
 obtain ⟨en, hen⟩ : ∃ s, smallI l 0 false = s := ⟨_, rfl⟩
 obtain ⟨ns, hns⟩ : ∃ s, countL l 1 en.2.1 en.2.2 = s := ⟨_, rfl⟩
 obtain ⟨ST, hST⟩ : ∃ s, listL (strL l) ns.1 ns.2.1 ns.2.2 = s := ⟨_, rfl⟩
 obtain ⟨nr, hnr⟩ : ∃ s, countL l 8 ST.2.1 ST.2.2 = s := ⟨_, rfl⟩
 obtain ⟨UT, hUT⟩ : ∃ s, listL (realL l) nr.1 nr.2.1 nr.2.2 = s := ⟨_, rfl⟩
 obtain ⟨nf, hnf⟩ : ∃ s, countL l 3 UT.2.1 UT.2.2 = s := ⟨_, rfl⟩
 obtain ⟨FT, hFT⟩ : ∃ s, listL (fnL l) nf.1 nf.2.1 nf.2.2 = s := ⟨_, rfl⟩
 have HDP := hid (show decP l = (⟨FT.1, ST.1, UT.1, en.1⟩, FT.2) by rw [← hFT, ← hnf, ← hUT, ← hnr, ← hST, ← hns, ← hen]; rfl)
 have HST := hid hST
 have HNR := hid hnr
 have HUT := hid hUT
 have HNF := hid hnf
 have HFT := hid hFT
 have l0 : en.2.1 ≤ l.length := by rw [← hen]; exact smallI_le l 0 false (Nat.zero_le _)
 have l1 : ns.2.1 ≤ l.length := by rw [← hns]; exact countL_le l _ _ _ l0
 have m1 : ns.1 ≤ l.length := by have := countL_fit l 1 en.2.1 en.2.2; rw [hns] at this; omega
 have C0 := hid (fun W h1 h2 => CS.out 0 false W h1 h2 (Nat.zero_le _))
 have C1 := hid (fun W h1 h2 => CC.out 1 (.inl rfl) en.2.1 en.2.2 W h1 h2 l0)
 have E0 := hid (show ((smallL l 0 false).1 : Int) = en.1 ∧ (smallL l 0 false).2 = en.2 by rw [← hen]; exact ⟨rfl, rfl⟩)
 rw [E0.out.1, E0.out.2] at C0
 rw [hns] at C1
 clear hST hnr hUT hnf hFT
 clear hen hns hB kd hb0 hl hc E0 l0
 go_enter Tryz.func23, Tryz.ntmps23
 go_wp2_with (first
  | (go_at_call 57; (refine (C0.out _ KD.out HB0.out).mono ?_); rintro e w1 ⟨rfl, h1⟩; have D := hid (DS.out w1 _ _ en.1 h1); clear h1)
  | (go_at_call 58; refine (C1.out _ D.out.b D.out.be).mono ?_; rintro e w2 ⟨rfl, h1⟩; have D2 := hid (D.out.call h1); clear D h1))
 obtain ⟨m, hm⟩ : ∃ m, w1.heap.size = m := ⟨_, rfl⟩
 rw [hm] at D2 ⊢
 have S2 := hid (DoAt.start D2.out 9 1)
 obtain ⟨B1, hB1⟩ : ∃ B, w2.heap.size = B := ⟨_, rfl⟩
 rw [hB1] at S2
 clear D2 hm hB1 C0 C1 DS KD HB0 hW0
 go_loopw [6] (fun v6 wr => ∃ (n i : Nat) (b : Bool) (v : Value) (ss : List (List UInt8)), v6 = .int .i64 (n : Int) ∧ i ≤ l.length ∧ ss.length + n ≤ l.length ∧ DoAt w wr m (.slice a l.length cap) i b (.slice none 0 0) v (.slice none 0 0) en.1 B1 9 1 v ss.length (strC ss) ∧ ST = (ss ++ (listL (strL l) n i b).1, (listL (strL l) n i b).2)) (fun v6 _ => (intOf v6).toNat)
 case atStart => exact ⟨ns.1, ns.2.1, ns.2.2, _, [], rfl, l1, by simpa using m1, S2.out, by rw [← HST.out]; rfl⟩
 case round =>
  clear S2 l1 m1
  obtain ⟨n, i, b, v, ss, rfl, hi, hn, hS, he⟩ := hrel
  have HE := hid he
  have S := hid hS
  obtain ⟨x0, x1, x2, x3, z0, z1, z2, z3⟩ := hS.d.q.pg
  obtain ⟨d0, d1, d2, e1, e2⟩ := hS.d.b.rdcells
  have hmp : ¬ (m = w.heap.size + 1) := by have := hS.d.hm; omega
  have hpm : ¬ (w.heap.size + 1 = m) := by have := hS.d.hm; omega
  clear he
  by_cases hx : n ≠ 0 ∧ b = false
  ·obtain ⟨hn0, rfl⟩ := hx
   obtain ⟨n, rfl⟩ : ∃ k, n = k + 1 := ⟨n - 1, by omega⟩
   have kd : IntKind.i64.wrap (((n + 1 : Nat) : Int) - 1) = (n : Int) := by rw [IntWalk.i64_in _ (by have := HLE.out; omega)]; omega
   have hnb : n ≤ 16777216 := by have := HLE.out; omega
   obtain ⟨c, hcn⟩ : ∃ s, countL l 1 i false = s := ⟨_, rfl⟩
   have lc : c.2.1 ≤ l.length := by rw [← hcn]; exact countL_le l _ _ _ hi
   have lf : c.1 ≤ l.length - c.2.1 := by have := countL_fit l 1 i false; rw [hcn] at this; omega
   have CN := hid (fun W h1 h2 => CC.out 1 (.inl rfl) i false W h1 h2 hi)
   have HE2 := hid (show ST = (ss ++ [(l.drop c.2.1).take c.1] ++ (listL (strL l) n (c.2.1 + c.1) c.2.2).1, (listL (strL l) n (c.2.1 + c.1) c.2.2).2) by
    rw [HE.out, listL_succ]; unfold strL; rw [hcn]; simp)
   rw [hcn] at CN
   obtain ⟨s, j, b'⟩ := c
   dsimp only at lc lf HE2 CN
   obtain ⟨g, off, rfl⟩ : ∃ g off, a = some ⟨g, off, none⟩ := by
    rcases HB.out.2 with h | ⟨b, off, ha, -⟩
    ·subst h; simp at hn
    ·exact ⟨b, off, ha⟩
   have k1 : IntKind.i64.wrap ((j : Int) + (s : Int)) = (j : Int) + (s : Int) := IntWalk.i64_in _ (by have := HLE.out; omega)
   have k2 : j + s ≤ cap := by have := HC.out; omega
   clear hcn hS HE
   go_upto_region 9 with (first | (go_at_call 58; refine (CN.out _ S.out.d.b S.out.d.be).mono ?_; rintro e w3 ⟨rfl, h1⟩; have S3 := hid (S.out.call h1); clear d0 d1 d2 e1 e2 x0 x1 x2 x3 z0 z1 z2 z3; obtain ⟨x0, x1, x2, x3, z0, z1, z2, z3⟩ := S3.out.d.q.pg; obtain ⟨d0, d1, d2, e1, e2⟩ := S3.out.d.b.rdcells; clear S h1))
   obtain ⟨T, hT⟩ : ∃ T, (l.drop j).take s = T := ⟨_, rfl⟩
   rw [hT] at HE2
   have D3 := hid (S3.out.below (Below.refl _ _).drew)
   have y6 : ∀ o, (w3.alloc o).cell? ⟨m, 1, none⟩ = some v := fun o => ((S3.out.below ((Below.refl _ _).alloc (Nat.le_refl _) o)).d.q.pg).2.1
   have y8 : ∀ o, (w3.alloc o).cell? ⟨w.heap.size + 1, 1, none⟩ = some (.int .i64 (j : Int)) := fun o => ((S3.out.below ((Below.refl _ _).alloc (Nat.le_refl _) o)).d.b.rdcells).2.1
   have hB3 : BysAt w3.drew (some ⟨g, off, none⟩) l := D3.out.d.bys HB.out
   have HL3 := hid (And.intro lc lf)
   have HN3 := hid hn
   have hss : ss.length ≤ 100000000 := by have := HLE.out; omega
   have HSS := hid hss
   have q1 : (0 : Int) ≤ (j : Int) + (s : Int) := by omega
   have q2 : (j : Int) + (s : Int) ≤ (cap : Int) := by omega
   have q3 : ((j : Int) + (s : Int)).toNat = j + s := by omega
   have q4 : j ≤ j + s := by omega
   have q5 : j + s - j = s := by omega
   --[[
   rcases Nat.lt_or_ge j cap with hcj | hcj
   ·have hcv := sub_bys hB3 (show j + s ≤ l.length by omega) (cap - j)
    rw [hT] at hcv
    have hcj2 : ¬ (cap = j) := by omega
    have hcj3 : j ≤ cap := by omega
    clear hB3 hn lc lf hT hss
    go_region_law (first
     | (refine step_one (W := w3.drew) (news := [Value.string ⟨T.toArray⟩]) infoStr Tryz.underlying23 rfl (by decide) D3.out.o D3.out.hB rfl _ _ rfl rfl rfl rfl (by intro u hu; simp at hu; subst hu; rfl) HSS.out (by decide) ?_; intro g7 c7 V o7 hb7 kp7; have S4 := hid (D3.out.grown o7 hb7); have z7 := S4.out.d.q.pg.2.2.2.2.2.1; have y7 := S4.out.d.q.pg.2.1; obtain ⟨r0, r1, r2, f1, f2⟩ := S4.out.d.b.rdcells))
    all_goals go_wp2_with fail
    all_goals
     go_roundw
     case rel => exact ⟨n, j + s, b', _, ss ++ [T], rfl, by have := HL3.out; omega, by have := HN3.out; simp; omega, by have := (S4.out.put1 (.slice (some ⟨g7, 0, none⟩) (ss.length + 1) c7)).seek (j + s); simpa [strC] using this, HE2.out⟩
     case measure => simp only [intOf]; omega
   ·obtain rfl : j = cap := by have := HC.out; omega
    obtain rfl : s = 0 := by have := HC.out; omega
    have hcv := sub_nil (W := w3.drew) (g := g) (off := off) 0
    rw [show (#[] : Array UInt8) = T.toArray by rw [← hT]; simp] at hcv
    clear k1
    have k1 : IntKind.i64.wrap (j : Int) = (j : Int) := IntWalk.i64_in _ (by have := HLE.out; omega)
    clear hB3 hn lc lf hT hss q1 q2 q3 q4 q5 hcj
    go_region_law (first
     | (refine step_one (W := w3.drew) (news := [Value.string ⟨T.toArray⟩]) infoStr Tryz.underlying23 rfl (by decide) D3.out.o D3.out.hB rfl _ _ rfl rfl rfl rfl (by intro u hu; simp at hu; subst hu; rfl) HSS.out (by decide) ?_; intro g7 c7 V o7 hb7 kp7; have S4 := hid (D3.out.grown o7 hb7); have z7 := S4.out.d.q.pg.2.2.2.2.2.1; have y7 := S4.out.d.q.pg.2.1; obtain ⟨r0, r1, r2, f1, f2⟩ := S4.out.d.b.rdcells))
    all_goals go_wp2_with fail
    all_goals
     go_roundw
     case rel => exact ⟨n, j, b', _, ss ++ [T], rfl, by have := HL3.out; omega, by have := HN3.out; simp; omega, by have := (S4.out.put1 (.slice (some ⟨g7, 0, none⟩) (ss.length + 1) c7)).seek (j); simpa [strC] using this, HE2.out⟩
     case measure => simp only [intOf]; omega
   --]]
  ·have hE2 : ST = (ss, i, b) := by
    rw [HE.out]
    rcases Nat.eq_zero_or_pos n with h | h
    ·subst h; rw [listL_zero]; simp
    ·have hb : b = true := by cases b <;> simp_all
     rw [hb, listL_bad]; simp
   have kk : ¬ (0 < n) ∨ (0 < n ∧ b = true) := by
    rcases Nat.eq_zero_or_pos n with h | h
    ·left; omega
    ·right; exact ⟨h, by cases b <;> simp_all⟩
   have HSB := hid hS.h
   obtain ⟨sa, sc, rfl, hsc, hSK⟩ := strs_rest (K := KS m) hS.o (fun s hs => by
    have h1 := listL_all (rd := strL l) (P := fun s => s.length ≤ l.length) (fun i b => strL_len l i b) ns.1 ns.2.1 ns.2.2
    rw [HST.out, hE2] at h1
    exact Nat.le_trans (h1 s hs) HB.out.1) (fun b h1 _ => ⟨by have := HSB.out; omega, rfl⟩)
   have SK := hid hSK
   have HDS := hid hS.d
   have l3 : nr.2.1 ≤ l.length := by rw [← HNR.out, hE2]; exact countL_le l _ _ _ hi
   have l4 : nr.1 ≤ (l.length - nr.2.1) / 8 := by have := countL_fit l 8 i b; rw [show countL l 8 i b = nr by rw [← HNR.out, hE2]] at this; exact this
   have C3 := hid (fun W h1 h2 => CC.out 8 (.inr (.inr (.inr rfl))) i b W h1 h2 hi)
   rw [show countL l 8 i b = nr by rw [← HNR.out, hE2]] at C3
   have HE2 := hid hE2
   clear hS S HE hE2 hSK hx hi hn HNR HST hsc
   go_upto_region 6 with (fail)
   go_cut [37] from 29 to 37 (fun v37 wx => v37 = .bool false ∧ wx = wr)
   case first =>
    rcases kk with k0 | ⟨k0, rfl⟩
    all_goals go_wp2_with fail
    all_goals go_meet
    all_goals exact ⟨rfl, rfl⟩
   case rest =>
    obtain ⟨rfl, rfl⟩ := hcut
    go_wp2_with (first
     | (go_at_call 58; refine (C3.out _ HDS.out.b HDS.out.be).mono ?_; rintro e w4 ⟨rfl, h1⟩; have D4 := hid (HDS.out.call h1); have K4 := hid (SK.out.kp (Kp.bx h1 (fun T h => by have := h.1; have := HDS.out.hm; omega))); clear HDS SK h1))
    have S4 := hid (DoAt.start D4.out 45 1)
    obtain ⟨B2, hB2⟩ : ∃ B, w4.heap.size = B := ⟨_, rfl⟩
    rw [hB2] at S4
    clear D4 hB2 C3 x0 x1 x2 x3 z0 z1 z2 z3 d0 d1 d2 e1 e2
    go_loopw [8] (fun v8 wr => ∃ (n i : Nat) (b : Bool) (v : Value) (us : List Int), v8 = .int .i64 (n : Int) ∧ i + 8 * n ≤ l.length ∧ us.length + n ≤ l.length ∧ DoAt w wr m (.slice a l.length cap) i b (.slice none 0 0) (.slice sa ss.length sc) v en.1 B2 45 1 v us.length (u64C us) ∧ StrsK (KS m) wr sa ss ∧ UT = (us ++ (listL (realL l) n i b).1, (listL (realL l) n i b).2)) (fun v8 _ => (intOf v8).toNat)
    case atStart => exact ⟨nr.1, nr.2.1, nr.2.2, _, [], rfl, by omega, by simp; omega, S4.out, K4.out, by rw [← HUT.out]; rfl⟩
    case round =>
     clear S4 K4 l3 l4
     obtain ⟨n, i, b, v, us, rfl, hi, hn, hS, hK, he⟩ := hrel
     have HE := hid he
     have S := hid hS
     have SK := hid hK
     obtain ⟨x0, x1, x2, x3, z0, z1, z2, z3⟩ := hS.d.q.pg
     obtain ⟨d0, d1, d2, e1, e2⟩ := hS.d.b.rdcells
     clear he hK
     by_cases hx : n ≠ 0 ∧ b = false
     ·obtain ⟨hn0, rfl⟩ := hx
      obtain ⟨n, rfl⟩ : ∃ k, n = k + 1 := ⟨n - 1, by omega⟩
      have HE2 := hid (show UT = (us ++ [((wordL l i 8 : Nat) : Int)] ++ (listL (realL l) n (i + 8) false).1, (listL (realL l) n (i + 8) false).2) by
       rw [HE.out, listL_succ]; unfold realL; simp)
      obtain ⟨g, off, rfl⟩ : ∃ g off, a = some ⟨g, off, none⟩ := by
       rcases HB.out.2 with h | ⟨b, off, ha, -⟩
       ·subst h; simp at hn
       ·exact ⟨b, off, ha⟩
      have hnb : n ≤ 16777216 := by have := HLE.out; omega
      have hlb : l.length ≤ 16777216 := HLE.out
      clear hS HE
      --[[
      go_wp2_with fail
      obtain ⟨W5, hW5⟩ : ∃ W, W = wr := ⟨_, rfl⟩
      subst hW5
      go_loopw [9, 81] (fun v9 v81 wx => ∃ k : Nat, k ≤ 8 ∧ v9 = .int .u64 ((wordL l i k : Nat) : Int) ∧ v81 = .int .i64 (k : Int) ∧ wx = W5) (fun _ v81 _ => 8 - (intOf v81).toNat)
      case atStart => exact ⟨0, by omega, rfl, rfl, rfl⟩
      case round =>
       obtain ⟨k, hk, rfl, rfl, rfl⟩ := hrel
       by_cases hk8 : k < 8
       ·have b0 : wr.cell? ⟨g, off + (i + k), none⟩ = some (.int .u8 ((l.getD (i + k) 0).toNat : Int)) := by
         obtain ⟨b', off', h1, h2⟩ := bys_get (S.out.d.bys HB.out) (show i + k < l.length by omega)
         cases h1
         exact h2
        obtain ⟨cc, hcc⟩ : ∃ cc, (l.getD (i + k) 0).toNat = cc := ⟨_, rfl⟩
        have hc256 : cc < 256 := by rw [← hcc]; exact (l.getD (i + k) 0).toNat_lt
        have hq := wordL_lt l i k
        have hu : wordL l i (k + 1) = wordL l i k + cc * 2 ^ (8 * k) := by rw [← hcc]; rfl
        rw [hcc] at b0
        obtain ⟨u, hu0⟩ : ∃ u, wordL l i k = u := ⟨_, rfl⟩
        rw [hu0] at hq hu ⊢
        have HU := hid hu
        have q1 : ((i : Int) + (k : Int)).toNat = i + k := by omega
        have q2 : (i : Int) + (k : Int) < (l.length : Int) := by omega
        have q3 : ((8 : Int) * (k : Int)).toNat = 8 * k := by omega
        clear hu0 hcc hu
        have HV := hid (or_word u cc k hq hc256 hk8)
        clear hq
        go_wp2_with fail
        go_roundw
        case rel => exact ⟨k + 1, by omega, congrArg (fun z => Value.int .u64 z) (by rw [HU.out]; exact HV.out), by first | exact ⟨rfl, rfl⟩ | exact ⟨rfl, trivial⟩ | exact ⟨trivial, rfl⟩ | exact ⟨trivial, trivial⟩ | trivial⟩
        case measure => simp only [intOf]; omega
       ·obtain rfl : k = 8 := by omega
        obtain ⟨u, hu⟩ : ∃ u, wordL l i 8 = u := ⟨_, rfl⟩
        rw [hu] at HE2 ⊢
        have S5 := hid (S.out.seek (i + 8))
        have hsz : (wr.setCell ⟨w.heap.size + 1, 1, none⟩ (.int .i64 ((i : Int) + 8))).heap.size = wr.heap.size := by simp [World.setCell]
        obtain ⟨x0, x1, x2, x3, z0, z1, z2, z3⟩ := S5.out.d.q.pg
        have HSZ := hid hsz
        clear hsz
        have hus : us.length ≤ 100000000 := by omega
        have HUS := hid hus
        have KP5 := hid (Kp.set2 (K := KS m) S.out.d.b (fun h => by have := h.1; have := S.out.d.hm; omega) 1 (.int .i64 ((i + 8 : Nat) : Int)))
        have HN3 := hid (And.intro hi hn)
        have hib : i ≤ l.length := by omega
        clear hk hk8 hu hi hn hus
        go_wp2_with (first
         | (at_builtin; (refine wp_one (W := wr.setCell ⟨w.heap.size + 1, 1, none⟩ (.int .i64 ((i : Int) + 8))) (news := [Value.int .u64 (u : Int)]) infoU64 Tryz.underlying24 rfl (by decide) S5.out.o S5.out.hB rfl _ _ rfl rfl _ HSZ.out rfl rfl (by intro u hu; simp at hu; subst hu; rfl) HUS.out (by decide) ?_); (intro g7 c7 V o7 hb7 kp7; have S6 := hid (S5.out.grown o7 hb7); have KP7 := hid (kp7 (KS m) (fun b _ h => absurd h.2 (by decide))); clear x0 x1 x2 x3 z0 z1 z2 z3; obtain ⟨x0, x1, x2, x3, z0, z1, z2, z3⟩ := S6.out.d.q.pg)))
        go_roundw
        case rel =>
         have hi := HN3.out.1
         have hn := HN3.out.2
         exact ⟨n, i + 8, false, _, us ++ [(u : Int)], rfl, by omega, by simp; omega, by have := S6.out.put2 (.slice (some ⟨g7, 0, none⟩) (us.length + 1) c7); simpa [u64C] using this, ((SK.out.kp KP5.out).kp KP7.out).kp (Kp.set2 S6.out.d.q (fun h => absurd h.1 (Nat.lt_irrefl _)) 2 _), HE2.out⟩
        case measure => simp only [intOf]; omega
      --]]
     ·have hE2 : UT = (us, i, b) := by
       rw [HE.out]
       rcases Nat.eq_zero_or_pos n with h | h
       ·subst h; rw [listL_zero]; simp
       ·have hb : b = true := by cases b <;> simp_all
        rw [hb, listL_bad]; simp
      have kk : ¬ (0 < n) ∨ (0 < n ∧ b = true) := by
       rcases Nat.eq_zero_or_pos n with h | h
       ·left; omega
       ·right; exact ⟨h, by cases b <;> simp_all⟩
      have hi' : i ≤ l.length := by omega
      have HSB2 := hid hS.h
      obtain ⟨ra, rc, rfl, hrc, hRK⟩ := u64s_rest (K := KO m) hS.o (fun b h1 _ => ⟨by have := HSB2.out; omega, .inr (.inr (.inr rfl))⟩)
      have RS := hid (show RsT (KO m) wr [] [] sa ss ra us from ⟨FnsV.nil _ _, SK.out.wk (fun b _ h => ⟨h.1, .inr (.inr (.inl rfl))⟩), hRK⟩)
      have HDS := hid hS.d
      have l5 : nf.2.1 ≤ l.length := by rw [← HNF.out, hE2]; exact countL_le l _ _ _ hi'
      have l6 : nf.1 ≤ l.length := by have := countL_fit l 3 i b; rw [show countL l 3 i b = nf by rw [← HNF.out, hE2]] at this; omega
      have C4 := hid (fun W h1 h2 => CC.out 3 (.inr (.inl rfl)) i b W h1 h2 hi')
      rw [show countL l 3 i b = nf by rw [← HNF.out, hE2]] at C4
      have HUE := hid hE2
      have HUT2 := hid HUT.out
      clear hS S SK HE hE2 hRK hx hi hi' hn HNF HUT hrc
      go_upto_region 12 with (fail)
      go_cut [78] from 70 to 78 (fun v78 wx => v78 = .bool false ∧ wx = wr)
      case first =>
       rcases kk with k0 | ⟨k0, rfl⟩
       all_goals go_wp2_with fail
       all_goals go_meet
       all_goals exact ⟨rfl, rfl⟩
      case rest =>
       obtain ⟨rfl, rfl⟩ := hcut
       clear kk
       go_wp2_with (first
        | (go_at_call 58; refine (C4.out _ HDS.out.b HDS.out.be).mono ?_; rintro e w5 ⟨rfl, h1⟩; have D5 := hid (HDS.out.call h1); have R5 := hid (RS.out.kp (Kp.bx h1 (fun T h => by have := h.1; have := HDS.out.hm; omega))); clear HDS RS h1))
       have S5 := hid (DoAt.start D5.out 48 3)
       obtain ⟨B3, hB3⟩ : ∃ B, w5.heap.size = B := ⟨_, rfl⟩
       rw [hB3] at S5
       clear D5 hB3 C4 x0 x1 x2 x3 z0 z1 z2 z3 d0 d1 d2 e1 e2
       go_loopw [11] (fun v11 wr => ∃ (n i : Nat) (b : Bool) (v : Value) (fs : List Fu) (xs : List Value), v11 = .int .i64 (n : Int) ∧ i ≤ l.length ∧ fs.length + n ≤ l.length ∧ DoAt w wr m (.slice a l.length cap) i b v (.slice sa ss.length sc) (.slice ra us.length rc) en.1 B3 48 3 v fs.length xs ∧ RsT (KO m) wr fs xs sa ss ra us ∧ FT = (fs ++ (listL (fnL l) n i b).1, (listL (fnL l) n i b).2)) (fun v11 _ => (intOf v11).toNat)
       case atStart => exact ⟨nf.1, nf.2.1, nf.2.2, _, [], [], rfl, l5, by simpa using l6, S5.out, R5.out, by rw [← HFT.out]; rfl⟩
       case round =>
        clear S5 R5 l5 l6
        obtain ⟨n, i, b, v, fs, xs, rfl, hi, hn, hS, hR, he⟩ := hrel
        have HE := hid he
        have S := hid hS
        have RS := hid hR
        obtain ⟨x0, x1, x2, x3, z0, z1, z2, z3⟩ := hS.d.q.pg
        obtain ⟨d0, d1, d2, e1, e2⟩ := hS.d.b.rdcells
        clear he hR
        by_cases hx : n ≠ 0 ∧ b = false
        ·obtain ⟨hn0, rfl⟩ := hx
         obtain ⟨n, rfl⟩ : ∃ k, n = k + 1 := ⟨n - 1, by omega⟩
         obtain ⟨fp, hfp⟩ : ∃ s, smallI l i false = s := ⟨_, rfl⟩
         obtain ⟨fr, hfr⟩ : ∃ s, smallI l fp.2.1 fp.2.2 = s := ⟨_, rfl⟩
         obtain ⟨nc, hnc⟩ : ∃ s, countL l 6 fr.2.1 fr.2.2 = s := ⟨_, rfl⟩
         obtain ⟨CT, hCT⟩ : ∃ s, listL (insnL l) nc.1 nc.2.1 nc.2.2 = s := ⟨_, rfl⟩
         have l1 : fp.2.1 ≤ l.length := by rw [← hfp]; exact smallI_le l _ _ hi
         have l2 : fr.2.1 ≤ l.length := by rw [← hfr]; exact smallI_le l _ _ l1
         have l3 : nc.2.1 ≤ l.length := by rw [← hnc]; exact countL_le l _ _ _ l2
         have l4 : nc.1 ≤ l.length := by have := countL_fit l 6 fr.2.1 fr.2.2; rw [hnc] at this; omega
         have HE2 := hid (show FT = (fs ++ [⟨fp.1, fr.1, CT.1⟩] ++ (listL (fnL l) n CT.2.1 CT.2.2).1, (listL (fnL l) n CT.2.1 CT.2.2).2) by
          rw [HE.out, listL_succ]
          have : fnL l i false = (⟨fp.1, fr.1, CT.1⟩, CT.2) := by unfold fnL; simp only [hfp, hfr, hnc, hCT]
          rw [this]; simp)
         have E0 := hid (show ((smallL l i false).1 : Int) = fp.1 ∧ (smallL l i false).2 = fp.2 by rw [← hfp]; exact ⟨rfl, rfl⟩)
         have E1 := hid (show ((smallL l fp.2.1 fp.2.2).1 : Int) = fr.1 ∧ (smallL l fp.2.1 fp.2.2).2 = fr.2 by rw [← hfr]; exact ⟨rfl, rfl⟩)
         have F0 := hid (fun W h1 h2 => CS.out i false W h1 h2 hi)
         have F1 := hid (fun W h1 h2 => CS.out fp.2.1 fp.2.2 W h1 h2 l1)
         have F2 := hid (fun W h1 h2 => CC.out 6 (.inr (.inr (.inl rfl))) fr.2.1 fr.2.2 W h1 h2 l2)
         rw [E0.out.1, E0.out.2] at F0
         rw [E1.out.1, E1.out.2] at F1
         rw [hnc] at F2
         have HCT := hid hCT
         have hnb : n ≤ 16777216 := by have := HLE.out; omega
         have HN3 := hid hn
         clear hfp hfr hnc hCT hS HE E0 E1 hn
         --[[
         go_wp2_with (first
          | (go_at_call 57; (with_reducible refine (F0.out _ S.out.d.b S.out.d.be).mono ?_); rintro e w6 ⟨rfl, h1⟩; have S1 := hid (S.out.call h1); have R1 := hid (RS.out.kp (Kp.bx h1 (fun T h => by have := h.1; have := S.out.d.hm; omega))); clear S RS h1)
          | (go_at_call 57; (with_reducible refine (F1.out _ S1.out.d.b S1.out.d.be).mono ?_); rintro e w7 ⟨rfl, h1⟩; have S2 := hid (S1.out.call h1); have R2 := hid (R1.out.kp (Kp.bx h1 (fun T h => by have := h.1; have := S1.out.d.hm; omega))); have A := hid (DfAt.start S2.out R2.out fp.1 fr.1); clear S1 S2 R1 R2 h1)
          | (go_at_call 58; refine (F2.out _ A.out.d.b A.out.d.be).mono ?_; rintro e w8 ⟨rfl, h1⟩; have A8 := hid (A.out.call h1); clear A h1))
         obtain ⟨fb, hfb⟩ : ∃ fb, w7.heap.size = fb := ⟨_, rfl⟩
         rw [hfb] at A8 ⊢
         clear hfb x0 x1 x2 x3 z0 z1 z2 z3 d0 d1 d2 e1 e2 F0 F1 F2
         go_loopw [13] (fun v13 wr => ∃ (n i : Nat) (b : Bool) (vc : Value) (code : List In) (ys : List Value), v13 = .int .i64 (n : Int) ∧ i ≤ l.length ∧ code.length + n ≤ l.length ∧ DfAt w wr m (.slice a l.length cap) i b (.slice sa ss.length sc) (.slice ra us.length rc) en.1 B3 v fs xs sa ss ra us fb fp.1 fr.1 vc code ys ∧ CT = (code ++ (listL (insnL l) n i b).1, (listL (insnL l) n i b).2)) (fun v13 _ => (intOf v13).toNat)
         case atStart => exact ⟨nc.1, nc.2.1, nc.2.2, _, [], [], rfl, l3, by simpa using l4, A8.out, by rw [← HCT.out]; rfl⟩
         case round =>
          clear A8 l1 l2 l3 l4
          obtain ⟨N, i, b, vc, code, ys, rfl, hi, hn, hA, he⟩ := hrel
          have HE := hid he
          have A := hid hA
          obtain ⟨x0, x1, x2, z2⟩ := hA.f.fb
          obtain ⟨d0, d1, d2, e1, e2⟩ := hA.d.b.rdcells
          clear he
          by_cases hx : N ≠ 0 ∧ b = false
          ·obtain ⟨hn0, rfl⟩ := hx
           obtain ⟨N, rfl⟩ : ∃ k, N = k + 1 := ⟨N - 1, by omega⟩
           obtain ⟨rr, hrr⟩ : ∃ s, insnL l i false = s := ⟨_, rfl⟩
           have lr : rr.2.1 ≤ l.length := by rw [← hrr]; exact insnL_le l _ _ hi
           have HE3 := hid (show CT = (code ++ [rr.1] ++ (listL (insnL l) N rr.2.1 rr.2.2).1, (listL (insnL l) N rr.2.1 rr.2.2).2) by
            rw [HE.out, listL_succ, hrr]; simp)
           have CN := hid (fun W h1 h2 => CI.out i false W h1 h2 hi)
           rw [hrr] at CN
           have hNb : N ≤ 16777216 := by have := HLE.out; omega
           have HCL := hid (show code.length ≤ 100000000 by have := HLE.out; omega)
           have HN4 := hid hn
           have HFB := hid (heap_lt hA.f.x)
           clear hrr hA HE hn
           go_upto_region 29 with (fail)
           go_region_law (first
            | (go_simp; go_at_call 59; refine (CN.out _ (A.out.below (Below.refl _ _).drew).d.b (A.out.below (Below.refl _ _).drew).d.be).mono ?_; rintro e w9 ⟨la, lc, va, vc', rfl, h1, h2, h3⟩; have A1 := hid ((A.out.below (Below.refl _ _).drew).call h1); have y5 := A1.out.f.fb.2.2.1; have y6 : ∀ o, (w9.alloc o).cell? ⟨fb, 2, none⟩ = some vc := fun o => (A1.out.below ((Below.refl _ _).alloc (Nat.le_refl _) o)).f.fb.2.2.1; have HI := hid (And.intro h2 h3); have HB9 := hid (heap_lt A1.out.f.x); clear h1 h2 h3)
            | (refine step_one (W := w9) (news := [.int .i64 rr.1.op, .int .i64 rr.1.a, .int .i64 rr.1.b, .int .i64 rr.1.c, .slice la rr.1.l.length lc, .slice va rr.1.lv.length vc']) infoInsn Tryz.underlying46 rfl (by decide) A1.out.o HB9.out rfl _ _ rfl rfl rfl rfl (by intro u hu; simp at hu; rcases hu with rfl | rfl | rfl | rfl | rfl | rfl <;> rfl) HCL.out (by decide) ?_; intro g7 c7 V o7 hb7 kp7; have O7 := hid o7; have B7 := hid hb7; have K7 := hid kp7; have F7 := (show KAt V fb (fbBlk fp.1 fr.1 vc) from ⟨by rw [hb7.block fb (Nat.lt_succ_self _)]; exact A1.out.f.x⟩); have y7 := F7.fb.2.2.1; have z7 := F7.fb.2.2.2; clear F7 o7 hb7 kp7))
           all_goals go_wp2_with fail
           all_goals
            go_roundw
            case rel =>
             have hmB := A1.out.hm
             have hBf := A1.out.hB
             have hfw := HFB.out
             have hk9 : ∀ b, wr.heap.size ≤ b → b < w9.heap.size → KI m fb b 3 := fun b h1 _ => ⟨by omega, by omega, .inl rfl⟩
             have hK := K7.out (KI m fb) (fun b hb h => by
              rcases h.2.2 with q | q | q | q
              ·exact absurd q (by decide)
              ·exact absurd q (by decide)
              ·exact absurd q (by decide)
              ·have := q.2; omega)
             have A2 := A1.out.app O7.out B7.out hK rfl (x := rr.1) ⟨la, lc, va, vc', rfl, rfl, rfl, rfl, rfl, rfl, (HI.out.1.rest hk9).kp hK, (HI.out.2.rest hk9).kp hK⟩
             exact ⟨N, rr.2.1, rr.2.2, _, code ++ [rr.1], _, rfl, lr, by have := HN4.out; simp; omega, A2, HE3.out⟩
            case measure => simp only [intOf]; omega
          ·have hE2 : CT = (code, i, b) := by
            rw [HE.out]
            rcases Nat.eq_zero_or_pos N with h | h
            ·subst h; rw [listL_zero]; simp
            ·have hb : b = true := by cases b <;> simp_all
             rw [hb, listL_bad]; simp
           have kk : ¬ (0 < N) ∨ (0 < N ∧ b = true) := by
            rcases Nat.eq_zero_or_pos N with h | h
            ·left; omega
            ·right; exact ⟨h, by cases b <;> simp_all⟩
           have HE4 := hid hE2
           have HI2 := hid hi
           obtain ⟨s0, s1, s2, s3, q0, q1, q2, q3⟩ := hA.d.q.pg
           obtain ⟨ca, cc, rfl, -, -⟩ := own_form hA.o
           have HFL := hid (show fs.length ≤ 100000000 by have := HLE.out; have := HN3.out; omega)
           clear hA hE2 HE hx hi hn
           go_upto_region 27 with (fail)
           go_cut [141] from 133 to 141 (fun v141 wx => v141 = .bool false ∧ wx = wr)
           case first =>
            rcases kk with k0 | ⟨k0, rfl⟩
            all_goals go_wp2_with fail
            all_goals go_meet
            all_goals exact ⟨rfl, rfl⟩
           case rest =>
            obtain ⟨rfl, rfl⟩ := hcut
            clear kk
            go_wp2_with (first
             | (at_builtin; (refine wp_one (W := wc) (news := [.int .i64 fp.1, .int .i64 fr.1, .slice ca code.length cc]) infoFunc Tryz.underlying22 rfl (by decide) A.out.out.o A.out.out.hB rfl _ _ rfl rfl _ rfl rfl rfl (by intro u hu; simp at hu; rcases hu with rfl | rfl | rfl <;> rfl) HFL.out (by decide) ?_); (intro g7 c7 V o7 hb7 kp7; have S6 := hid (A.out.out.grown o7 hb7); have KP7 := hid (kp7 (KO m) (fun b _ h => absurd h.2 (by decide))); clear s0 s1 s2 s3 q0 q1 q2 q3; obtain ⟨s0, s1, s2, s3, q0, q1, q2, q3⟩ := S6.out.d.q.pg)))
            go_roundw
            case rel =>
             have hf := (A.out.fn.kp KP7.out)
             have hR := ((A.out.rest.kp KP7.out))
             have hR2 : RsT (KO m) V (fs ++ [⟨fp.1, fr.1, code⟩]) (xs ++ [.int .i64 fp.1, .int .i64 fr.1, .slice ca code.length cc]) sa ss ra us := ⟨hR.f.snoc rfl hf, hR.s, hR.u⟩
             refine ⟨n, i, b, .slice (some ⟨g7, 0, none⟩) (fs.length + 1) c7, fs ++ [⟨fp.1, fr.1, code⟩], _, rfl, HI2.out, by have := HN3.out; simp; omega, ?_, hR2.kp (Kp.set2 S6.out.d.q (fun h => absurd h.1 (Nat.lt_irrefl _)) 0 _), ?_⟩
             ·have := S6.out.put0 (.slice (some ⟨g7, 0, none⟩) (fs.length + 1) c7)
              simpa using this
             ·rw [HE2.out, HE4.out]
            case measure => simp only [intOf]; omega
         --]]
        ·have hE2 : FT = (fs, i, b) := by
          rw [HE.out]
          rcases Nat.eq_zero_or_pos n with h | h
          ·subst h; rw [listL_zero]; simp
          ·have hb : b = true := by cases b <;> simp_all
           rw [hb, listL_bad]; simp
         have kk : ¬ (0 < n) ∨ (0 < n ∧ b = true) := by
          rcases Nat.eq_zero_or_pos n with h | h
          ·left; omega
          ·right; exact ⟨h, by cases b <;> simp_all⟩
         obtain ⟨fa, fc, rfl, -, -⟩ := own_form hS.o
         have hus : ∀ u ∈ us, 0 ≤ u ∧ u < 18446744073709551616 := by
          have h1 := listL_all (rd := realL l) (P := fun u => 0 ≤ u ∧ u < 18446744073709551616) (fun i b => by have := wordL_lt l i 8; unfold realL; dsimp only; constructor <;> omega) nr.1 nr.2.1 nr.2.2
          rw [HUT2.out, HUE.out] at h1
          exact h1
         have HUS := hid hus
         have CK := hid (fun W h => check_any fa sa ra fc sc rc ⟨fs, ss, us, en.1⟩ W h)
         have HDL := hid (show decodeL l = if b = true ∨ i ≠ l.length ∨ (checkL ⟨fs, ss, us, en.1⟩).2.2 ≠ 0 then (pg0, 163) else (⟨fs, ss, us, en.1⟩, 0) by
          unfold decodeL
          rw [if_neg (by have := HLE.out; omega), HDP.out, hE2, HUE.out, HE2.out])
         clear hE2 HE hx hi hn hS hus
         go_upto_region 23 with (fail)
         go_cut [123] from 115 to 123 (fun v123 wx => v123 = .bool false ∧ wx = wr)
         case first =>
          rcases kk with k0 | ⟨k0, rfl⟩
          all_goals go_wp2_with fail
          all_goals go_meet
          all_goals exact ⟨rfl, rfl⟩
         case rest =>
          obtain ⟨rfl, rfl⟩ := hcut
          clear kk
          obtain ⟨ck, hck⟩ : ∃ t, checkL ⟨fs, ss, us, en.1⟩ = t := ⟨_, rfl⟩
          rw [hck] at CK HDL
          obtain ⟨c1, c2, c3⟩ := ck
          clear hck
          go_upto_region 32 with (first
           | (go_at_call 11; refine (CK.out _ (pg_rest S.out.o RS.out HUS.out en.1)).mono ?_; rintro e w9 ⟨rfl, hb9⟩; have S9 := hid (S.out.below hb9); have R9 := hid (RS.out.kp (Kp.below hb9)); clear x0 x1 x2 x3 z0 z1 z2 z3 d0 d1 d2 e1 e2 hb9; obtain ⟨d0, d1, d2, e1, e2⟩ := S9.out.d.b.rdcells; obtain ⟨r0, r1, r2, r3, y0, y1, y2, y3⟩ := S9.out.d.r.zcells; obtain ⟨x0, x1, x2, x3, -, -, -, -⟩ := S9.out.d.q.pg))
          have hi' : (Tryz.prog.info? 26).map (·.size) = some 4 := by kernel_rfl
          have HL9 := hid S9.out.d.be
          by_cases hbad : b = true ∨ i ≠ l.length ∨ c3 ≠ 0
          ·have HDZ := hid (HDL.out.trans (if_pos hbad))
           have kb : b = true ∨ (b = false ∧ ((i : Int) == (l.length : Int)) = false) ∨ (b = false ∧ ((i : Int) == (l.length : Int)) = true ∧ (c3 == 0) = false) := by
            cases b
            ·right
             by_cases h : i = l.length
             ·right; exact ⟨rfl, by rw [beq_iff_eq]; omega, by rw [beq_eq_false_iff_ne]; intro q; rcases hbad with h1 | h1 | h1; exact absurd h1 (by decide); exact h1 h; exact h1 q⟩
             ·left; exact ⟨rfl, by rw [beq_eq_false_iff_ne]; omega⟩
            ·left; rfl
           clear hbad
           go_cut [179] from 163 to 179 (fun v179 wx => v179 = .bool true ∧ wx = w9)
           case first =>
            rcases kb with rfl | ⟨rfl, k1⟩ | ⟨rfl, k1, k2⟩
            ·go_wp2_with fail
             go_meet
             exact ⟨rfl, rfl⟩
            ·have k3 : ((i : Int) != (l.length : Int)) = true := by rw [bne, k1]; rfl
             go_wp2_with fail
             go_meet
             exact ⟨rfl, rfl⟩
            ·have k3 : ((i : Int) != (l.length : Int)) = false := by rw [bne, k1]; rfl
             have k4 : (c3 != 0) = true := by rw [bne, k2]; rfl
             go_wp2_with fail
             go_meet
             exact ⟨rfl, rfl⟩
           case rest =>
            obtain ⟨rfl, rfl⟩ := hcut
            clear kb
            go_wp2_with fail
            (try simp only [Exit.inBlock, Exit.then]); refine bodyPost_ret (results_cell2 rfl _ _ w.heap.size 26 _ (0, 0) _ rfl (p_set S9.out.d.r _ _ _ _) Tryz.underlying26 rfl hi') rfl ?_
            rw [HDZ.out]
            exact ⟨none, 0, none, 0, none, 0, rfl, pg0_at _ _, (((HL9.out.setCell (p := ⟨w.heap.size, 0, none⟩) (Nat.le_refl _) _).setCell (p := ⟨w.heap.size, 1, none⟩) (Nat.le_refl _) _).setCell (p := ⟨w.heap.size, 2, none⟩) (Nat.le_refl _) _).setCell (p := ⟨w.heap.size, 3, none⟩) (Nat.le_refl _) _⟩
          ·have HDZ := hid (HDL.out.trans (if_neg hbad))
           have hb : b = false := by cases b; rfl; exact absurd (Or.inl rfl) hbad
           have k1 : ((i : Int) == (l.length : Int)) = true := by rw [beq_iff_eq]; exact congrArg _ (Classical.byContradiction fun q => hbad (Or.inr (Or.inl q)))
           have k2 : (c3 == 0) = true := by rw [beq_iff_eq]; exact Classical.byContradiction fun q => hbad (Or.inr (Or.inr q))
           subst hb
           have k3 : ((i : Int) != (l.length : Int)) = false := by rw [bne, k1]; rfl
           have k4 : (c3 != 0) = false := by rw [bne, k2]; rfl
           clear hbad
           go_cut [179] from 163 to 179 (fun v179 wx => v179 = .bool false ∧ wx = w9)
           case first =>
            go_wp2_with fail
            go_meet
            exact ⟨rfl, rfl⟩
           case rest =>
            obtain ⟨rfl, rfl⟩ := hcut
            have hm1 := S9.out.h
            have hm2 := S9.out.d.hm
            go_wp2_with fail
            (try simp only [Exit.inBlock, Exit.then]); refine bodyPost_ret (results_cell2 rfl _ _ w.heap.size 26 _ (0, 0) _ rfl (p_set S9.out.d.r _ _ _ _) Tryz.underlying26 rfl hi') rfl ?_
            rw [HDZ.out]
            exact ⟨fa, fc, sa, sc, ra, rc, rfl, pg_put4 S9.out.o R9.out (by omega) hm1 HUS.out en.1 _ _ _ _, (((HL9.out.setCell (p := ⟨w.heap.size, 0, none⟩) (Nat.le_refl _) _).setCell (p := ⟨w.heap.size, 1, none⟩) (Nat.le_refl _) _).setCell (p := ⟨w.heap.size, 2, none⟩) (Nat.le_refl _) _).setCell (p := ⟨w.heap.size, 3, none⟩) (Nat.le_refl _) _⟩
end Go.Proofs.YtokjkligechcoaaGreatDoor
