/- Walks of layer 16: the text of a program of three instructions. -/
import Derived.Test.YtokjkligechcoaaGreatDoorKr
set_option linter.unusedVariables false
namespace Go.Proofs.YtokjkligechcoaaGreatDoor
open _root_.Go.Lib (hid)
open Go.RowKit
attribute [local go_sem] ext_mk size_mk toList_mk get_mk take_drop_len take_tail_len ByteArray.mk_append_mk List.append_toArray
def strT (s : List UInt8) : List UInt8 := [115, 116, 114, 105, 110, 103, 32, 34] ++ s ++ [34, 10]
def insT (x : In) : List UInt8 := lineS x.op x.a x.b x.lv
def fnH (f : Fu) : List UInt8 := [102, 117, 110, 99, 32] ++ numS f.ps ++ [32] ++ numS f.rs ++ [10]
def fnT (f : Fu) : List UInt8 := fnH f ++ (f.code.map insT).flatten
def enT (n : Int) : List UInt8 := [101, 110, 116, 114, 121, 32] ++ numS n ++ [10]
/-- a program's text -/
def printS (P : Pg) : List UInt8 := enT P.en ++ (P.ss.map strT).flatten ++ (P.fs.map fnT).flatten
/-- what is asked of the program -/
structure Pr3 (P : Pg) : Prop where
 ck : checkL P = (0, 0, 0)
 ss : ∀ s ∈ P.ss, s = [97]
 us : P.us = []
 en : I8b P.en
 fs : ∀ f ∈ P.fs, I8b f.ps ∧ I8b f.rs ∧ ∀ x ∈ f.code, (x.op = 1 ∨ x.op = 2 ∨ x.op = 13) ∧ I8b x.a ∧ I8b x.b ∧ (∀ n ∈ x.lv, I8b n) ∧ x.lv.length ≤ 5000
 tx : (printS P).length ≤ 1000000
theorem flat_next {α : Type} {L : List α} {g : α → List UInt8} {k : Nat} {x : α} (h : L[k]? = some x) : ((L.take (k + 1)).map g).flatten = ((L.take k).map g).flatten ++ g x := by
 rw [List.take_add_one, h]; simp
theorem flat_le {α : Type} (L : List α) (g : α → List UInt8) (k : Nat) : ((L.take k).map g).flatten.length ≤ ((L.map g).flatten).length := by
 have e : (L.map g).flatten = ((L.take k).map g).flatten ++ ((L.drop k).map g).flatten := by
  rw [← List.flatten_append, ← List.map_append, List.take_append_drop]
 rw [e, List.length_append]; omega
theorem flat_mem {α : Type} {L : List α} {g : α → List UInt8} {k : Nat} {x : α} (h : L[k]? = some x) : ((L.take k).map g).flatten.length + (g x).length ≤ ((L.map g).flatten).length := by
 have := flat_le L g (k + 1)
 rw [flat_next h, List.length_append] at this
 exact this
set_option maxHeartbeats 20000000 in
set_option maxRecDepth 8000 in
theorem print_three (fa sa ra : Option Addr) (fc sc rc : Nat) (P : Pg) (w : World) (hP : PgAt w fa sa ra P) (h3 : Pr3 P) (hV : PrVars w) :
  Calls Tryz.prog 22 #[.agg #[.slice fa P.fs.length fc, .slice sa P.ss.length sc, .slice ra P.us.length rc, .int .i64 P.en]] w fun e w' => e = .returned (.tuple #[.string ⟨(printS P).toArray⟩, .int .i64 0]) ∧ Below w.heap.size w w' := by
 have PG := hid hP
 have H3 := hid h3
 have PV := hid hV
 have CK := hid (fun W h => check_any fa sa ra fc sc rc P W h)
 have CW := hid (fun W => worldOf_full fa sa ra P.fs.length P.ss.length P.us.length fc sc rc P.en W)
 rw [h3.ck] at CK
 have hlm := hP.f.1
 have hls := hP.s.1
 unfold maxLen at hlm hls
 have hu0 : P.us.length = 0 := by rw [h3.us]; rfl
 obtain ⟨nf, hnf⟩ : ∃ n, P.fs.length = n := ⟨_, rfl⟩
 obtain ⟨ns, hns⟩ : ∃ n, P.ss.length = n := ⟨_, rfl⟩
 have HNF := hid hnf
 have HNS := hid hns
 obtain ⟨en, hen⟩ : ∃ n, P.en = n := ⟨_, rfl⟩
 have CN := hid (fun n W (h : I8b n) (hb : Below w.heap.size w W) => number_any n W h (PV.out.below hb))
 have HEN := hid (show I8b en by rw [← hen]; exact h3.en)
 have hE := numS_len HEN.out
 obtain ⟨E, hEe⟩ : ∃ E, numS en = E := ⟨_, rfl⟩
 have HE := hid hEe
 rw [hEe] at hE
 have hE2 : (E.length : Int) ≤ 20 := by omega
 obtain ⟨TS, hTS⟩ : ∃ T, (P.ss.map strT).flatten = T := ⟨_, rfl⟩
 obtain ⟨TF, hTF⟩ : ∃ T, (P.fs.map fnT).flatten = T := ⟨_, rfl⟩
 have HTS := hid hTS
 have HTF := hid hTF
 have HTX := hid (show printS P = enT en ++ TS ++ TF by unfold printS; rw [hTS, hTF, hen])
 have HTL := hid (show (enT en).length + TS.length + TF.length ≤ 1000000 by have := h3.tx; rw [HTX.out, List.length_append, List.length_append] at this; exact this)
 obtain ⟨W0, hW0⟩ : ∃ W, w.alloc (.cells #[.slice fa nf fc, .slice sa ns sc, .slice ra 0 rc, .int .i64 en] 26) = W := ⟨_, rfl⟩
 have hb0 : Below w.heap.size w W0 := by rw [← hW0]; exact (Below.refl _ _).alloc (Nat.le_refl _) _
 have k0 : KAt W0 w.heap.size (.cells #[.slice fa nf fc, .slice sa ns sc, .slice ra 0 rc, .int .i64 en] 26 (0, 0)) := by rw [← hW0]; exact KAt.new w _
 have K0 := hid k0
 have B0 := hid hb0
 obtain ⟨p0, p1, p2, p3⟩ := pbox_cells k0
 rw [hnf, hns, hu0, hen] at CK CW ⊢
 rw [hnf] at hlm
 rw [hns] at hls
 clear hP h3 hV hnf hns hen hb0 k0 hu0 hTS hTF hEe
 go_enter Tryz.func22, Tryz.ntmps22
 go_wp2_with fail
 try rw [hW0]
 clear hW0
 go_wp2_with (first
  | (go_at_call 11; refine (CK.out _ (PG.out.below B0.out)).mono ?_; rintro e w1 ⟨rfl, hb1⟩; have B1 := hid (B0.out.trans (hb1.mono B0.out.size)); have K1 := hid (K0.out.below hb1); clear p0 p1 p2 p3 hb1; obtain ⟨p0, p1, p2, p3⟩ := pbox_cells K1.out)
  | (go_at_call 27; refine (CW.out _).mono ?_; rintro e w2 ⟨pw, rfl, hW2, hb2⟩; have B2 := hid (B1.out.trans (hb2.mono B1.out.size)); have K2 := hid (K1.out.below hb2); have HW2 := hid hW2; have FB := hid (Bld.fresh w2); have B2a := hid (show Below w2.heap.size w2 (w2.alloc (.cells #[.pointer none, .slice none 0 0] 94)) from (Below.refl _ _).alloc (Nat.le_refl _) _); have hmf := mkfun; clear p0 p1 p2 p3 hW2 hb2; have p3 := (fun o => cell_a1 (pbox_cells K2.out).2.2.2 o))
  | (go_at_call 49; refine (CN.out en _ HEN.out (B2.out.trans (B2a.out.mono B2.out.size))).mono ?_; rw [HE.out]; rintro e w3 ⟨rfl, hb3⟩; have D3 := hid (FB.out.below hb3); have B3 := hid (B2a.out.trans (hb3.mono B2a.out.size)); clear hb3 p3)
  | (go_at_call 48; refine (ws_k w2.heap.size w2.heap.size [] _ _ D3.out (by simp; omega) B3.out.size).mono ?_; rintro e w4 ⟨⟨v, rfl⟩, hd4, hb4, -⟩; have D4 := hid (show Bld w2.heap.size w2.heap.size (enT en) w4 by unfold enT; rw [HE.out]; exact hd4); have B4 := hid (B3.out.trans hb4); clear hd4 hb4; have K4 := hid (show KAt w4 w.heap.size _ from ⟨(B4.out.block w.heap.size (heap_lt K2.out.x)).trans K2.out.x⟩); obtain ⟨p0, p1, p2, p3⟩ := pbox_cells K4.out))
 clear p0 p1 p2 p3 K4 B3 D3 B2a FB K0 K1 B0 B1 CK CW hE hE2
 have CE := hid (fun W => escape_a W)
 have PB := hid (fun W (h : Below w2.heap.size w2 W) => (show KAt W w.heap.size _ from ⟨(h.block w.heap.size (heap_lt K2.out.x)).trans K2.out.x⟩))
 have BW := hid (fun W (h : Below w2.heap.size w2 W) => (show Below w.heap.size w W from B2.out.trans (h.mono B2.out.size)))
 clear K2
 go_loopw [41] (fun v41 wr => ∃ k : Nat, v41 = .int .i64 (k : Int) ∧ k ≤ ns ∧ Below w2.heap.size w2 wr ∧ Bld w2.heap.size w2.heap.size (enT en ++ ((P.ss.take k).map strT).flatten) wr) (fun v41 _ => ns - (intOf v41).toNat)
 case atStart => exact ⟨0, rfl, Nat.zero_le _, B4.out, by simpa using D4.out⟩
 case round =>
  clear B4 D4
  obtain ⟨k, rfl, hk, hb, hd⟩ := hrel
  have HB := hid hb
  by_cases hlt : k < ns
  ·obtain ⟨sb, so, s, rfl, hs, c0, -⟩ := strs_cell (PG.out.s.below (BW.out _ hb)) (show k < P.ss.length by rw [HNS.out]; exact hlt)
   obtain rfl := H3.out.ss s (List.mem_of_getElem? hs)
   have HF := hid (flat_next (g := strT) hs)
   have hM := flat_mem (g := strT) hs
   obtain ⟨A, hA⟩ : ∃ A, enT en ++ ((P.ss.take k).map strT).flatten = A := ⟨_, rfl⟩
   obtain ⟨A2, hA2⟩ : ∃ A2, A ++ strT [97] = A2 := ⟨_, rfl⟩
   have hA2l : A2.length ≤ 1000000 := by
    have := HTL.out
    rw [← HTS.out] at this
    rw [← hA2, ← hA, List.length_append, List.length_append]
    omega
   have hA2i : (A2.length : Int) ≤ 1000000 := by omega
   have hAl : A.length ≤ 1000000 := by rw [← hA2, List.length_append] at hA2l; omega
   have HA := hid hA
   have HA2 := hid hA2
   rw [hA] at hd
   have HD := hid hd
   have it : ((k : Int)).toNat = k := Int.toNat_natCast k
   clear hb hd hs hM hA hA2
   go_wp2_with (first
    | (go_at_call 50; refine (CE.out _).mono ?_; rintro e w5 ⟨rfl, hb5⟩; have D5 := hid (HD.out.below hb5); have B5 := hid (HB.out.trans (hb5.mono HB.out.size)); clear hb5)
    | (go_at_call 48; refine (ws_k w2.heap.size w2.heap.size A _ _ D5.out (by simp; omega) B5.out.size).mono ?_; rintro e w6 ⟨⟨v, rfl⟩, hd6, hb6, -⟩; have D6 := hid (show Bld w2.heap.size w2.heap.size A2 w6 from HA2.out ▸ hd6); have B6 := hid (B5.out.trans hb6); clear hd6 hb6)
    | (go_at_call 51; refine (wlen_any w2.heap.size w2.heap.size A2 _ D6.out).mono ?_; rintro e w7 ⟨rfl, rfl⟩))
   go_roundw
   case rel => exact ⟨k + 1, by go_num, hlt, B6.out, by rw [HF.out, ← List.append_assoc, HA.out, HA2.out]; exact D6.out⟩
   case measure => simp only [intOf]; omega
  ·obtain rfl : k = ns := by omega
   have hTk : P.ss.take k = P.ss := by rw [← HNS.out, List.take_length]
   rw [hTk, HTS.out] at hd
   have HD := hid hd
   obtain ⟨p0, p1, p2, p3⟩ := pbox_cells (PB.out _ hb)
   clear hb hd hTk hk hlt
   go_wp2_with fail
   go_loopw [57] (fun v57 wz => v57 = .int .i64 0 ∧ wz = wr) (fun _ _ => 0)
   case atStart => exact ⟨rfl, rfl⟩
   case round =>
    obtain ⟨rfl, hw⟩ := hrel
    subst hw
    go_wp2_with fail
    clear p0 p1 p2 p3
    go_loopw [78] (fun v78 wz => ∃ k : Nat, v78 = .int .i64 (k : Int) ∧ k ≤ nf ∧ Below w2.heap.size w2 wz ∧ Bld w2.heap.size w2.heap.size (enT en ++ TS ++ ((P.fs.take k).map fnT).flatten) wz) (fun v78 _ => nf - (intOf v78).toNat)
    case atStart => exact ⟨0, rfl, Nat.zero_le _, HB.out, by simpa using HD.out⟩
    case round =>
     clear HB HD
     obtain ⟨k, rfl, hk, hb, hd⟩ := hrel
     have HB := hid hb
     by_cases hlt : k < nf
     ·obtain ⟨fB, fO, f, rfl, hf, ca, ccp, g0, g1, g2, hC⟩ := fns_cell PG.out.f (show k < P.fs.length by rw [HNF.out]; exact hlt)
      have g0 := cell_bw g0 (BW.out _ hb)
      have g1 := cell_bw g1 (BW.out _ hb)
      have g2 := cell_bw g2 (BW.out _ hb)
      have h3f := H3.out.fs f (List.mem_of_getElem? hf)
      have HF := hid (flat_next (g := fnT) hf)
      have hM := flat_mem (g := fnT) hf
      obtain ⟨ps, rs, code⟩ := f
      dsimp only at g0 g1 g2 hC h3f
      obtain ⟨nc, hnc⟩ : ∃ n, code.length = n := ⟨_, rfl⟩
      have HNC := hid hnc
      have hcm := hC.1
      unfold maxLen at hcm
      rw [hnc] at g2 hcm
      have HC := hid hC
      have HPS := hid h3f.1
      have HRS := hid h3f.2.1
      have HXF := hid h3f.2.2
      have hpl := numS_len HPS.out
      have hrl := numS_len HRS.out
      obtain ⟨A, hA⟩ : ∃ A, enT en ++ TS ++ ((P.fs.take k).map fnT).flatten = A := ⟨_, rfl⟩
      have hAl : A.length + (fnT ⟨ps, rs, code⟩).length ≤ 1000000 := by
       have := HTL.out
       rw [← HTF.out] at this
       rw [← hA, List.length_append, List.length_append]
       omega
      have HAL := hid hAl
      have HA := hid hA
      rw [hA] at hd
      have HD := hid hd
      have hal : A.length ≤ 1000000 := by omega
      obtain ⟨Ep, hEp⟩ : ∃ E, numS ps = E := ⟨_, rfl⟩
      obtain ⟨Er, hEr⟩ : ∃ E, numS rs = E := ⟨_, rfl⟩
      have HEP := hid hEp
      have HER := hid hEr
      rw [hEp] at hpl
      rw [hEr] at hrl
      have it : ((k : Int)).toNat = k := Int.toNat_natCast k
      obtain ⟨Wf, hWf⟩ : ∃ W, wr.alloc (.cells #[.int .i64 ps, .int .i64 rs, .slice ca nc ccp] 48) = W := ⟨_, rfl⟩
      have HWF := hid hWf
      have BF := hid (show Below wr.heap.size wr Wf by rw [← hWf]; exact (Below.refl _ _).alloc (Nat.le_refl _) _)
      have KF := hid (show KAt Wf wr.heap.size (.cells #[.int .i64 ps, .int .i64 rs, .slice ca nc ccp] 48 (0, 0)) by rw [← hWf]; exact KAt.new _ _)
      have hlw : w2.heap.size ≠ wr.heap.size := by
       obtain ⟨-, v0, hbk, -⟩ | ⟨-, v0, hbk, -⟩ := hd
       ·exact Nat.ne_of_lt (heap_lt hbk)
       ·exact Nat.ne_of_lt (heap_lt hbk)
      have HLW := hid hlw
      clear hb hd hf hM hA hEp hEr hnc hC h3f hWf hlw hAl
      go_upto_region 24 with (fail)
      try rw [HWF.out]
      go_cut [16, 78] from 78 to 109 (fun v16 v78 wx => v16 = .pointer (some ⟨wr.heap.size, 0, none⟩) ∧ v78 = .int .i64 (k : Int) ∧ Below w2.heap.size w2 wx ∧ Bld w2.heap.size w2.heap.size (A ++ fnH ⟨ps, rs, code⟩) wx ∧ KAt wx wr.heap.size (.cells #[.int .i64 ps, .int .i64 rs, .slice ca nc ccp] 48 (0, 0)))
      case first =>
       obtain ⟨y0, y1, y2⟩ := fbox_cells KF.out
       have BD := hid (show Below w2.heap.size w2 Wf.drew from (HB.out.trans (BF.out.mono HB.out.size)).drew)
       have DD := hid (show Bld w2.heap.size w2.heap.size A Wf.drew from HD.out.below BF.out.drew)
       have KD := hid (show KAt Wf.drew wr.heap.size (.cells #[.int .i64 ps, .int .i64 rs, .slice ca nc ccp] 48 (0, 0)) from ⟨KF.out.x⟩)
       have c1 : ¬ 9223372036854775807 < 5 + Ep.length := by omega
       have c2 : ¬ 9223372036854775807 < Ep.length + 1 + 1 + 1 + 1 + 1 + 1 := by omega
       have c3 : ¬ 9223372036854775807 < Ep.length + 1 + 1 + 1 + 1 + 1 + 1 + Er.length := by omega
       have c4 : ¬ 9223372036854775807 < Ep.length + (Er.length + 1) + 1 + 1 + 1 + 1 + 1 + 1 := by omega
       go_region_law (first
        | (go_simp; go_at_call 49; refine (CN.out ps _ HPS.out (BW.out _ (by exact BD.out))).mono ?_; rw [HEP.out]; rintro e w5 ⟨rfl, hb5⟩; have B5 := hid (BD.out.trans (hb5.mono BD.out.size)); have D5 := hid (DD.out.below hb5); have K5 := hid (KD.out.below hb5); clear hb5 y0 y1 y2; obtain ⟨y0, y1, y2⟩ := fbox_cells K5.out)
        | (go_simp; go_at_call 49; refine (CN.out rs _ HRS.out (BW.out _ (by exact B5.out))).mono ?_; rw [HER.out]; rintro e w6 ⟨rfl, hb6⟩; have B6 := hid (B5.out.trans (hb6.mono B5.out.size)); have D6 := hid (D5.out.below hb6); have K6 := hid (K5.out.below hb6); clear hb6 y0 y1 y2; obtain ⟨y0, y1, y2⟩ := fbox_cells K6.out)
        | (go_simp; go_at_call 49; refine (CN.out rs _ HRS.out (BW.out _ (by exact BD.out))).mono ?_; rw [HER.out]; rintro e w5 ⟨rfl, hb5⟩; have B5 := hid (BD.out.trans (hb5.mono BD.out.size)); have D5 := hid (DD.out.below hb5); have K5 := hid (KD.out.below hb5); clear hb5 y0 y1 y2; obtain ⟨y0, y1, y2⟩ := fbox_cells K5.out)
        | (go_simp; go_at_call 49; refine (CN.out ps _ HPS.out (BW.out _ (by exact B5.out))).mono ?_; rw [HEP.out]; rintro e w6 ⟨rfl, hb6⟩; have B6 := hid (B5.out.trans (hb6.mono B5.out.size)); have D6 := hid (D5.out.below hb6); have K6 := hid (K5.out.below hb6); clear hb6 y0 y1 y2; obtain ⟨y0, y1, y2⟩ := fbox_cells K6.out)
        | (go_simp; go_at_call 48; refine (ws_k w2.heap.size w2.heap.size A _ _ D6.out (by simp; omega) B6.out.size).mono ?_; rintro e w7 ⟨⟨v, rfl⟩, hd7, hb7, ho7⟩; have D7 := hid hd7; have B7 := hid (B6.out.trans hb7); have K7 := hid (K6.out.oth ho7 (Ne.symm HLW.out) (by decide)); clear hd7 hb7 ho7))
       all_goals go_wp2_with fail
       all_goals go_meet
       all_goals exact ⟨rfl, rfl, B7.out, by unfold fnH; dsimp only; rw [HEP.out, HER.out]; simpa using D7.out, K7.out⟩
      case rest =>
       obtain ⟨rfl, rfl, hb, hd, hkf⟩ := hcut
       have HB2 := hid hb
       have HD2 := hid hd
       obtain ⟨y0, y1, y2⟩ := fbox_cells hkf
       clear hb hd hkf HB HD BF KF HWF HLW hpl hrl
       go_wp2_with fail
       clear y0 y1 y2
       go_loopw [97] (fun v97 wz => ∃ j : Nat, v97 = .int .i64 (j : Int) ∧ j ≤ nc ∧ Below w2.heap.size w2 wz ∧ Bld w2.heap.size w2.heap.size (A ++ fnH ⟨ps, rs, code⟩ ++ ((code.take j).map insT).flatten) wz) (fun v97 _ => nc - (intOf v97).toNat)
       case atStart => exact ⟨0, rfl, Nat.zero_le _, HB2.out, by simpa using HD2.out⟩
       case round =>
        clear HB2 HD2
        obtain ⟨j, rfl, hj, hb, hd⟩ := hrel
        have HB := hid hb
        by_cases hjl : j < nc
        ·obtain ⟨gc, oc, x, rfl, ex, la, lc, va, vc', q0, q1, q2, q3, q4, q5, pl, pv⟩ := cd_cell (HC.out.below (BW.out _ hb)) (show j < code.length by rw [HNC.out]; exact hjl)
         have hx3 := HXF.out x (List.mem_of_getElem? ex)
         have HN := hid (flat_next (g := insT) ex)
         have hm := flat_mem (g := insT) ex
         have jt : ((j : Int)).toNat = j := Int.toNat_natCast j
         obtain ⟨xo, xa, xb, xc, xl, xv⟩ := x
         dsimp only at q0 q1 q2 q3 q4 q5 pl pv hx3
         obtain ⟨A1, hA1⟩ : ∃ B, A ++ fnH ⟨ps, rs, code⟩ ++ ((code.take j).map insT).flatten = B := ⟨_, rfl⟩
         obtain ⟨T, hT⟩ : ∃ T, insT ⟨xo, xa, xb, xc, xl, xv⟩ = T := ⟨_, rfl⟩
         have hlen : A1.length + T.length ≤ 1000000 := by
          have := HAL.out
          unfold fnT at this
          rw [List.length_append] at this
          dsimp only at this
          rw [← hA1, ← hT, List.length_append, List.length_append]
          omega
         have hT2 : lineS xo xa xb xv = T := hT
         rw [hA1] at hd
         have HD := hid hd
         have HA1 := hid hA1
         rw [hT] at HN
         have HX2 := hid hT2
         have PVV := hid pv
         have CL := hid (fun W (h : Below wr.heap.size wr W) => line_three pw _ _ _ _ _ _ _ _ _ _ xo xa xb xc la va xl.length lc vc' xv W hx3.1 hx3.2.1 hx3.2.2.1 (PVV.out.below h) hx3.2.2.2.1 hx3.2.2.2.2 (PV.out.below ((BW.out _ HB.out).trans (h.mono (BW.out _ HB.out).size))) (HW2.out.below (HB.out.trans (h.mono HB.out.size))))
         rw [hT2] at CL
         obtain ⟨Wx, hWx⟩ : ∃ W, wr.alloc (.cells #[.int .i64 xo, .int .i64 xa, .int .i64 xb, .int .i64 xc, .slice la xl.length lc, .slice va xv.length vc'] 58) = W := ⟨_, rfl⟩
         have BX := hid (show Below wr.heap.size wr (wr.alloc (.cells #[.int .i64 xo, .int .i64 xa, .int .i64 xb, .int .i64 xc, .slice la xl.length lc, .slice va xv.length vc'] 58)) from (Below.refl _ _).alloc (Nat.le_refl _) _)
         clear hb hd ex hm hA1 hT hT2 pl pv hx3 hWx
         go_wp2_with (first
          | (go_at_call 55; refine (CL.out _ BX.out).mono ?_; rintro e w5 ⟨rfl, hb5⟩; have B5 := hid (HB.out.trans ((BX.out.trans (hb5.mono BX.out.size)).mono HB.out.size)); have D5 := hid ((HD.out.below BX.out).below hb5); clear hb5)
          | (go_at_call 48; refine (ws_k w2.heap.size w2.heap.size A1 T _ D5.out (by omega) B5.out.size).mono ?_; rintro e w6 ⟨⟨v, rfl⟩, hd6, hb6, -⟩; have D6 := hid hd6; have B6 := hid (B5.out.trans hb6); clear hd6 hb6))
         go_roundw
         case rel => exact ⟨j + 1, by go_num, hjl, B6.out, by rw [HN.out, ← List.append_assoc, HA1.out]; exact D6.out⟩
         case measure => simp only [intOf]; omega
        ·obtain rfl : j = nc := by omega
         have hTj : code.take j = code := by rw [← HNC.out, List.take_length]
         rw [hTj] at hd
         obtain ⟨A2, hA2⟩ : ∃ B, A ++ fnH ⟨ps, rs, code⟩ ++ (code.map insT).flatten = B := ⟨_, rfl⟩
         have hA2l : A2.length ≤ 1000000 := by
          have := HAL.out
          unfold fnT at this
          rw [List.length_append] at this
          dsimp only at this
          rw [← hA2, List.length_append, List.length_append]
          omega
         have hA2i : (A2.length : Int) ≤ 1000000 := by omega
         rw [hA2] at hd
         have HD := hid hd
         have HA2 := hid hA2
         clear hb hd hA2 hTj
         go_wp2_with (go_at_call 51; refine (wlen_any w2.heap.size w2.heap.size A2 _ HD.out).mono ?_; rintro e w7 ⟨rfl, rfl⟩)
         go_roundw
         case rel => exact ⟨k + 1, by go_num, hlt, HB.out, by rw [HF.out, ← List.append_assoc, HA.out]; unfold fnT; rw [← List.append_assoc, HA2.out]; exact HD.out⟩
         case measure => simp only [intOf]; omega
     ·obtain rfl : k = nf := by omega
      have hTk : P.fs.take k = P.fs := by rw [← HNF.out, List.take_length]
      rw [hTk, HTF.out] at hd
      have HD := hid hd
      clear hb hd hTk
      go_wp2_with (go_at_call 56; refine (wstr_any w2.heap.size w2.heap.size _ _ HD.out HB.out.size).mono ?_; rintro e w8 ⟨rfl, -, hb8⟩; have B8 := hid (BW.out _ (HB.out.trans hb8)); clear hb8)
      go_ret2
      exact ⟨by rw [HTX.out, List.append_assoc]; rfl, B8.out⟩
end Go.Proofs.YtokjkligechcoaaGreatDoor
