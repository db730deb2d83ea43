/- Walks of layer 16: a program with its roots, the program's side. -/
import Derived.Test.YtokjkligechcoaaGreatDoorKl
import Derived.Test.YtokjkligechcoaaGreatDoorKm
set_option linter.unusedVariables false
namespace Go.Proofs.YtokjkligechcoaaGreatDoor
open _root_.Go.Lib (hid)
open Go.RowKit
attribute [local go_sem] ext_mk size_mk toList_mk get_mk take_drop_len take_tail_len ByteArray.mk_append_mk List.append_toArray
/-- the lists of the functions before i are nil; there may be no function -/
def NiA (lo : Nat) (W : World) (ga sa ra : Option Addr) (P : Pg) (i : Nat) : Prop := (P.fs = [] ∧ PgK (KUp lo) W ga sa ra P) ∨ ∃ b cs, ga = some ⟨b, 0, none⟩ ∧ NiS lo W b cs sa ra P i
theorem NiA.start {lo : Nat} {W : World} {ga sa ra : Option Addr} {P : Pg} (h : PgD false (KUp lo) W ga sa ra P) : NiA lo W ga sa ra P 0 := by
 by_cases hn : P.fs = []
 ·exact .inl ⟨hn, h.pg⟩
 ·exact .inr (NiS.start h hn)
theorem NiA.fin {lo : Nat} {W : World} {ga sa ra : Option Addr} {P : Pg} (h : NiA lo W ga sa ra P P.fs.length) (hl : P.fs.length ≤ maxLen) (hz : ∀ u ∈ P.us, 0 ≤ u ∧ u < 18446744073709551616) : PgK (KUp lo) W ga sa ra (cpP true P) ∧ ((cpP true P).fs ≠ [] → ∃ b cs, ga = some ⟨b, 0, none⟩ ∧ RoS lo W b cs sa ra (cpP true P) 0) := by
 rcases h with ⟨h1, h2⟩ | ⟨b, cs, h1, h2⟩
 ·obtain ⟨fs, ss, us, en⟩ := P
  dsimp only at h1
  subst h1
  exact ⟨h2, fun q => absurd rfl q⟩
 ·subst h1
  have h3 := h2.done
  exact ⟨h3.pg (by simpa [cpP] using hl) hz, fun _ => ⟨b, cs, rfl, h3⟩⟩
theorem NiA.at {lo : Nat} {W : World} {ga sa ra : Option Addr} {P : Pg} {i : Nat} (h : NiA lo W ga sa ra P i) (hi : i < P.fs.length) : ∃ b cs, ga = some ⟨b, 0, none⟩ ∧ NiS lo W b cs sa ra P i := by
 rcases h with ⟨h1, -⟩ | h
 ·rw [h1] at hi; exact absurd hi (Nat.not_lt_zero _)
 ·exact h
theorem gr_set {w w' : World} {b i : Nat} {v : Value} (h : w.grownBy w' (some b)) : w.grownBy (w'.setCell ⟨b, i, none⟩ v) (some b) := ⟨h.os, h.tape, h.output, by simpa [World.setCell] using h.size, fun k hk hn => (Below.heap_setCell _ _ _ _ (fun e => hn (by rw [show k = b from e]))).trans (h.block k hk hn)⟩
theorem cell_gr {W V : World} {b c i : Nat} {v : Value} {cs ks : Array Value} {T : TypeId} (hb : W.heap[b]? = some (.cells cs T (0, 0))) (hc : W.heap[c]? = some (.cells ks 58 (0, 0))) (hT : T ≠ 58) (hg : W.grownBy V (some c)) (h : W.cell? ⟨b, i, none⟩ = some v) : V.cell? ⟨b, i, none⟩ = some v := by
 have hbc : b ≠ c := by
  rintro rfl
  rw [hc] at hb
  simp only [Option.some.injEq, Obj.cells.injEq] at hb
  exact hT hb.2.1.symm
 exact (hg.cell_far ⟨b, i, none⟩ (heap_lt hb) (by intro r; injection r with r; exact hbc r)).trans h
set_option maxHeartbeats 8000000 in
set_option maxRecDepth 8000 in
theorem crootsP_any (fa sa ra : Option Addr) (fc sc rc : Nat) (P : Pg) (w : World) (hP : PgAt w fa sa ra P) (hR : PgR P) :
  Calls Tryz.prog 16 #[.agg #[.slice fa P.fs.length fc, .slice sa P.ss.length sc, .slice ra P.us.length rc, .int .i64 P.en]] w (RtsR P w) := by
 have S := hid hP
 have CC := hid (fun W h => ccopy_srt fa sa ra fc sc rc P W h hR)
 have CW := hid (fun fa sa ra fc sc rc W => worldOf_full fa sa ra P.fs.length P.ss.length P.us.length fc sc rc P.en W)
 have CF := hid (fun p fa sa ra fc sc rc W h1 h2 => forms_any p fa sa ra fc sc rc (cpP true P) W h1 h2)
 have l1 : (cpP true P).fs.length = P.fs.length := by simp [cpP]
 have HU := hid (show ∀ u ∈ P.us, 0 ≤ u ∧ u < 18446744073709551616 from hP.z)
 have LM := hid (show P.fs.length ≤ maxLen from hP.f.1)
 have hlm := hP.f.1
 unfold maxLen at hlm
 obtain ⟨Q, hQ⟩ : ∃ Q, cpP true P = Q := ⟨_, rfl⟩
 have HQ := hid hQ
 have HBN := hid (fun f (h : f ∈ Q.fs) => (show ∀ x ∈ f.code, x.lv = [] from bare_nil (P := P) (by rw [hQ]; exact h)))
 have l2 : Q.ss.length = P.ss.length := by rw [← hQ]; rfl
 have l3 : Q.us.length = P.us.length := by rw [← hQ]; rfl
 have l4 : Q.en = P.en := by rw [← hQ]; rfl
 unfold RtsR CpD at *
 rw [cpP_same] at CC
 rw [hQ] at l1 CF ⊢
 rw [l1, l2, l3, l4] at CF
 obtain ⟨nf, hnf⟩ : ∃ n, P.fs.length = n := ⟨_, rfl⟩
 obtain ⟨ns, hns⟩ : ∃ n, P.ss.length = n := ⟨_, rfl⟩
 obtain ⟨nu, hnu⟩ : ∃ n, P.us.length = n := ⟨_, rfl⟩
 obtain ⟨en, hen⟩ : ∃ n, P.en = n := ⟨_, rfl⟩
 have HLP := hid hnf
 rw [hnf, hns, hnu, hen] at CF CC CW ⊢
 rw [hnf] at l1 hlm
 have HL := hid l1
 obtain ⟨W0, hW0⟩ : ∃ W, (w.alloc (.cells #[.slice fa nf fc, .slice sa ns sc, .slice ra nu rc, .int .i64 en] 26)).alloc rzBlk = W := ⟨_, rfl⟩
 have hb0 : Below w.heap.size w W0 := by rw [← hW0]; exact ((Below.refl _ _).alloc (Nat.le_refl _) _).alloc (by simp) _
 have k0 : KAt W0 w.heap.size (.cells #[.slice fa nf fc, .slice sa ns sc, .slice ra nu rc, .int .i64 en] 26 (0, 0)) := by rw [← hW0]; exact (KAt.new w _).alloc _
 have k1 : KAt W0 (w.heap.size + 1) rzBlk := by
  have h := KAt.new (w.alloc (.cells #[.slice fa nf fc, .slice sa ns sc, .slice ra nu rc, .int .i64 en] 26)) rzBlk
  rw [show (w.alloc (.cells #[.slice fa nf fc, .slice sa ns sc, .slice ra nu rc, .int .i64 en] 26)).heap.size = w.heap.size + 1 from by simp] at h
  rw [← hW0]; exact h
 have B0 := hid hb0
 have K1 := hid k1
 obtain ⟨p0, p1, p2, p3⟩ := pbox_cells k0
 obtain ⟨⟨u1, u2, u3⟩, hu⟩ : ∃ t, formsL Q = t := ⟨_, rfl⟩
 have HFL := hid hu
 rw [hu] at CF ⊢
 clear hP hR hb0 k0 k1 hnf hns hnu hen l1 l2 l3 l4 hQ hu
 unfold rzBlk at hW0
 dsimp only at *
 have hi' : (Tryz.prog.info? 26).map (·.size) = some 4 := by kernel_rfl
 go_enter Tryz.func16, Tryz.ntmps16
 go_wp2_with fail
 try rw [hW0]
 go_wp2_with (go_at_call 38; refine (CC.out _ (S.out.below B0.out)).mono ?_; rintro e w2 ⟨ga, gc, ta, tc, va, vc, rfl, hD, hb2⟩; have D2 := hid hD; have B2 := hid (B0.out.trans (hb2.mono B0.out.size)); have Z2 := hid (K1.out.below hb2); clear hD hb2 p0 p1 p2 p3)
 obtain ⟨w3, hw3⟩ : ∃ W, w2.alloc (.cells #[.slice ga nf gc, .slice ta ns tc, .slice va nu vc, .int .i64 en] 26) = W := ⟨_, rfl⟩
 have hb3 : Below w2.heap.size w2 w3 := by rw [← hw3]; exact (Below.refl _ _).alloc (Nat.le_refl _) _
 obtain ⟨q, hq⟩ : ∃ q, w2.heap.size = q := ⟨_, rfl⟩
 have KQ0 := hid (show KAt w3 q (.cells #[.slice ga nf gc, .slice ta ns tc, .slice va nu vc, .int .i64 en] 26 (0, 0)) by rw [← hw3, ← hq]; exact KAt.new _ _)
 have Z3 := hid (Z2.out.below hb3)
 have NA0 := hid (NiA.start ((D2.out.kp (Kp.below hb3)).wk (K' := KUp (w.heap.size + 1)) (fun b T _ h => Nat.lt_of_le_of_lt (show w.heap.size + 1 ≤ W0.heap.size from Nat.le_of_lt (heap_lt K1.out.x)) h)))
 have B3 := hid (B2.out.trans (hb3.mono B2.out.size))
 rw [hw3, hq]
 clear hw3 hb3 hq D2 Z2 B2 CC S K1 B0 hW0
 go_loopw [18] (fun v18 wr => ∃ i : Nat, v18 = .int .i64 (i : Int) ∧ i ≤ nf ∧ Below w.heap.size w wr ∧ KAt wr (w.heap.size + 1) rzBlk ∧ KAt wr q (.cells #[.slice ga nf gc, .slice ta ns tc, .slice va nu vc, .int .i64 en] 26 (0, 0)) ∧ NiA (w.heap.size + 1) wr ga ta va P i) (fun v18 _ => nf - (intOf v18).toNat)
 case atStart => exact ⟨0, rfl, Nat.zero_le _, B3.out, Z3.out, KQ0.out, NA0.out⟩
 case round =>
  clear B3 Z3 KQ0 NA0
  obtain ⟨i, rfl, hi, hb, hz, hk, hr⟩ := hrel
  have HB := hid hb
  have HZ := hid hz
  have HKQ := hid hk
  obtain ⟨q0, q1, q2, q3⟩ := pbox_cells hk
  by_cases hlt : i < nf
  ·have hil : i < P.fs.length := by rw [HLP.out]; exact hlt
   obtain ⟨b, cs, rfl, hr2⟩ := hr.at hil
   have HRS := hid hr2
   have hf : P.fs[i]? = some P.fs[i] := List.getElem?_eq_getElem hil
   obtain ⟨f, hfe⟩ : ∃ f, P.fs[i] = f := ⟨_, rfl⟩
   rw [hfe] at hf
   have HF := hid hf
   obtain ⟨ca, cc, c0, c1, c2, c3, hcb⟩ := hr2.next hf
   have C2 := hid c2
   obtain ⟨x0, x1, x2⟩ := row3 hr2.b c0 c1 c2
   have it : ((i : Int)).toNat = i := Int.toNat_natCast i
   have HFB := hid hr2.b
   unfold maxLen at c3
   obtain ⟨nc, hnc⟩ : ∃ n, f.code.length = n := ⟨_, rfl⟩
   have HNC := hid hnc
   rw [hnc] at x2 c3
   clear hfe hil c0 c1 c2 hb hz hk hr hr2 hnc
   by_cases hn : f.code = []
   ·have HN := hid hn
    have hn0 : nc = 0 := by rw [← HNC.out, hn]; rfl
    subst hn0
    clear hcb hn
    go_wp2_with fail
    go_loopw [28] (fun v28 wz => v28 = .int .i64 0 ∧ wz = wr) (fun _ _ => 0)
    case atStart => exact ⟨rfl, rfl⟩
    case round =>
     obtain ⟨rfl, hw⟩ := hrel
     subst hw
     go_wp2_with fail
     go_roundw
     case rel => exact ⟨i + 1, by go_num, hlt, HB.out, HZ.out, HKQ.out, .inr ⟨b, cs, rfl, HRS.out.skip HF.out HN.out (cpF_nil HN.out)⟩⟩
     case measure => simp only [intOf]; omega
   ·have HN := hid hn
    rcases hcb with r | ⟨c, ks, rfl, hc1, hc2, hc3, -⟩
    ·exact absurd r hn
    have HLC := hid hc1
    have HKS := hid hc2
    have NK0 := hid (NkK.start hc2 hc3)
    have G0 := hid (show wr.grownBy wr (some c) from ⟨rfl, rfl, rfl, Nat.le_refl _, fun _ _ _ => rfl⟩)
    obtain ⟨hi0, hhi0⟩ : ∃ h, wr.heap.size = h := ⟨_, rfl⟩
    rw [hhi0] at NK0
    clear hn hc1 hc2 hc3 hhi0
    go_wp2_with fail
    clear q0 q1 q2 q3 x0 x1
    go_loopw [28] (fun v28 wz => ∃ k : Nat, v28 = .int .i64 (k : Int) ∧ k ≤ nc ∧ wr.grownBy wz (some c) ∧ NkK (w.heap.size + 1 + 1) hi0 wz c f.code k) (fun v28 _ => nc - (intOf v28).toNat)
    case atStart => exact ⟨0, rfl, Nat.zero_le _, G0.out, NK0.out⟩
    case round =>
     clear NK0 G0
     obtain ⟨wo, hwo⟩ : ∃ wo, wo = wr := ⟨_, rfl⟩
     subst hwo
     obtain ⟨k, rfl, hk, hg, hn⟩ := hrel
     have G := hid hg
     have NK := hid hn
     by_cases hkl : k < nc
     ·have hkq := HKQ.out.gr hg HKS.out (by intro r; injection r with r1 r2; exact absurd r2 (by decide))
      obtain ⟨q0, q1, q2, q3⟩ := pbox_cells hkq
      have x3 := cell_gr HFB.out HKS.out (by decide) hg x2
      obtain ⟨⟨v, y0⟩, y1⟩ := hn.cell (by rw [HNC.out]; exact hkl)
      have kt : ((k : Int)).toNat = k := Int.toNat_natCast k
      clear hg hn hkq x2 q1 q2 q3
      go_wp2_with fail
      go_roundw
      case rel => exact ⟨k + 1, by go_num, hkl, gr_set G.out, NK.out.put (by rw [HNC.out]; exact hkl)⟩
      case measure => simp only [intOf]; omega
     ·obtain rfl : k = nc := by omega
      clear hg hn x2
      go_wp2_with fail
      go_roundw
      case rel => exact ⟨i + 1, by go_num, hlt, below_gr HB.out G.out (by have := HLC.out; omega), HZ.out.gr G.out HKS.out (by unfold rzBlk; intro r; injection r with r1 r2; exact absurd r2 (by decide)), HKQ.out.gr G.out HKS.out (by intro r; injection r with r1 r2; exact absurd r2 (by decide)), .inr ⟨b, cs, rfl, HRS.out.step HF.out C2.out HN.out HKS.out HLC.out G.out (by rw [HNC.out]; exact NK.out)⟩⟩
      case measure => simp only [intOf]; omega
  ·obtain rfl : nf = i := by omega
   rw [← HLP.out] at hr
   obtain ⟨hpk, hro⟩ := hr.fin LM.out HU.out
   rw [HQ.out] at hpk hro
   have HPK := hid hpk
   have HRO := hid hro
   clear hb hz hk hr hpk hro
   by_cases h0 : u3 = 0
   rotate_left
   ·have k0 : (u3 != 0) = true := by simpa using h0
    have k1 : (u3 == 0) = false := by simpa using h0
    go_wp2_with (first
     | (go_at_call 27; refine (CW.out _ _ _ _ _ _ _).mono ?_; rintro e w4 ⟨pw, rfl, hW4, hb4⟩; have B4 := hid hb4; have HW4 := hid hW4; clear hW4 hb4)
     | (go_at_call 28; refine (CF.out _ _ _ _ _ _ _ _ HW4.out (HPK.out.at.below B4.out)).mono ?_; rintro e w5 ⟨rfl, hb5⟩; have B5 := hid (HB.out.trans ((B4.out.trans (hb5.mono B4.out.size)).mono HB.out.size)); have Z5 := hid ((HZ.out.below B4.out).below hb5); clear hb5; obtain ⟨z0, z1, z2, z3, y0, y1, y2, y3⟩ := Z5.out.zcells))
    (try simp only [Exit.inBlock, Exit.then]); refine bodyPost_ret (results_cell2 rfl _ _ (w.heap.size + 1) 26 _ (0, 0) _ rfl (p_set Z5.out _ _ _ _) Tryz.underlying26 rfl hi') rfl ?_
    exact ⟨(((B5.out.setCell (p := ⟨w.heap.size + 1, 0, none⟩) (Nat.le_succ _) _).setCell (p := ⟨w.heap.size + 1, 1, none⟩) (Nat.le_succ _) _).setCell (p := ⟨w.heap.size + 1, 2, none⟩) (Nat.le_succ _) _).setCell (p := ⟨w.heap.size + 1, 3, none⟩) (Nat.le_succ _) _, .inr ⟨h0, rfl⟩⟩
   subst h0
   obtain ⟨hz, hgood, hhead⟩ := formsL_good (p := Q) (by rw [HFL.out])
   have HG := hid hgood
   have hfn : 0 < nf := by have := (headB_len hhead).2.2.2.2; rw [HL.out] at this; omega
   have HNF6 := hid (show nf ≤ 65536 by have := (headB_len hhead).1; rw [HL.out] at this; exact this)
   obtain ⟨b, cs, rfl, hRS⟩ := HRO.out (by intro q; have := HL.out; rw [q] at this; simp at this; omega)
   have RS3 := hid hRS
   clear hz hgood hhead hRS HRO HFL
   go_wp2_with (first
     | (go_at_call 27; refine (CW.out _ _ _ _ _ _ _).mono ?_; rintro e w4 ⟨pw, rfl, hW4, hb4⟩; have B4 := hid hb4; have HW4 := hid hW4; have RS4 := hid (RS3.out.below hb4); clear hW4 hb4)
     | (go_at_call 28; refine (CF.out _ _ _ _ _ _ _ _ HW4.out (HPK.out.at.below B4.out)).mono ?_; rintro e w5 ⟨rfl, hb5⟩; have B5 := hid (HB.out.trans ((B4.out.trans (hb5.mono B4.out.size)).mono HB.out.size)); have Z5 := hid ((HZ.out.below B4.out).below hb5); have KQ5 := hid ((HKQ.out.below B4.out).below hb5); have RS5 := hid (RS4.out.below hb5); have HW5 := hid (HW4.out.below hb5); clear hb5 q0 q1 q2 q3; obtain ⟨q0, q1, q2, q3⟩ := pbox_cells KQ5.out))
   clear q0 q1 q2 q3
   go_loopw [57] (fun v57 wr => ∃ i : Nat, v57 = .int .i64 (i : Int) ∧ i ≤ nf ∧ Below w.heap.size w wr ∧ KAt wr (w.heap.size + 1) rzBlk ∧ KAt wr q (.cells #[.slice (some ⟨b, 0, none⟩) nf gc, .slice ta ns tc, .slice va nu vc, .int .i64 en] 26 (0, 0)) ∧ RoS (w.heap.size + 1) wr b cs ta va Q i ∧ WoAt wr pw (some ⟨b, 0, none⟩) ta va nf ns nu gc tc vc en) (fun v57 _ => nf - (intOf v57).toNat)
   case atStart => exact ⟨0, rfl, Nat.zero_le _, B5.out, Z5.out, KQ5.out, RS5.out, HW5.out⟩
   case round =>
    clear B5 Z5 KQ5 RS5 HW5 RS3 RS4 HPK HB HZ HKQ HW4 B4 hi hlt
    obtain ⟨i, rfl, hi, hb, hz, hk, hr, hw⟩ := hrel
    have HB := hid hb
    have HZ := hid hz
    have HKQ := hid hk
    have HRS := hid hr
    have HWO := hid hw
    by_cases hlt : i < nf
    ·have hn6 := HNF6.out
     have hil : i < Q.fs.length := by rw [HL.out]; exact hlt
     have hf : Q.fs[i]? = some Q.fs[i] := List.getElem?_eq_getElem hil
     obtain ⟨f, hfe⟩ : ∃ f, Q.fs[i] = f := ⟨_, rfl⟩
     rw [hfe] at hf
     have HF := hid hf
     have hgf := HG.out f (List.mem_of_getElem? hf)
     have hln := HBN.out f (List.mem_of_getElem? hf)
     have hok := good_okQ hgf
     obtain ⟨ca, cc, c0, c1, c2, c3, hcb⟩ := hr.next hf
     have C2 := hid c2
     obtain ⟨x0, x1, x2⟩ := row3 hr.b c0 c1 c2
     have it : ((i : Int)).toNat = i := Int.toNat_natCast i
     have hlo : w.heap.size + 1 + 1 ≤ wr.heap.size := by have := hr.lb; have := heap_lt hr.b; omega
     have e2 : ((f.rs.toNat : Nat) : Int) = f.rs := Int.toNat_of_nonneg (Int.le_trans hgf.ps hgf.le)
     have HA := hid (fun o => (show Below wr.heap.size wr (wr.alloc o) from (Below.refl _ _).alloc (Nat.le_refl _) o))
     clear hfe hil c0 c1 c2 c3 hb hz hk hr hw
     by_cases hn : f.code = []
     ·have HN := hid hn
      rw [hn, List.length_nil] at x2
      have CR := hid (fun W => croots_nil pw ca cc f.ps f.rs.toNat W (by have := hgf.rs; omega))
      rw [e2] at CR
      clear hcb hok hgf hln hn
      go_wp2_with (go_at_call 39; refine (CR.out _).mono ?_; rintro e w6 ⟨⟨v, rfl⟩, hb6⟩; have B6 := hid ((HA.out _).trans (hb6.mono (HA.out _).size)); clear hb6)
      go_roundw
      case rel => exact ⟨i + 1, by go_num, hlt, HB.out.trans (B6.out.mono HB.out.size), HZ.out.below B6.out, HKQ.out.below B6.out, (HRS.out.below B6.out).skip HF.out HN.out (rootF_nil HN.out), HWO.out.below B6.out⟩
      case measure => simp only [intOf]; omega
     ·have HN := hid hn
      rcases hcb with r | ⟨c, ks, rfl, hc1, hc2, -, hc4⟩
      ·exact absurd r hn
      have HC := hid (hc4 trivial)
      have HLC := hid hc1
      have HKS := hid hc2
      have CR := hid (fun W (h : Below wr.heap.size wr W) => croots_any pw (some ⟨b, 0, none⟩) ta va nf ns nu gc tc vc en (w.heap.size + 1 + 1) c cc f.ps f.rs.toNat f.code W (HWO.out.below h) (((HC.out).below h).wk h.size) (Nat.le_trans hlo h.size) hok hln (by have := hgf.rs; omega) hgf.cn)
      rw [e2] at CR
      obtain ⟨x, hx⟩ : ∃ x, f.code[0]? = some x := by
       cases hcd : f.code with
       | nil => exact absurd hcd hn
       | cons x l => exact ⟨x, rfl⟩
      have HX := hid hx
      clear hok hgf hln hn hc1 hc2 hc4 hx
      go_wp2_with (go_at_call 39; refine (CR.out _ (HA.out _)).mono ?_; rintro e w6 ⟨⟨v, rfl⟩, hg6, hc6⟩; have G6 := hid hg6; have C6 := hid hc6; clear hg6 hc6)
      obtain ⟨wa, hwa⟩ : ∃ W, wr.alloc (.cells #[.int .i64 f.ps, .int .i64 f.rs, .slice (some ⟨c, 0, none⟩) f.code.length cc] 48) = W := ⟨_, rfl⟩
      rw [hwa] at G6
      have BA := hid (show Below wr.heap.size wr wa by rw [← hwa]; exact HA.out _)
      have KSA := hid (show wa.heap[c]? = _ from (BA.out.block c (heap_lt HKS.out)).trans HKS.out)
      have CA := hid ((HC.out.below BA.out).wk BA.out.size)
      go_roundw
      case rel =>
       obtain ⟨ks2, hk2, hx2, -⟩ := CA.out
       obtain ⟨-, -, -, -, r0, -⟩ := hx2 0 x HX.out
       exact ⟨i + 1, by go_num, hlt, below_gr (HB.out.trans (BA.out.mono HB.out.size)) G6.out (by have := HLC.out; omega), (HZ.out.below BA.out).gr G6.out KSA.out (by unfold rzBlk; intro r; injection r with r1 r2; exact absurd r2 (by decide)), (HKQ.out.below BA.out).gr G6.out KSA.out (by intro r; injection r with r1 r2; exact absurd r2 (by decide)), RoS.step (HRS.out.below BA.out) HF.out C2.out HN.out CA.out HLC.out G6.out C6.out, (HWO.out.below BA.out).grown G6.out hk2 (by simpa using r0)⟩
      case measure => simp only [intOf]; omega
    ·obtain rfl : i = nf := by omega
     rw [← HL.out] at hr
     have HD := hid (hr.done (by rw [HL.out]; unfold maxLen; omega) (by rw [← HQ.out]; exact HU.out))
     obtain ⟨z0, z1, z2, z3, y0, y1, y2, y3⟩ := hz.zcells
     obtain ⟨q0, q1, q2, q3⟩ := pbox_cells hk
     clear hb hz hk hr HRS
     go_wp2_with fail
     (try simp only [Exit.inBlock, Exit.then]); refine bodyPost_ret (results_cell2 rfl _ _ (w.heap.size + 1) 26 _ (0, 0) _ rfl (p_set HZ.out _ _ _ _) Tryz.underlying26 rfl hi') rfl ?_
     refine ⟨(((HB.out.setCell (p := ⟨w.heap.size + 1, 0, none⟩) (Nat.le_succ _) _).setCell (p := ⟨w.heap.size + 1, 1, none⟩) (Nat.le_succ _) _).setCell (p := ⟨w.heap.size + 1, 2, none⟩) (Nat.le_succ _) _).setCell (p := ⟨w.heap.size + 1, 3, none⟩) (Nat.le_succ _) _, _, gc, ta, tc, va, ⟨vc, rfl⟩, ?_⟩
     exact pgk_res HD.out _ _ _ _
end Go.Proofs.YtokjkligechcoaaGreatDoor
