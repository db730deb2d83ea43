/- Walks of layer 16's reference: a program with its roots. -/
import Derived.Test.YtokjkligechcoaaGreatDoorKj
namespace Go.Proofs.YtokjkligechcoaaGreatDoor
open Go.RowKit
set_option linter.unusedVariables false
attribute [local go_sem] ext_mk size_mk toList_mk get_mk take_drop_len take_tail_len ByteArray.mk_append_mk List.append_toArray

/-- what Roots answers, both sides -/
def RtsR (P : Pg) (w : World) (e : Ending) (w' : World) : Prop :=
  Below w.heap.size w w' ∧ (((formsL (cpP true P)).2.2 = 0 ∧ ∃ fa fc sa sc ra rc, e = .returned (.tuple #[.agg #[.slice fa P.fs.length fc, .slice sa P.ss.length sc, .slice ra P.us.length rc, .int .i64 P.en], .int .i64 0]) ∧ PgK (KUp w.heap.size) w' fa sa ra (rootP (cpP true P)))
  ∨ ((formsL (cpP true P)).2.2 ≠ 0 ∧ e = .returned (.tuple #[.agg #[.slice none 0 0, .slice none 0 0, .slice none 0 0, .int .i64 0], .int .i64 (formsL (cpP true P)).2.2])))

theorem below_gr {w W V : World} {c : Nat} (h : Below w.heap.size w W) (hg : W.grownBy V (some c)) (hc : w.heap.size ≤ c) : Below w.heap.size w V := h.grown hg h.size (fun k hk => by injection hk with hk; omega)

theorem bare_nil {P : Pg} {f : Fu} (h : f ∈ (cpP true P).fs) : ∀ x ∈ f.code, x.lv = [] := by
  obtain ⟨g, -, rfl⟩ := List.mem_map.1 (show f ∈ P.fs.map (cpF true) from h)
  intro x hx
  obtain ⟨y, -, rfl⟩ := List.mem_map.1 (show x ∈ g.code.map (cpI true) from hx)
  rfl

theorem row3 {W : World} {b i : Nat} {cs : Array Value} {T : TypeId} {x y z : Value} (h : W.heap[b]? = some (.cells cs T (0, 0))) (h0 : cs[i * 3]? = some x) (h1 : cs[i * 3 + 1]? = some y) (h2 : cs[i * 3 + 2]? = some z) : W.cell? ⟨b, i * 3, none⟩ = some x ∧ W.cell? ⟨b, i * 3 + 1, none⟩ = some y ∧ W.cell? ⟨b, i * 3 + 2, none⟩ = some z := by
  refine ⟨?_, ?_, ?_⟩ <;> (rw [cell_of_row _ _ _ _ _ _ h]; assumption)

theorem pgk_res {s : Nat} {W : World} {fa sa ra : Option Addr} {P : Pg} (h : PgK (KUp (s + 1)) W fa sa ra P) (a b c d : Value) : PgK (KUp s) ((((W.setCell ⟨s + 1, 0, none⟩ a).setCell ⟨s + 1, 1, none⟩ b).setCell ⟨s + 1, 2, none⟩ c).setCell ⟨s + 1, 3, none⟩ d) fa sa ra P := by
  have q : ∀ (W : World) i v, Kp (KUp (s + 1)) W (W.setCell ⟨s + 1, i, none⟩ v) := fun W i v => Kp.set ⟨s + 1, i, none⟩ v (fun _ _ _ h => Nat.lt_irrefl (s + 1) h)
  exact ((((h.kp (q _ 0 a)).kp (q _ 1 b)).kp (q _ 2 c)).kp (q _ 3 d)).wk (fun b T _ k => Nat.lt_of_succ_lt k)

set_option maxHeartbeats 8000000 in
set_option maxRecDepth 8000 in
theorem rrootsP_any (fa sa ra : Option Addr) (fc sc rc : Nat) (P : Pg) (w : World) (hP : PgAt w fa sa ra P) (hR : PgR P) :
    Calls Tryz.prog 17 #[.agg #[.slice fa P.fs.length fc, .slice sa P.ss.length sc, .slice ra P.us.length rc, .int .i64 P.en]] w (RtsR P w) := by
  have S := Lib.hid hP
  have CC := Lib.hid (fun W h => rcopy_srt true fa sa ra fc sc rc P W h hR)
  have CF := Lib.hid (fun fa sa ra fc sc rc W h => rforms_any fa sa ra fc sc rc (cpP true P) W h)
  have l1 : (cpP true P).fs.length = P.fs.length := by simp [cpP]
  have HU := Lib.hid (show ∀ u ∈ (cpP true P).us, 0 ≤ u ∧ u < 18446744073709551616 from hP.z)
  have LM := Lib.hid (show (cpP true P).fs.length ≤ maxLen by rw [l1]; exact hP.f.1)
  obtain ⟨Q, hQ⟩ : ∃ Q, cpP true P = Q := ⟨_, rfl⟩
  have HBN := Lib.hid (fun f (h : f ∈ Q.fs) => (show ∀ x ∈ f.code, x.lv = [] from bare_nil (P := P) (by rw [hQ]; exact h)))
  have l2 : Q.ss.length = P.ss.length := by rw [← hQ]; rfl
  have l3 : Q.us.length = P.us.length := by rw [← hQ]; rfl
  have l4 : Q.en = P.en := by rw [← hQ]; rfl
  unfold RtsR CpD at *
  rw [hQ] at l1 CF CC HU LM ⊢
  rw [l1, l2, l3, l4] at CF
  obtain ⟨nf, hnf⟩ : ∃ n, P.fs.length = n := ⟨_, rfl⟩
  obtain ⟨ns, hns⟩ : ∃ n, P.ss.length = n := ⟨_, rfl⟩
  obtain ⟨nu, hnu⟩ : ∃ n, P.us.length = n := ⟨_, rfl⟩
  obtain ⟨en, hen⟩ : ∃ n, P.en = n := ⟨_, rfl⟩
  rw [hnf, hns, hnu, hen] at CF CC ⊢
  rw [hnf] at l1
  have HL := Lib.hid l1
  obtain ⟨W0, hW0⟩ : ∃ W, (w.alloc (.cells #[.slice fa nf fc, .slice sa ns sc, .slice ra nu rc, .int .i64 en] 26)).alloc rzBlk = W := ⟨_, rfl⟩
  have hb0 : Below w.heap.size w W0 := by rw [← hW0]; exact ((Below.refl _ _).alloc (Nat.le_refl _) _).alloc (by simp) _
  have k0 : KAt W0 w.heap.size (.cells #[.slice fa nf fc, .slice sa ns sc, .slice ra nu rc, .int .i64 en] 26 (0, 0)) := by rw [← hW0]; exact (KAt.new w _).alloc _
  have k1 : KAt W0 (w.heap.size + 1) rzBlk := by
    have h := KAt.new (w.alloc (.cells #[.slice fa nf fc, .slice sa ns sc, .slice ra nu rc, .int .i64 en] 26)) rzBlk
    rw [show (w.alloc (.cells #[.slice fa nf fc, .slice sa ns sc, .slice ra nu rc, .int .i64 en] 26)).heap.size = w.heap.size + 1 from by simp] at h
    rw [← hW0]; exact h
  have B0 := Lib.hid hb0
  have K1 := Lib.hid k1
  obtain ⟨p0, p1, p2, p3⟩ := pbox_cells k0
  obtain ⟨⟨u1, u2, u3⟩, hu⟩ : ∃ t, formsL Q = t := ⟨_, rfl⟩
  have HFL := Lib.hid hu
  rw [hu] at CF ⊢
  clear hP hR hb0 k0 k1 hnf hns hnu hen l1 l2 l3 l4 hQ hu
  unfold rzBlk at hW0
  dsimp only at *
  have hi' : (Tryz.prog.info? 26).map (·.size) = some 4 := by kernel_rfl
  go_enter Tryz.func17, Tryz.ntmps17
  go_wp2_with fail
  try rw [hW0]
  by_cases h0 : u3 = 0
  rotate_left
  · have k0 : (u3 != 0) = true := by simpa using h0
    go_wp2_with (first
      | (go_at_call 21; refine (CC.out _ (S.out.below B0.out)).mono ?_; rintro e w2 ⟨ga, gc, ta, tc, va, vc, rfl, hD, hb2⟩; have D2 := Lib.hid hD; have B2 := Lib.hid (B0.out.trans (hb2.mono B0.out.size)); have Z2 := Lib.hid (K1.out.below hb2); have KQ := Lib.hid (KAt.new w2 (.cells #[.slice ga nf gc, .slice ta ns tc, .slice va nu vc, .int .i64 en] 26 (0, 0))); have B3 := Lib.hid ((Below.refl w2.heap.size w2).alloc (Nat.le_refl _) (.cells #[.slice ga nf gc, .slice ta ns tc, .slice va nu vc, .int .i64 en] 26)); clear hD hb2 p0 p1 p2 p3)
      | (go_at_call 31; refine (CF.out _ _ _ _ _ _ _ ((D2.out.pg.at).below B3.out)).mono ?_; rintro e w3 ⟨rfl, hb3⟩; have B4 := Lib.hid ((B2.out.trans (B3.out.mono B2.out.size)).trans (hb3.mono (by have := B2.out.size; have := B3.out.size; omega))); have Z4 := Lib.hid ((Z2.out.below B3.out).below hb3); clear hb3; obtain ⟨z0, z1, z2, z3, y0, y1, y2, y3⟩ := Z4.out.zcells))
    (try simp only [Exit.inBlock, Exit.then]); refine bodyPost_ret (results_cell2 rfl _ _ (w.heap.size + 1) 26 _ (0, 0) _ rfl (p_set Z4.out _ _ _ _) Tryz.underlying26 rfl hi') rfl ?_
    exact ⟨(((B4.out.setCell (p := ⟨w.heap.size + 1, 0, none⟩) (Nat.le_succ _) _).setCell (p := ⟨w.heap.size + 1, 1, none⟩) (Nat.le_succ _) _).setCell (p := ⟨w.heap.size + 1, 2, none⟩) (Nat.le_succ _) _).setCell (p := ⟨w.heap.size + 1, 3, none⟩) (Nat.le_succ _) _, .inr ⟨h0, rfl⟩⟩
  subst h0
  obtain ⟨hz, hgood, hhead⟩ := formsL_good (p := Q) (by rw [HFL.out])
  have HG := Lib.hid hgood
  have hfn : 0 < nf := by have := (headB_len hhead).2.2.2.2; rw [HL.out] at this; omega
  have HNF := Lib.hid (show nf ≤ 65536 by have := (headB_len hhead).1; rw [HL.out] at this; exact this)
  clear hz hgood hhead HFL
  go_wp2_with (first
      | (go_at_call 21; refine (CC.out _ (S.out.below B0.out)).mono ?_; rintro e w2 ⟨ga, gc, ta, tc, va, vc, rfl, hD, hb2⟩; have D2 := Lib.hid hD; have B2 := Lib.hid (B0.out.trans (hb2.mono B0.out.size)); have Z2 := Lib.hid (K1.out.below hb2); have KQ := Lib.hid (KAt.new w2 (.cells #[.slice ga nf gc, .slice ta ns tc, .slice va nu vc, .int .i64 en] 26 (0, 0))); have B3 := Lib.hid ((Below.refl w2.heap.size w2).alloc (Nat.le_refl _) (.cells #[.slice ga nf gc, .slice ta ns tc, .slice va nu vc, .int .i64 en] 26)); clear hD hb2 p0 p1 p2 p3)
      | (go_at_call 31; refine (CF.out _ _ _ _ _ _ _ ((D2.out.pg.at).below B3.out)).mono ?_; rintro e w3 ⟨rfl, hb3⟩; have B4 := Lib.hid ((B2.out.trans (B3.out.mono B2.out.size)).trans (hb3.mono (by have := B2.out.size; have := B3.out.size; omega))); have Z4 := Lib.hid ((Z2.out.below B3.out).below hb3); have KQ4 := Lib.hid (KQ.out.below hb3); have D4 := Lib.hid ((D2.out.kp (Kp.below B3.out)).kp (Kp.below hb3)); clear hb3))
  have hd := D4.out.wk (K' := KUp (w.heap.size + 1)) (fun b T _ h => Nat.lt_of_le_of_lt (show w.heap.size + 1 ≤ W0.heap.size from Nat.le_of_lt (heap_lt K1.out.x)) h)
  obtain ⟨b, cs, rfl, hRS⟩ := RoS.start hd (by intro q; have := HL.out; rw [q] at this; simp at this; omega)
  have RS0 := Lib.hid hRS
  obtain ⟨q, hq⟩ : ∃ q, w2.heap.size = q := ⟨_, rfl⟩
  have KQ5 := Lib.hid (show KAt w3 q (.cells #[.slice (some ⟨b, 0, none⟩) nf gc, .slice ta ns tc, .slice va nu vc, .int .i64 en] 26 (0, 0)) by rw [← hq]; exact KQ4.out)
  rw [hq]
  clear hd hRS hq D4 D2 KQ KQ4 Z2 B2 B3 CC CF S K1 B0
  go_loopw [8] (fun v8 wr => ∃ i : Nat, v8 = .int .i64 (i : Int) ∧ i ≤ nf ∧ Below w.heap.size w wr ∧ KAt wr (w.heap.size + 1) rzBlk ∧ KAt wr q (.cells #[.slice (some ⟨b, 0, none⟩) nf gc, .slice ta ns tc, .slice va nu vc, .int .i64 en] 26 (0, 0)) ∧ RoS (w.heap.size + 1) wr b cs ta va Q i) (fun v8 _ => nf - (intOf v8).toNat)
  case atStart => exact ⟨0, rfl, Nat.zero_le _, B4.out, Z4.out, KQ5.out, RS0.out⟩
  case round =>
    clear B4 Z4 KQ5 RS0
    obtain ⟨i, rfl, hi, hb, hz, hk, hr⟩ := hrel
    have HB := Lib.hid hb
    have HZ := Lib.hid hz
    have HKQ := Lib.hid hk
    have HRS := Lib.hid hr
    obtain ⟨q0, q1, q2, q3⟩ := pbox_cells hk
    by_cases hlt : i < nf
    · have hn6 := HNF.out
      have hil : i < Q.fs.length := by rw [HL.out]; exact hlt
      have hf : Q.fs[i]? = some Q.fs[i] := List.getElem?_eq_getElem hil
      obtain ⟨f, hfe⟩ : ∃ f, Q.fs[i] = f := ⟨_, rfl⟩
      rw [hfe] at hf
      have HF := Lib.hid hf
      have hgf := HG.out f (List.mem_of_getElem? hf)
      have hln := HBN.out f (List.mem_of_getElem? hf)
      have hok := good_okQ hgf
      obtain ⟨ca, cc, c0, c1, c2, c3, hcb⟩ := hr.next hf
      have C2 := Lib.hid c2
      obtain ⟨x0, x1, x2⟩ := row3 hr.b c0 c1 c2
      have it : ((i : Int)).toNat = i := Int.toNat_natCast i
      have hlo : w.heap.size + 1 + 1 ≤ wr.heap.size := by have := hr.lb; have := heap_lt hr.b; omega
      clear hfe hil c0 c1 c2 c3 hb hz hk hr
      by_cases hn : f.code = []
      · have HN := Lib.hid hn
        rw [hn, List.length_nil] at x2
        have CR := Lib.hid (rroots_nil ca cc f.ps f.rs wr)
        clear hcb hok hgf hln hn
        go_wp2_with (go_at_call 40; refine CR.out.mono ?_; rintro e w5 ⟨⟨v, rfl⟩, hb5⟩; have B5 := Lib.hid hb5; clear hb5)
        go_roundw
        case rel => exact ⟨i + 1, by go_num, hlt, HB.out.trans (B5.out.mono HB.out.size), HZ.out.below B5.out, HKQ.out.below B5.out, (HRS.out.below B5.out).skip HF.out HN.out (rootF_nil HN.out)⟩
        case measure => simp only [intOf]; omega
      · have HN := Lib.hid hn
        rcases hcb with r | ⟨c, ks, rfl, hc1, hc2, -, hc4⟩
        · exact absurd r hn
        have HC := Lib.hid (hc4 trivial)
        have HLC := Lib.hid hc1
        have HKS := Lib.hid hc2
        have e2 : ((f.rs.toNat : Nat) : Int) = f.rs := Int.toNat_of_nonneg (Int.le_trans hgf.ps hgf.le)
        have CR := Lib.hid (rroots_any (w.heap.size + 1 + 1) c cc f.ps f.rs.toNat f.code wr (hc4 trivial) hlo hok hln (by have := hgf.rs; omega) hgf.cn)
        rw [e2] at CR
        clear hok hgf hln hn hc1 hc2 hc4
        go_wp2_with (go_at_call 40; refine CR.out.mono ?_; rintro e w5 ⟨⟨v, rfl⟩, hg5, hc5⟩; have G5 := Lib.hid hg5; have C5 := Lib.hid hc5; clear hg5 hc5)
        go_roundw
        case rel => exact ⟨i + 1, by go_num, hlt, below_gr HB.out G5.out (by have := HLC.out; omega), HZ.out.gr G5.out HKS.out (by unfold rzBlk; intro r; injection r with r1 r2; exact absurd r2 (by decide)), HKQ.out.gr G5.out HKS.out (by intro r; injection r with r1 r2; exact absurd r2 (by decide)), HRS.out.step HF.out C2.out HN.out HC.out HLC.out G5.out C5.out⟩
        case measure => simp only [intOf]; omega
    · obtain rfl : i = nf := by omega
      rw [← HL.out] at hr
      have HD := Lib.hid (hr.done LM.out HU.out)
      obtain ⟨z0, z1, z2, z3, y0, y1, y2, y3⟩ := hz.zcells
      clear hb hz hk hr HRS
      go_wp2_with fail
      (try simp only [Exit.inBlock, Exit.then]); refine bodyPost_ret (results_cell2 rfl _ _ (w.heap.size + 1) 26 _ (0, 0) _ rfl (p_set HZ.out _ _ _ _) Tryz.underlying26 rfl hi') rfl ?_
      refine ⟨(((HB.out.setCell (p := ⟨w.heap.size + 1, 0, none⟩) (Nat.le_succ _) _).setCell (p := ⟨w.heap.size + 1, 1, none⟩) (Nat.le_succ _) _).setCell (p := ⟨w.heap.size + 1, 2, none⟩) (Nat.le_succ _) _).setCell (p := ⟨w.heap.size + 1, 3, none⟩) (Nat.le_succ _) _, _, gc, ta, tc, va, ⟨vc, rfl⟩, ?_⟩
      exact pgk_res HD.out _ _ _ _
end Go.Proofs.YtokjkligechcoaaGreatDoor
