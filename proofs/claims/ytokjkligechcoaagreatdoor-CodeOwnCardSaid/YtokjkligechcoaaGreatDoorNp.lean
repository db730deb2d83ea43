/- CodeOwn, walked. -/
import Derived.Test.YtokjkligechcoaaGreatDoorNo
import Derived.Test.YtokjkligechcoaaGreatDoorNf
import Derived.Test.YtokjkligechcoaaGreatDoorKt
set_option linter.unusedVariables false
namespace Go.Proofs.YtokjkligechcoaaGreatDoor
open _root_.Go.Lib (hid)
open Go.RowKit
attribute [local go_sem] ext_mk size_mk toList_mk get_mk take_drop_len take_tail_len ByteArray.mk_append_mk List.append_toArray
/-- the blocks of the copy -/
abbrev KIn (B H : Nat) : Nat → TypeId → Prop := fun b _ => B < b ∧ b < H
/-- what the roots' walk tells, fine or not -/
noncomputable def rtP (P : Pg) : Pg := if (formsL (cpP true P)).2.2 = 0 then rootP (cpP true P) else pg0
theorem rts_un {P : Pg} {w : World} {e : Ending} {w' : World} (h : RtsR P w e w') : ∃ fa fc sa sc ra rc, e = .returned (.tuple #[.agg #[.slice fa (rtP P).fs.length fc, .slice sa (rtP P).ss.length sc, .slice ra (rtP P).us.length rc, .int .i64 (rtP P).en], .int .i64 (formsL (cpP true P)).2.2]) ∧ PgK (KUp w.heap.size) w' fa sa ra (rtP P) ∧ Below w.heap.size w w' := by
 obtain ⟨hb, ⟨h0, fa, fc, sa, sc, ra, rc, h1, h2⟩ | ⟨h0, h1⟩⟩ := h
 ·have e1 : rtP P = rootP (cpP true P) := if_pos h0
  rw [e1, h0]
  refine ⟨fa, fc, sa, sc, ra, rc, ?_, h2, hb⟩
  rw [show (rootP (cpP true P)).fs.length = P.fs.length by simp [rootP, cpP]]
  exact h1
 ·have e1 : rtP P = pg0 := if_neg h0
  rw [e1]
  exact ⟨none, 0, none, 0, none, 0, h1, pg0_at _ _, hb⟩
/-- the state while the copy is written over -/
structure OwM (w : World) (B H q0 r0 : Nat) (Op Oq Or : Array Value) (fb sb ga ta va : Option Addr) (P R : Pg) (W : World) : Prop where
 be : Below w.heap.size w W
 p : KAt W w.heap.size (.cells Op 26 (0, 0))
 q : KAt W q0 (.cells Oq 26 (0, 0))
 r : KAt W r0 (.cells Or 26 (0, 0))
 f : ShF (KIn B H) W fb P.fs
 s : ShS (KIn B H) W sb P.ss.length
 k : PgK (KUp H) W ga ta va R
 wB : w.heap.size ≤ B
section
variable {w W V : World} {B H q0 r0 : Nat} {Op Oq Or : Array Value} {fb sb ga ta va : Option Addr} {P R : Pg}
theorem OwM.below (h : OwM w B H q0 r0 Op Oq Or fb sb ga ta va P R W) (hb : Below W.heap.size W V) : OwM w B H q0 r0 Op Oq Or fb sb ga ta va P R V :=
 ⟨h.be.trans (hb.mono h.be.size), h.p.below hb, h.q.below hb, h.r.below hb, h.f.kp (ShK.below hb), h.s.kp (ShK.below hb), h.k.kp (Kp.below hb), h.wB⟩
theorem OwM.put {b i : Nat} {u : Value} {T : TypeId} (h : OwM w B H q0 r0 Op Oq Or fb sb ga ta va P R W) (hb : ∃ cs, W.heap[b]? = some (.cells cs T (0, 0))) (hT : T ≠ 26) (h1 : KIn B H b T) (sk : ShK (KIn B H) W (W.setCell ⟨b, i, none⟩ u)) : OwM w B H q0 r0 Op Oq Or fb sb ga ta va P R (W.setCell ⟨b, i, none⟩ u) := by
 obtain ⟨cs, hb⟩ := hb
 have hne : ∀ {m : Nat} {O : Array Value}, KAt W m (.cells O 26 (0, 0)) → KAt (W.setCell ⟨b, i, none⟩ u) m (.cells O 26 (0, 0)) := by
  intro m O k
  refine k.put ⟨b, i, none⟩ ?_ u
  rintro rfl
  have e := k.x
  rw [hb] at e
  exact hT (Obj.cells.inj (Option.some.inj e)).2.1
 exact ⟨h.be.setCell (p := ⟨b, i, none⟩) (Nat.le_trans h.wB (Nat.le_of_lt h1.1)) u, hne h.p, hne h.q, hne h.r, h.f.kp sk, h.s.kp sk, h.k.kp (Kp.set2 (cs := cs) (T := T) ⟨hb⟩ (fun c => absurd h1.2 (Nat.not_lt.2 (Nat.le_of_lt c))) i u), h.wB⟩
end
section
variable {K K' : Nat → TypeId → Prop} {W : World}
theorem ShL.wk {a : Option Addr} {n : Nat} (h : ShL K W a n) (q : ∀ b T, b < W.heap.size → K b T → K' b T) : ShL K' W a n := by
 rcases h with h | ⟨b, cs, h1, h2, h3, h4⟩
 ·exact .inl h
 ·exact .inr ⟨b, cs, h1, q b _ (heap_lt h3) h2, h3, h4⟩
theorem ShS.wk {a : Option Addr} {n : Nat} (h : ShS K W a n) (q : ∀ b T, b < W.heap.size → K b T → K' b T) : ShS K' W a n := by
 rcases h with h | ⟨b, cs, h1, h2, h3, h4⟩
 ·exact .inl h
 ·exact .inr ⟨b, cs, h1, q b _ (heap_lt h3) h2, h3, h4⟩
theorem ShC.wk {a : Option Addr} {cd : List In} (h : ShC K W a cd) (q : ∀ b T, b < W.heap.size → K b T → K' b T) : ShC K' W a cd := by
 rcases h with h | ⟨b, cs, h1, h2, h3, h4⟩
 ·exact .inl h
 ·refine .inr ⟨b, cs, h1, q b _ (heap_lt h3) h2, h3, fun i x e => ?_⟩
  obtain ⟨u, la, lc, k0, kn, k4, k5⟩ := h4 i x e
  exact ⟨u, la, lc, k0, kn, k4, k5.wk q⟩
theorem ShF.wk {a : Option Addr} {fs : List Fu} (h : ShF K W a fs) (q : ∀ b T, b < W.heap.size → K b T → K' b T) : ShF K' W a fs := by
 rcases h with h | ⟨b, cs, h1, h2, h3, h4⟩
 ·exact .inl h
 ·refine .inr ⟨b, cs, h1, q b _ (heap_lt h3) h2, h3, fun i f e => ?_⟩
  obtain ⟨ca, cc, k0, k1⟩ := h4 i f e
  exact ⟨ca, cc, k0, k1.wk q⟩
end
/-- the state to begin with: the copy in its box, its roots told -/
theorem OwM.begin {w w1 w2 : World} {fb sb rb ga ta va : Option Addr} {P R : Pg} {Op Oq Or : Array Value}
  (kp : KAt w w.heap.size (.cells Op 26 (0, 0)) ∨ KAt (w.alloc (.cells Op 26)) w.heap.size (.cells Op 26 (0, 0)))
  (hD : PgK (KUp (w.alloc (.cells Op 26)).heap.size) w1 fb sb rb P) (hb : Below (w.alloc (.cells Op 26)).heap.size (w.alloc (.cells Op 26)) w1)
  (hk : PgK (KUp (w1.alloc (.cells Oq 26)).heap.size) w2 ga ta va R) (hb2 : Below (w1.alloc (.cells Oq 26)).heap.size (w1.alloc (.cells Oq 26)) w2) :
  OwM w w.heap.size (w1.heap.size + 1) w1.heap.size w2.heap.size Op Oq Or fb sb ga ta va P R (w2.alloc (.cells Or 26)) := by
 have e0 : (w.alloc (.cells Op 26)).heap.size = w.heap.size + 1 := by simp
 have e1 : (w1.alloc (.cells Oq 26)).heap.size = w1.heap.size + 1 := by simp
 rw [e0] at hD hb
 rw [e1] at hk hb2
 have kp' : KAt (w.alloc (.cells Op 26)) w.heap.size (.cells Op 26 (0, 0)) := KAt.new w _
 have b0 : Below w.heap.size w (w.alloc (.cells Op 26)) := (Below.refl _ _).alloc (Nat.le_refl _) _
 have hb' : Below (w.alloc (.cells Op 26)).heap.size (w.alloc (.cells Op 26)) w1 := by rw [e0]; exact hb
 have hb2' : Below (w1.alloc (.cells Oq 26)).heap.size (w1.alloc (.cells Oq 26)) w2 := by rw [e1]; exact hb2
 have b1 : Below w1.heap.size w1 (w1.alloc (.cells Oq 26)) := (Below.refl _ _).alloc (Nat.le_refl _) _
 have b2 : Below w2.heap.size w2 (w2.alloc (.cells Or 26)) := (Below.refl _ _).alloc (Nat.le_refl _) _
 have hs1 : w.heap.size + 1 ≤ w1.heap.size := by have := hb'.size; omega
 have hs2 : w1.heap.size + 1 ≤ w2.heap.size := by have := hb2'.size; omega
 have c1 : Below w.heap.size w (w1.alloc (.cells Oq 26)) := (b0.trans (hb'.mono (by omega))).trans (b1.mono (by omega))
 have d1 : Below w1.heap.size w1 (w2.alloc (.cells Or 26)) := (b1.trans (hb2'.mono (by omega))).trans (b2.mono (by omega))
 refine ⟨(c1.trans (hb2'.mono (by omega))).trans (b2.mono (by omega)), ?_, ((KAt.new w1 _).below hb2').below b2, KAt.new w2 _, ?_, ?_, hk.kp (Kp.below b2), Nat.le_refl _⟩
 ·exact (kp'.below hb').below d1
 ·exact ((ShF.of hD.f).wk (fun b T h1 h2 => ⟨Nat.lt_of_succ_lt h2, by omega⟩)).kp (ShK.below d1)
 ·exact ((ShS.of hD.s).wk (fun b T h1 h2 => ⟨Nat.lt_of_succ_lt h2, by omega⟩)).kp (ShK.below d1)
set_option maxHeartbeats 20000000 in
set_option maxRecDepth 8000 in
theorem codeOwn_walk (hA : ∀ W, PrVars W → Calls Tryz.prog 13 #[] W fun e w' => e = .returned (.bool true) ∧ Below W.heap.size W w') (fa sa ra : Option Addr) (fc sc rc : Nat) (P : Pg) (w : World) (hP : PgAt w fa sa ra P) (hR : PgR P) (hV : PrVars w) (hBV : BitV w) :
  Calls Tryz.prog 8 #[.agg #[.slice fa P.fs.length fc, .slice sa P.ss.length sc, .slice ra P.us.length rc, .int .i64 P.en]] w fun e w' => e = .returned (.bool true) ∧ Below w.heap.size w w' := by
 have PG := hid hP
 have HRC := hid hR.c
 have CA := hid (fun W (h : Below w.heap.size w W) => hA W (hV.below h))
 have CO := hid (fun W (h : Below w.heap.size w W) => rcopy_any false fa sa ra fc sc rc P W (hP.below h) hR)
 have CR := hid (fun a b c i j k W h => crootsP_any a b c i j k P W h hR)
 have CK := hid (fun a b c i j k W h => check_any a b c i j k P W h)
 have CP := hid (fun a b c i j k W h (hb : Below w.heap.size w W) => print_any a b c i j k P W h (hV.below hb) (hBV.below hb))
 have CE := hid (fun a b c i j k W h => encode_any a b c i j k P W h)
 have CS := hid (fun a b c i j k a' b' c' i' j' k' W h h' => rsame_any a b c i j k a' b' c' i' j' k' P W h h')
 have CT := hid (fun a b c i j k a' b' c' i' j' k' W h h' => rsame_any a b c i j k a' b' c' i' j' k' (rtP P) W h h')
 have CQ := hid (fun W (h : Below w.heap.size w W) => rrootsP_any fa sa ra fc sc rc P W (hP.below h) hR)
 have CL := hid (fun W (h : Below w.heap.size w W) => rcheck_any fa sa ra fc sc rc P W (hP.below h))
 have hlf := hP.f.1
 have hls := hP.s.1
 unfold maxLen at hlf hls
 obtain ⟨nf, hnf⟩ : ∃ n, P.fs.length = n := ⟨_, rfl⟩
 obtain ⟨ns, hns⟩ : ∃ n, P.ss.length = n := ⟨_, rfl⟩
 obtain ⟨nu, hnu⟩ : ∃ n, P.us.length = n := ⟨_, rfl⟩
 obtain ⟨en, hen⟩ : ∃ n, P.en = n := ⟨_, rfl⟩
 obtain ⟨⟨u1, u2, u3⟩, hck⟩ : ∃ t, checkL P = t := ⟨_, rfl⟩
 obtain ⟨z, hz⟩ : ∃ z, (formsL (cpP true P)).2.2 = z := ⟨_, rfl⟩
 unfold CpR at CO
 rw [hnf, hns, hnu, hen] at CO CR CK CP CE CS CQ CL ⊢
 rw [hck] at CK CL
 rw [hnf] at hlf
 rw [hns] at hls
 have HNF := hid hnf
 have HNS := hid hns
 have HZ := hid hz
 have B0 := hid (show Below w.heap.size w (w.alloc (.cells #[.slice fa nf fc, .slice sa ns sc, .slice ra nu rc, .int .i64 en] 26)) from (Below.refl _ _).alloc (Nat.le_refl _) _)
 have KP0 := hid (KAt.new w (.cells #[.slice fa nf fc, .slice sa ns sc, .slice ra nu rc, .int .i64 en] 26 (0, 0)))
 obtain ⟨p0, p1, p2, p3⟩ := pbox_cells KP0.out
 clear hP hR hV hBV hA hnf hns hnu hen hck hz
 go_enter Tryz.func8, Tryz.ntmps8
 go_upto_region 8 with (first
  | (go_at_call 21; (with_reducible refine (CO.out _ B0.out).mono ?_); rintro e w1 ⟨fb, fd, sb, sd, rb, rd, rfl, hD, hb⟩; rw [cpP_same] at hD; have HD1 := hid hD; have BC := hid hb; have QA := hid (hD.at.below ((Below.refl w1.heap.size w1).alloc (Nat.le_refl _) (.cells #[.slice fb nf fd, .slice sb ns sd, .slice rb nu rd, .int .i64 en] 26))); have KQ1 := hid (KAt.new w1 (.cells #[.slice fb nf fd, .slice sb ns sd, .slice rb nu rd, .int .i64 en] 26 (0, 0))); clear p0 p1 p2 p3 hD hb; obtain ⟨q0, q1, q2, q3⟩ := pbox_cells KQ1.out)
  | (go_at_call 16; (with_reducible refine (CR.out fb sb rb fd sd rd _ QA.out).mono ?_); rintro e w2 hr; obtain ⟨ga, gc, ta, tc, va, vc, rfl, hk, hb⟩ := rts_un hr; rw [HZ.out]; have OM2 := hid (OwM.begin (Or := #[.slice ga (rtP P).fs.length gc, .slice ta (rtP P).ss.length tc, .slice va (rtP P).us.length vc, .int .i64 (rtP P).en]) (.inr KP0.out) HD1.out BC.out hk hb); have QA2 := hid ((QA.out.below hb).below ((Below.refl w2.heap.size w2).alloc (Nat.le_refl _) (.cells #[.slice ga (rtP P).fs.length gc, .slice ta (rtP P).ss.length tc, .slice va (rtP P).us.length vc, .int .i64 (rtP P).en] 26))); clear hr hk hb q0 q1 q2 q3; obtain ⟨q0, q1, q2, q3⟩ := pbox_cells OM2.out.q)
  | (go_at_call 11; (with_reducible refine (CK.out fb sb rb fd sd rd _ QA2.out).mono ?_); rintro e w3 ⟨rfl, hb⟩; have OM3 := hid (OM2.out.below hb); have QA3 := hid (QA2.out.below hb); clear hb q0 q1 q2 q3; obtain ⟨q0, q1, q2, q3⟩ := pbox_cells OM3.out.q)
  | (go_at_call 22; (with_reducible refine (CP.out fb sb rb fd sd rd _ QA3.out OM3.out.be).mono ?_); rintro e w4 ⟨⟨u, rfl⟩, hb⟩; have OM4 := hid (OM3.out.below hb); have QA4 := hid (QA3.out.below hb); clear hb q0 q1 q2 q3; obtain ⟨q0, q1, q2, q3⟩ := pbox_cells OM4.out.q)
  | (go_at_call 19; (with_reducible refine (CE.out fb sb rb fd sd rd _ QA4.out).mono ?_); rintro e w5 ⟨v, rfl, -, hb⟩; have OM5 := hid (OM4.out.below hb); have QA5 := hid (QA4.out.below hb); clear hb q0 q1 q2 q3; obtain ⟨q0, q1, q2, q3⟩ := pbox_cells OM5.out.q; obtain ⟨p0, p1, p2, p3⟩ := pbox_cells OM5.out.p)
  | (go_at_call 18; (with_reducible refine (CS.out fa sa ra fc sc rc fb sb rb fd sd rd _ (PG.out.below OM5.out.be) QA5.out).mono ?_); rintro e w6 ⟨rfl, hb⟩; have OM6 := hid (OM5.out.below hb); clear hb q0 q1 q2 q3 p0 p1 p2 p3)
  | (go_at_call 13; (with_reducible refine (CA.out _ OM6.out.be).mono ?_); rintro e w7 ⟨rfl, hb⟩; have OM7 := hid (OM6.out.below hb); clear hb; obtain ⟨q0, q1, q2, q3⟩ := pbox_cells OM7.out.q))
 clear QA QA2 QA3 QA4 QA5 OM2 OM3 OM4 OM5 OM6 HD1 BC KQ1 KP0 B0 CO CR CK CP CE CS CA
 go_wp2_with fail
 clear q0 q1 q2 q3
 go_loopw [46] (fun v46 wr => ∃ i : Nat, v46 = .int .i64 (i : Int) ∧ i ≤ nf ∧ OwM w w.heap.size (w1.heap.size + 1) w1.heap.size w2.heap.size #[.slice fa nf fc, .slice sa ns sc, .slice ra nu rc, .int .i64 en] #[.slice fb nf fd, .slice sb ns sd, .slice rb nu rd, .int .i64 en] #[.slice ga (rtP P).fs.length gc, .slice ta (rtP P).ss.length tc, .slice va (rtP P).us.length vc, .int .i64 (rtP P).en] fb sb ga ta va P (rtP P) wr) (fun v46 _ => nf - (intOf v46).toNat)
 case atStart => exact ⟨0, rfl, Nat.zero_le _, OM7.out⟩
 case round =>
  clear OM7
  obtain ⟨i, rfl, hi, hM⟩ := hrel
  have M1 := hid hM
  obtain ⟨q0, q1, q2, q3⟩ := pbox_cells hM.q
  by_cases hlt : i < nf
  ·obtain ⟨f, ef⟩ : ∃ f, P.fs[i]? = some f := ⟨_, List.getElem?_eq_getElem (show i < P.fs.length by rw [HNF.out]; exact hlt)⟩
   have EF := hid ef
   obtain ⟨b, ca, cc, hfb, c2, -⟩ := hM.f.at ef
   subst hfb
   obtain ⟨nc, hnc⟩ : ∃ n, f.code.length = n := ⟨_, rfl⟩
   have HNC := hid hnc
   have hnb : nc ≤ 140737488355328 := by have := (HRC.out f (List.mem_of_getElem? ef)).1; omega
   rw [hnc] at c2
   have it : ((i : Int)).toNat = i := Int.toNat_natCast i
   clear hM ef hnc
   go_wp2_with fail
   clear q0 q1 q2 q3 c2
   go_loopw [56] (fun v56 wy => ∃ k : Nat, v56 = .int .i64 (k : Int) ∧ k ≤ nc ∧ OwM w w.heap.size (w1.heap.size + 1) w1.heap.size w2.heap.size #[.slice fa nf fc, .slice sa ns sc, .slice ra nu rc, .int .i64 en] #[.slice (some ⟨b, 0, none⟩) nf fd, .slice sb ns sd, .slice rb nu rd, .int .i64 en] #[.slice ga (rtP P).fs.length gc, .slice ta (rtP P).ss.length tc, .slice va (rtP P).us.length vc, .int .i64 (rtP P).en] (some ⟨b, 0, none⟩) sb ga ta va P (rtP P) wy) (fun v56 _ => nc - (intOf v56).toNat)
   case atStart => exact ⟨0, rfl, Nat.zero_le _, M1.out⟩
   case round =>
    clear M1
    obtain ⟨k, rfl, hk, hM⟩ := hrel
    have M2 := hid hM
    obtain ⟨q0, q1, q2, q3⟩ := pbox_cells hM.q
    by_cases hkl : k < nc
    ·obtain ⟨x, ex⟩ : ∃ x, f.code[k]? = some x := ⟨_, List.getElem?_eq_getElem (show k < f.code.length by rw [HNC.out]; exact hkl)⟩
     have EX := hid ex
     obtain ⟨b', ca', cc', hfb, c2, hC⟩ := hM.f.at EF.out
     cases hfb
     obtain ⟨b2, la, lc, rfl, -, -, -, d4, hL, -, -⟩ := hC.at ex
     obtain ⟨nl, hnl⟩ : ∃ n, x.l.length = n := ⟨_, rfl⟩
     have HNL := hid hnl
     have hlb : nl ≤ 140737488355328 := by have := ((HRC.out f (List.mem_of_getElem? EF.out)).2 x (List.mem_of_getElem? ex)).1; omega
     rw [HNC.out] at c2
     rw [hnl] at d4
     have jt : ((k : Int)).toNat = k := Int.toNat_natCast k
     clear hM ex hnl hL hC
     go_wp2_with fail
     clear q0 q1 q2 q3 c2 d4
     go_loopw [70] (fun v70 wz => ∃ n : Nat, v70 = .int .i64 (n : Int) ∧ n ≤ nl ∧ OwM w w.heap.size (w1.heap.size + 1) w1.heap.size w2.heap.size #[.slice fa nf fc, .slice sa ns sc, .slice ra nu rc, .int .i64 en] #[.slice (some ⟨b, 0, none⟩) nf fd, .slice sb ns sd, .slice rb nu rd, .int .i64 en] #[.slice ga (rtP P).fs.length gc, .slice ta (rtP P).ss.length tc, .slice va (rtP P).us.length vc, .int .i64 (rtP P).en] (some ⟨b, 0, none⟩) sb ga ta va P (rtP P) wz) (fun v70 _ => nl - (intOf v70).toNat)
     case atStart => exact ⟨0, rfl, Nat.zero_le _, M2.out⟩
     case round =>
      clear M2
      obtain ⟨n, rfl, hn, hM⟩ := hrel
      have M3 := hid hM
      obtain ⟨q0, q1, q2, q3⟩ := pbox_cells hM.q
      obtain ⟨b', ca', cc', hfb, c2, hC⟩ := hM.f.at EF.out
      cases hfb
      obtain ⟨b2', la', lc', rfl, hK2, ⟨u0, d0⟩, z0, d4, hL, hB2, hS2⟩ := hC.at EX.out
      rw [HNC.out] at c2
      rw [HNL.out] at d4 hL
      have nt : ((n : Int)).toNat = n := Int.toNat_natCast n
      by_cases hnl : n < nl
      ·obtain ⟨b3, rfl, hK3, ⟨u3', l0⟩, zl, hB3, hS3⟩ := hL.at hnl
       have HH := hid (M3.out.put hB3 (by decide) hK3 (hS3 (.int .i64 (-9)) (NSl.int _ _)))
       clear hM hC hL hK2 hK3 hB2 hB3 hS2 hS3 z0 d0
       go_wp2_with fail
       go_roundw
       case rel => exact ⟨n + 1, by go_num, hnl, HH.out⟩
       case measure => simp only [intOf]; omega
      ·obtain rfl : n = nl := by omega
       have HH := hid (M3.out.put hB2 (by decide) hK2 (hS2 (.int .i64 0) (NSl.int _ _)))
       clear hM hC hL hK2 hB2 hS2 d4
       go_wp2_with fail
       go_roundw
       case rel => exact ⟨k + 1, by go_num, hkl, HH.out⟩
       case measure => simp only [intOf]; omega
    ·obtain rfl : k = nc := by omega
     clear hM q0 q1 q2 q3
     go_wp2_with fail
     go_roundw
     case rel => exact ⟨i + 1, by go_num, hlt, M2.out⟩
     case measure => simp only [intOf]; omega
  ·obtain rfl : i = nf := by omega
   clear hM
   go_wp2_with fail
   clear q0 q1 q2 q3
   go_loopw [100] (fun v100 wy => ∃ k : Nat, v100 = .int .i64 (k : Int) ∧ k ≤ ns ∧ OwM w w.heap.size (w1.heap.size + 1) w1.heap.size w2.heap.size #[.slice fa i fc, .slice sa ns sc, .slice ra nu rc, .int .i64 en] #[.slice fb i fd, .slice sb ns sd, .slice rb nu rd, .int .i64 en] #[.slice ga (rtP P).fs.length gc, .slice ta (rtP P).ss.length tc, .slice va (rtP P).us.length vc, .int .i64 (rtP P).en] fb sb ga ta va P (rtP P) wy) (fun v100 _ => ns - (intOf v100).toNat)
   case atStart => exact ⟨0, rfl, Nat.zero_le _, M1.out⟩
   case round =>
    clear M1
    obtain ⟨k, rfl, hk, hM⟩ := hrel
    have M2 := hid hM
    obtain ⟨q0, q1, q2, q3⟩ := pbox_cells hM.q
    have jt : ((k : Int)).toNat = k := Int.toNat_natCast k
    by_cases hkl : k < ns
    ·have hS := hM.s
     rw [HNS.out] at hS
     obtain ⟨b3, hb3, hK3, ⟨u3', l0⟩, zl, hB3, hS3⟩ := hS.at hkl
     subst hb3
     have HH := hid (M2.out.put hB3 (by decide) hK3 (hS3 (.string ⟨#[63]⟩) (NSl.str _)))
     clear hM hS hK3 hB3 hS3
     go_wp2_with fail
     go_roundw
     case rel => exact ⟨k + 1, by go_num, hkl, HH.out⟩
     case measure => simp only [intOf]; omega
    ·obtain rfl : k = ns := by omega
     obtain ⟨p0, p1, p2, p3⟩ := pbox_cells hM.p
     have e7 : (z == z) = true := by simp
     have e8 : (u3 == u3) = true := by simp
     clear hM q0 q1 q2 q3
     go_wp2_with (first
      | (go_at_call 17; go_loud (with_reducible refine (CQ.out _ M2.out.be).mono ?_); rintro e w8 hr; obtain ⟨ha, hc, ja, jc, ka, kc, rfl, hk8, hb⟩ := rts_un hr; rw [HZ.out]; have bb := (Below.refl w8.heap.size w8).alloc (Nat.le_refl _) (.cells #[.slice ha (rtP P).fs.length hc, .slice ja (rtP P).ss.length jc, .slice ka (rtP P).us.length kc, .int .i64 (rtP P).en] 26); have M8 := hid ((M2.out.below hb).below bb); have PA8 := hid (hk8.at.below bb); have K8 := hid (KAt.new w8 (.cells #[.slice ha (rtP P).fs.length hc, .slice ja (rtP P).ss.length jc, .slice ka (rtP P).us.length kc, .int .i64 (rtP P).en] 26 (0, 0))); clear hr hk8 hb bb p0 p1 p2 p3; obtain ⟨p0, p1, p2, p3⟩ := pbox_cells M8.out.p)
      | (go_at_call 12; (with_reducible refine (CL.out _ M8.out.be).mono ?_); rintro e w9 ⟨rfl, hb⟩; have M9 := hid (M8.out.below hb); have PA9 := hid (PA8.out.below hb); have K9 := hid (K8.out.below hb); clear hb p0 p1 p2 p3; obtain ⟨r0, r1, r2, r3⟩ := pbox_cells M9.out.r; obtain ⟨s0, s1, s2, s3⟩ := pbox_cells K9.out)
      | (go_at_call 18; (with_reducible refine (CT.out ga ta va gc tc vc ha ja ka hc jc kc _ M9.out.k.at PA9.out).mono ?_); rintro e w10 ⟨rfl, hb⟩; have MA := hid (M9.out.below hb); clear hb))
     go_ret
     exact ⟨rfl, MA.out.be⟩
end Go.Proofs.YtokjkligechcoaaGreatDoor
