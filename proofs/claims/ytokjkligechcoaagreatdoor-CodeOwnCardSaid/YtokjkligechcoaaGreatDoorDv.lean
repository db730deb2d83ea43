/- Walks of layer 16: a program's first fault, the program's side, for every program. -/
import Derived.Test.YtokjkligechcoaaGreatDoorDs
import Derived.Test.YtokjkligechcoaaGreatDoorDn
import Derived.Lib.Zigzag
set_option linter.unusedVariables false
namespace Go.Proofs.YtokjkligechcoaaGreatDoor
open _root_.Go.Lib (hid)
open Go.RowKit
open Fx
attribute [local go_sem] ext_mk size_mk toList_mk get_mk take_drop_len take_tail_len ByteArray.mk_append_mk List.append_toArray
/-- what stands in a program without a fault of form -/
structure GoodF (p : Pg) (f : Fu) : Prop where
 ps : 0 ≤ f.ps
 le : f.ps ≤ f.rs
 rs : f.rs ≤ 4096
 cn : f.code.length ≤ 65536
 x : ∀ (k : Nat) (y : In), f.code[k]? = some y → formI p.ss.length p.us.length (fpL p.fs) f.code.length f.rs y = true
theorem formsF_good (p : Pg) : ∀ (fs : List Fu) (i : Nat), (formsF p i fs).2.2 = 0 → (formsF p i fs) = (0, 0, 0) ∧ ∀ f ∈ fs, GoodF p f := by
 intro fs
 induction fs with
 | nil => intro i _; exact ⟨rfl, fun f h => absurd h (by simp)⟩
 | cons f fs ih =>
  intro i h
  have e : formsF p i (f :: fs) = if fnB f then ((i : Int), -1, 160) else match codeK p f with
   | some k => ((i : Int), (k : Int), 160)
   | none => formsF p (i + 1) fs := rfl
  cases hb : fnB f
  ·rw [hb] at e
   cases hk : codeK p f with
   | some k => rw [hk] at e; rw [e] at h; cases h
   | none =>
    rw [hk] at e
    replace e : formsF p i (f :: fs) = formsF p (i + 1) fs := e
    rw [e] at h ⊢
    obtain ⟨h1, h2⟩ := ih _ h
    refine ⟨h1, fun g hg => ?_⟩
    rcases List.mem_cons.1 hg with rfl | hg
    ·unfold fnB at hb
     simp at hb
     refine ⟨by omega, by omega, by omega, by omega, fun k x hx => ?_⟩
     unfold codeK at hk
     rw [List.findIdx?_eq_none_iff] at hk
     have := hk x (List.mem_of_getElem? hx)
     simpa using this
    ·exact h2 g hg
  ·rw [hb] at e
   rw [e] at h
   cases h
theorem formsL_good {p : Pg} (h : (formsL p).2.2 = 0) : formsL p = (0, 0, 0) ∧ (∀ f ∈ p.fs, GoodF p f) ∧ headB p = false := by
 unfold formsL at h ⊢
 split at h
 ·cases h
 ·rename_i hb
  rw [if_neg hb]
  obtain ⟨h1, h2⟩ := formsF_good p _ _ h
  exact ⟨h1, h2, by simpa using hb⟩
theorem headB_len {p : Pg} (h : headB p = false) : p.fs.length ≤ 65536 ∧ p.ss.length ≤ 65536 ∧ p.us.length ≤ 65536 ∧ (∀ s ∈ p.ss, s.length ≤ 65536) ∧ 0 ≤ p.en ∧ p.en < p.fs.length := by
 unfold headB at h
 simp only [Bool.or_eq_false_iff] at h
 obtain ⟨⟨⟨⟨⟨⟨h1, h2⟩, h3⟩, h4⟩, h5⟩, h6⟩, h7⟩ := h
 have h6' : insB p.en p.fs.length = true := by simpa using h6
 have := insB_true h6'
 simp at h2 h3 h4
 refine ⟨h2, h3, h4, fun s hs => ?_, this.1, this.2⟩
 rw [List.any_eq_false] at h5
 have := h5 s hs
 simpa [longB] using this
theorem flows_eq {ns nr : Nat} {fp : List Int} {rs : Nat} {pre : List In} {x : In} (h : formI ns nr fp (pre ++ [x]).length rs x = true) : flowsB (pre ++ [x]) = (onI x.op == 0) := by
 have e : flowsB (pre ++ [x]) = (nextL (pre.length : Int) x.op x.c x.l).any (fun t => t == ((pre.length + 1 : Nat) : Int)) := by simp [flowsB]
 rw [e]
 by_cases ho : onI x.op = 0
 ·rw [ho]
  have h9 : ¬ (x.op == 9 || x.op == 10) = true := fun q => by simp [onI, q] at ho
  have h11 : ¬ (x.op == 11 || x.op == 12 || x.op == 13) = true := fun q => by unfold onI at ho; rw [if_neg h9, if_pos q] at ho; exact absurd ho (by decide)
  simp only [Bool.or_eq_true, not_or] at h9 h11
  unfold nextL
  rw [if_neg (by simp only [Bool.or_eq_true]; simp [h11]), if_neg h9.1, if_neg h9.2]
  split
  ·simp
  ·simp
 ·have g := (form_ok (k := pre.length) h (.inr ⟨by simp, ho⟩)).go
  have : (onI x.op == 0) = false := by simpa using ho
  rw [this, List.any_eq_false]
  intro t ht q
  have q2 : t = ((pre.length + 1 : Nat) : Int) := by simpa using q
  have := (g t ht).2
  rw [List.length_append] at this
  simp at this
  omega
theorem good_okC {p : Pg} {ps rs : Nat} {pre : List In} {x : In} (h : GoodF p ⟨(ps : Int), (rs : Int), pre ++ [x]⟩) (ho : onI x.op ≠ 0) : OkC rs (pre ++ [x]) := by
 intro k y hy
 have hy2 := h.x k y hy
 refine form_ok hy2 ?_
 obtain ⟨hk, _⟩ := List.getElem?_eq_some_iff.1 hy
 rw [List.length_append, List.length_singleton] at hk
 by_cases hl : k = pre.length
 ·right
  subst hl
  rw [List.getElem?_concat_length] at hy
  cases hy
  exact ⟨by simp, ho⟩
 ·left
  simp
  omega
theorem checkF_at {fs : List Fu} {i : Nat} {f : Fu} (hf : fs[i]? = some f) : checkF i (fs.drop i) = if flowsB f.code then ((i : Int), (f.code.length : Int) - 1, 161) else if 0 ≤ unsetS f.code f.ps.toNat then ((i : Int), unsetS f.code f.ps.toNat, 162) else checkF (i + 1) (fs.drop (i + 1)) := by
 obtain ⟨hi, he⟩ := List.getElem?_eq_some_iff.1 hf
 rw [List.drop_eq_getElem_cons hi, he]
 rfl
theorem fbox_cells {W : World} {m : Nat} {a b : Int} {c : Value} (h : KAt W m (.cells #[.int .i64 a, .int .i64 b, c] 48 (0, 0))) : W.cell? ⟨m, 0, none⟩ = some (.int .i64 a) ∧ W.cell? ⟨m, 1, none⟩ = some (.int .i64 b) ∧ W.cell? ⟨m, 2, none⟩ = some c := by
 refine ⟨?_, ?_, ?_⟩
 all_goals (rw [cell_of_row _ _ _ _ _ _ h.x]; rfl)
set_option maxHeartbeats 8000000 in
set_option maxRecDepth 8000 in
theorem check_any (fa sa ra : Option Addr) (fc sc rc : Nat) (P : Pg) (w : World) (hP : PgAt w fa sa ra P) :
  Calls Tryz.prog 11 #[.agg #[.slice fa P.fs.length fc, .slice sa P.ss.length sc, .slice ra P.us.length rc, .int .i64 P.en]] w fun e w' => e = .returned (tri (checkL P)) ∧ Below w.heap.size w w' := by
 have S := hid hP
 have CW := hid (fun W => worldOf_full fa sa ra P.fs.length P.ss.length P.us.length fc sc rc P.en W)
 have CF := hid (fun p W h1 h2 => forms_any p fa sa ra fc sc rc P W h1 h2)
 have hA : Below w.heap.size w (w.alloc (.cells #[.slice fa P.fs.length fc, .slice sa P.ss.length sc, .slice ra P.us.length rc, .int .i64 P.en] 26)) := (Below.refl _ _).alloc (Nat.le_refl _) _
 have HA := hid hA
 have K0 := hid (KAt.new w (.cells #[.slice fa P.fs.length fc, .slice sa P.ss.length sc, .slice ra P.us.length rc, .int .i64 P.en] 26 (0, 0)))
 obtain ⟨⟨u1, u2, u3⟩, hu⟩ : ∃ t, formsL P = t := ⟨_, rfl⟩
 rw [hu] at CF
 have HU := hid hu
 have hm1 : (P.fs.length : Int) ≤ 9223372036854775807 := by have := hP.f.1; unfold maxLen at this; omega
 clear hP hA hu
 go_enter Tryz.func11, Tryz.ntmps11
 by_cases h0 : u3 = 0
 rotate_left
 ·have k0 : (u3 == 0) = false := by simpa using h0
  have HC := hid (show checkL P = (u1, u2, u3) by unfold checkL; rw [HU.out, if_pos h0])
  go_wp2_with (first
   | (go_at_call 27; refine (CW.out _).mono ?_; rintro e w1 ⟨b, rfl, hW1, hb1⟩; have HB1 := hid (HA.out.trans (hb1.mono HA.out.size)); have HW1 := hid hW1; clear hW1 hb1)
   | (go_at_call 28; refine (CF.out _ _ HW1.out (S.out.below HB1.out)).mono ?_; rintro e w2 ⟨rfl, hb2⟩; have HB2 := hid (HB1.out.trans (hb2.mono HB1.out.size)); clear hb2))
  go_ret3
  exact ⟨by rw [HC.out]; rfl, HB2.out⟩
 subst h0
 obtain ⟨hz, hgood, hhead⟩ := formsL_good (p := P) (by rw [HU.out])
 have hz2 := HU.out.symm.trans hz
 cases hz2
 have HG := hid hgood
 have HL := hid (headB_len hhead)
 have HC := hid (show checkL P = checkF 0 P.fs by unfold checkL; rw [HU.out, if_neg (by simp)])
 clear hz hgood hhead HU
 go_wp2_with (first
  | (go_at_call 27; refine (CW.out _).mono ?_; rintro e w1 ⟨b, rfl, hW1, hb1⟩; have HB1 := hid (HA.out.trans (hb1.mono HA.out.size)); have K1 := hid (K0.out.below hb1); have HW1 := hid hW1; clear hW1 hb1)
  | (go_at_call 28; refine (CF.out _ _ HW1.out (S.out.below HB1.out)).mono ?_; rintro e w2 ⟨rfl, hb2⟩; have HB2 := hid (HB1.out.trans (hb2.mono HB1.out.size)); have K2 := hid (K1.out.below hb2); have HW2 := hid (HW1.out.below hb2); clear hb2; have p0 : w2.cell? ⟨w.heap.size, 0, none⟩ = some (.slice fa P.fs.length fc) := by (rw [cell_of_row _ _ _ _ _ _ K2.out.x]; rfl)))
 clear p0
 have CU := hid (fun ps rs ca cc code W h1 h2 h3 h4 h5 h6 h7 => unset_any b fa sa ra P.fs.length P.ss.length P.us.length fc sc rc P.en ps rs ca cc code W h1 h2 h3 h4 h5 h6 h7)
 have CO := hid (fun op a b c la ra ln lc rn rc W => on_any op a b c la ra ln lc rn rc W)
 go_loopw [29] (fun vi wr => ∃ i : Nat, vi = .int .i64 i ∧ i ≤ P.fs.length ∧ checkF 0 P.fs = checkF i (P.fs.drop i) ∧ Below w.heap.size w wr ∧ WoAt wr b fa sa ra P.fs.length P.ss.length P.us.length fc sc rc P.en) (fun vi _ => P.fs.length - (intOf vi).toNat)
 case atStart => exact ⟨0, rfl, Nat.zero_le _, by rw [List.drop_zero], HB2.out, HW2.out⟩
 case round =>
  clear HB1 HB2 HW1 HW2 K0 K1 K2 CW CF
  obtain ⟨i, rfl, hi, hF, hb, hw⟩ := hrel
  obtain ⟨W0, hW0⟩ : ∃ W, W = wr := ⟨_, rfl⟩
  subst hW0
  have HR := hid hF
  have HB := hid hb
  have HW := hid hw
  clear hF hb hw
  by_cases hlt : i < P.fs.length
  ·obtain ⟨fB, fO, f, hfa, hf, hFn⟩ := fns_cell (S.out.f.below HB.out) hlt
   subst hfa
   have HN := hid (checkF_at hf)
   have hgf := HG.out f (List.mem_of_getElem? hf)
   obtain ⟨ca, cc, g0, g1, g2, hC⟩ := hFn
   clear hf
   obtain ⟨ps, rs, code⟩ := f
   have ga := hgf.ps
   have gb := hgf.le
   have gc := hgf.rs
   have gd := hgf.cn
   dsimp only at g0 g1 g2 hC HN ga gb gc gd
   obtain ⟨psn, rfl⟩ := Int.eq_ofNat_of_zero_le ga
   obtain ⟨rsn, rfl⟩ := Int.eq_ofNat_of_zero_le (Int.le_trans ga gb)
   have hCA := hC.code gd
   rw [Int.toNat_natCast] at HN
   have hlB : fB < W0.heap.size := World.block_lt_of_cell? W0 _ g0
   have HX := hid (HB.out.alloc HB.out.size (.cells #[.int .i64 psn, .int .i64 rsn, .slice ca code.length cc] 48))
   have HXX := hid ((Below.refl W0.heap.size W0).alloc (Nat.le_refl _) (.cells #[.int .i64 psn, .int .i64 rsn, .slice ca code.length cc] 48))
   have KX := hid (KAt.new W0 (.cells #[.int .i64 psn, .int .i64 rsn, .slice ca code.length cc] 48 (0, 0)))
   rcases List.eq_nil_or_concat code with rfl | ⟨pre, x, he⟩
   ·have HN2 := hid (HN.out.trans (if_pos (by rfl)))
    go_wp2_with fail
    go_ret3
    exact ⟨by rw [HC.out, HR.out, HN2.out]; rfl, HX.out⟩
   rw [List.concat_eq_append] at he
   subst he
   have hx : (pre ++ [x])[pre.length]? = some x := by simp
   have hfx := hgf.x _ _ hx
   have hfl := flows_eq hfx
   have hok : onI x.op ≠ 0 → OkC rsn (pre ++ [x]) := fun h => good_okC hgf h
   rw [hfl] at HN
   have hn : (pre ++ [x]).length = pre.length + 1 := by simp
   obtain ⟨hm, hC2 | ⟨bC, oC, rfl, hC2⟩⟩ := hC
   ·simp at hC2
   obtain ⟨la, lc, va, vc, x0, x1, x2, x3, x4, x5, hl, hv⟩ := (hC2 _ _ hx).below HXX.out
   have HCA := hid hCA
   have HOK := hid hok
   have HNE := hid (show pre ++ [x] ≠ [] by simp)
   clear hgf hCA hok hfx hfl hx hm hC2 hl hv
   obtain ⟨code, hcode⟩ : ∃ c, pre ++ [x] = c := ⟨_, rfl⟩
   rw [hcode] at HN HX HXX KX HCA HOK HNE hn gd g2 x0 x1 x2 x3 x4 x5
   obtain ⟨n, hnn⟩ : ∃ n, pre.length = n := ⟨_, rfl⟩
   rw [hnn] at hn x0 x1 x2 x3 x4 x5
   clear hcode hnn pre
   obtain ⟨op, a, xb, c, l, lv⟩ := x
   dsimp only at x0 x1 x2 x3 x4 x5 HN HOK
   rw [hn] at HN HX HXX KX g2 gd x0 x1 x2 x3 x4 x5
   have m1 : IntKind.i64.wrap (((n + 1 : Nat) : Int) - 1) = (n : Int) := by rw [IntWalk.i64_in _ (by omega)]; omega
   have m2 : (((n + 1 : Nat) : Int) == 0) = false := by simp; omega
   have m3 : decide ((n : Int) < ((n + 1 : Nat) : Int)) = true := decide_eq_true (by omega)
   have HN0 := hid hn
   have m4 : ((n : Int) + 1 == 0) = false := by simp; omega
   have m5 : IntKind.i64.wrap ((n : Int) + 1 - 1) = (n : Int) := by rw [IntWalk.i64_in _ (by omega)]; omega
   have m6 : decide ((n : Int) < (n : Int) + 1) = true := decide_eq_true (by omega)
   cases ho : (onI op == 0)
   rotate_left
   ·rw [ho] at HN
    have HN2 := hid (HN.out.trans (if_pos rfl))
    go_wp2_with (first
     | (go_at_call 29; refine (CO.out _ _ _ _ _ _ _ _ _ _ _).mono ?_; rintro e w3 ⟨rfl, hb3⟩; have HB3 := hid (HX.out.trans (hb3.mono HX.out.size)); have HX3 := hid (HXX.out.trans (hb3.mono HXX.out.size)); have K3 := hid (KX.out.below hb3); clear hb3; obtain ⟨y0, y1, y2⟩ := fbox_cells K3.out))
    go_ret3
    exact ⟨by rw [HC.out, HR.out, HN2.out, show ((n + 1 : Nat) : Int) - 1 = (n : Int) by omega]; rfl, HB3.out⟩
   rw [ho] at HN
   have HOK2 := hid (HOK.out (by simpa using ho))
   have HN2 := hid (HN.out.trans (if_neg (by simp)))
   obtain ⟨r, hr⟩ : ∃ r, unsetS code psn = r := ⟨_, rfl⟩
   have CU2 := hid (fun W (h1 : WoAt W b (some ⟨fB, fO, none⟩) sa ra P.fs.length P.ss.length P.us.length fc sc rc P.en) (h2 : CodeAt W (some ⟨bC, oC, none⟩) code) => by
    have := CU.out psn rsn (some ⟨bC, oC, none⟩) cc code W h1 h2 HOK2.out HNE.out (by omega) (by omega) (by omega)
    rw [HN0.out, hr] at this
    exact this)
   rw [hr] at HN2
   clear hr
   by_cases h0 : 0 ≤ r
   ·have k0 : decide (0 ≤ r) = true := decide_eq_true h0
    have HN3 := hid (HN2.out.trans (if_pos h0))
    go_wp2_with (first
     | (go_at_call 29; refine (CO.out _ _ _ _ _ _ _ _ _ _ _).mono ?_; rintro e w3 ⟨rfl, hb3⟩; have HB3 := hid (HX.out.trans (hb3.mono HX.out.size)); have HX3 := hid (HXX.out.trans (hb3.mono HXX.out.size)); have K3 := hid (KX.out.below hb3); clear hb3; obtain ⟨y0, y1, y2⟩ := fbox_cells K3.out)
     | (go_at_call 30; refine (CU2.out _ (HW.out.below HX3.out) (HCA.out.below HX3.out)).mono ?_; rintro e w4 ⟨rfl, hb4⟩; have HB4 := hid (HB3.out.trans (hb4.mono HB3.out.size)); have HX4 := hid (HX3.out.trans (hb4.mono HX3.out.size)); clear hb4))
    go_ret3
    exact ⟨by rw [HC.out, HR.out, HN3.out]; rfl, HB4.out⟩
   ·have k0 : decide (0 ≤ r) = false := decide_eq_false h0
    have HN3 := hid (HN2.out.trans (if_neg h0))
    go_wp2_with (first
     | (go_at_call 29; refine (CO.out _ _ _ _ _ _ _ _ _ _ _).mono ?_; rintro e w3 ⟨rfl, hb3⟩; have HB3 := hid (HX.out.trans (hb3.mono HX.out.size)); have HX3 := hid (HXX.out.trans (hb3.mono HXX.out.size)); have K3 := hid (KX.out.below hb3); clear hb3; obtain ⟨y0, y1, y2⟩ := fbox_cells K3.out)
     | (go_at_call 30; refine (CU2.out _ (HW.out.below HX3.out) (HCA.out.below HX3.out)).mono ?_; rintro e w4 ⟨rfl, hb4⟩; have HB4 := hid (HB3.out.trans (hb4.mono HB3.out.size)); have HX4 := hid (HX3.out.trans (hb4.mono HX3.out.size)); clear hb4))
    go_roundw
    case rel => exact ⟨i + 1, by go_num, hlt, HR.out.trans HN3.out, HB4.out, HW.out.below HX4.out⟩
    case measure => simp [intOf]; omega
  ·have hie : i = P.fs.length := by omega
   subst hie
   have d3 : decide ((P.fs.length : Int) < (P.fs.length : Int)) = false := decide_eq_false (by omega)
   go_wp2_with fail
   go_ret3
   exact ⟨by rw [HC.out, HR.out, List.drop_length]; rfl, HB.out⟩
theorem rt_in {n : Int} (h : rtB n = true) : I64 n := by
 unfold rtB at h
 unfold I64
 simp at h
 omega
theorem ins_in {n e : Int} (h : insB n e = true) (he : e ≤ 1000000000) : I64 n := by
 have := insB_true h
 unfold I64
 omega
theorem eq_in {n : Int} (h : (n == 0) = true) : I64 n := by
 have : n = 0 := by simpa using h
 unfold I64
 omega
theorem regs_i64 {l : List Int} {rs : Int} (h : regsB l rs = true) (hr : rs ≤ 4096) : (∀ n ∈ l, I64 n) ∧ l.length ≤ 2048 := by
 obtain ⟨h1, h2⟩ := regs_in h
 exact ⟨fun n hn => by have := h1 n hn; unfold I64; omega, by omega⟩
theorem cases_i64 {l : List Int} {cn : Nat} (h : casesB l cn = true) (hc : cn ≤ 65536) : (∀ n ∈ l, I64 n) ∧ l.length ≤ 2048 := by
 unfold casesB at h
 rw [Bool.and_eq_true, Bool.and_eq_true, List.all_eq_true, decide_eq_true_eq, decide_eq_true_eq] at h
 obtain ⟨⟨h1, h2⟩, h3⟩ := h
 refine ⟨fun n hn => ?_, h2⟩
 obtain ⟨i, hi, rfl⟩ := List.mem_iff_getElem.1 hn
 have := h3 (i / 2) (by rw [List.mem_range]; omega)
 unfold okC at this
 rw [Bool.and_eq_true, Bool.and_eq_true] at this
 obtain ⟨⟨q1, q2⟩, q3⟩ := this
 rcases Nat.mod_two_eq_zero_or_one i with e | e
 ·rw [show 2 * (i / 2) = i by omega] at q1
  have : l.getD i 0 = l[i] := by simp [List.getD, hi]
  rw [this] at q1
  exact rt_in q1
 ·rw [show 2 * (i / 2) + 1 = i by omega] at q3
  have : l.getD i 0 = l[i] := by simp [List.getD, hi]
  rw [this] at q3
  exact ins_in q3 (by omega)
theorem nil_i64 {l : List Int} (h : ((l.length : Int) == 0) = true) : (∀ n ∈ l, I64 n) ∧ l.length ≤ 2048 := by
 have : l = [] := by simpa using h
 subst this
 simp
structure InF (x : In) : Prop where
 i : InI x
 o1 : 1 ≤ x.op
 o2 : x.op ≤ 13
 l : x.l.length ≤ 2048
 v : x.lv.length ≤ 1024
 p : ∀ n ∈ x.lv, 0 ≤ n
theorem form_in {ns nr : Nat} {fp : List Int} {cn : Nat} {rs : Int} {x : In} (h : formI ns nr fp cn rs x = true) (hr : rs ≤ 4096) (hc : cn ≤ 65536) (hn : ns ≤ 65536) (hm : nr ≤ 65536) (hf : fp.length ≤ 65536) : InF x := by
 obtain ⟨op, a, b, c, l, lv⟩ := x
 unfold formI at h
 rw [Bool.and_eq_true] at h
 obtain ⟨hL, hF⟩ := h
 obtain ⟨v1, v2⟩ := live_in hL
 dsimp only at hF v1 v2
 have hv : ∀ n ∈ lv, I64 n := fun n hn => by have := v1 n hn; unfold I64; omega
 have hp : ∀ n ∈ lv, 0 ≤ n := fun n hn => (v1 n hn).1
 rcases op_all op with (rfl | rfl | rfl | rfl | rfl | rfl | rfl | rfl | rfl | rfl | rfl | rfl | rfl) | ⟨h1, h2, h3, h4, h5, h6, h7, h8, h9, h10, h11, h12, h13⟩
 ·replace hF : (insB a rs && rtB b && (c == 0) && ((l.length : Int) == 0)) = true := hF
  simp only [Bool.and_eq_true] at hF
  obtain ⟨⟨⟨f1, f2⟩, f3⟩, f4⟩ := hF
  obtain ⟨l1, l2⟩ := nil_i64 f4
  exact ⟨⟨ins_in f1 (by omega), rt_in f2, eq_in f3, l1, hv⟩, (show (1 : Int) ≤ 1 by decide), (show (1 : Int) ≤ 13 by decide), l2, v2, hp⟩
 ·replace hF : (insB a rs && insB b ns && (c == 0) && ((l.length : Int) == 0)) = true := hF
  simp only [Bool.and_eq_true] at hF
  obtain ⟨⟨⟨f1, f2⟩, f3⟩, f4⟩ := hF
  obtain ⟨l1, l2⟩ := nil_i64 f4
  exact ⟨⟨ins_in f1 (by omega), ins_in f2 (by omega), eq_in f3, l1, hv⟩, (show (1 : Int) ≤ 2 by decide), (show (2 : Int) ≤ 13 by decide), l2, v2, hp⟩
 ·replace hF : (insB a rs && insB b nr && (c == 0) && ((l.length : Int) == 0)) = true := hF
  simp only [Bool.and_eq_true] at hF
  obtain ⟨⟨⟨f1, f2⟩, f3⟩, f4⟩ := hF
  obtain ⟨l1, l2⟩ := nil_i64 f4
  exact ⟨⟨ins_in f1 (by omega), ins_in f2 (by omega), eq_in f3, l1, hv⟩, (show (1 : Int) ≤ 3 by decide), (show (3 : Int) ≤ 13 by decide), l2, v2, hp⟩
 ·replace hF : (insB a rs && insB b rs && (c == 0) && ((l.length : Int) == 0)) = true := hF
  simp only [Bool.and_eq_true] at hF
  obtain ⟨⟨⟨f1, f2⟩, f3⟩, f4⟩ := hF
  obtain ⟨l1, l2⟩ := nil_i64 f4
  exact ⟨⟨ins_in f1 (by omega), ins_in f2 (by omega), eq_in f3, l1, hv⟩, (show (1 : Int) ≤ 4 by decide), (show (4 : Int) ≤ 13 by decide), l2, v2, hp⟩
 ·replace hF : (insB a rs && ((b == 1) || (b == 2) || (b == 4) || (b == 3)) && insB c 16777216 && ((c == 0) || (b == 3)) && regsB l rs) = true := hF
  rw [kinds_eq] at hF
  simp only [Bool.and_eq_true, decide_eq_true_eq] at hF
  obtain ⟨⟨⟨⟨f1, f2⟩, f3⟩, f4⟩, f5⟩ := hF
  obtain ⟨l1, l2⟩ := regs_i64 f5 hr
  exact ⟨⟨ins_in f1 (by omega), by show I64 b; unfold I64; omega, ins_in f3 (by omega), l1, hv⟩, (show (1 : Int) ≤ 5 by decide), (show (5 : Int) ≤ 13 by decide), l2, v2, hp⟩
 ·replace hF : (insB a rs && insB b rs && insB c 4194305 && ((l.length : Int) == 0)) = true := hF
  simp only [Bool.and_eq_true] at hF
  obtain ⟨⟨⟨f1, f2⟩, f3⟩, f4⟩ := hF
  obtain ⟨l1, l2⟩ := nil_i64 f4
  exact ⟨⟨ins_in f1 (by omega), ins_in f2 (by omega), ins_in f3 (by omega), l1, hv⟩, (show (1 : Int) ≤ 6 by decide), (show (6 : Int) ≤ 13 by decide), l2, v2, hp⟩
 ·replace hF : (insB a rs && insB b rs && insB c 4194305 && ((l.length : Int) == 0)) = true := hF
  simp only [Bool.and_eq_true] at hF
  obtain ⟨⟨⟨f1, f2⟩, f3⟩, f4⟩ := hF
  obtain ⟨l1, l2⟩ := nil_i64 f4
  exact ⟨⟨ins_in f1 (by omega), ins_in f2 (by omega), ins_in f3 (by omega), l1, hv⟩, (show (1 : Int) ≤ 7 by decide), (show (7 : Int) ≤ 13 by decide), l2, v2, hp⟩
 ·replace hF : (insB a rs && insB b 61 && ((l.length : Int) == (prT b.toNat).2.1) && (if (prT b.toNat).2.2 = 0 then c == -1 else insB c cn) && regsB l rs) = true := hF
  simp only [Bool.and_eq_true] at hF
  obtain ⟨⟨⟨⟨f1, f2⟩, f3⟩, f4⟩, f5⟩ := hF
  obtain ⟨l1, l2⟩ := regs_i64 f5 hr
  have hcc : I64 c := by
   split at f4
   ·have : c = -1 := by simpa using f4
    unfold I64; omega
   ·exact ins_in f4 (by omega)
  exact ⟨⟨ins_in f1 (by omega), ins_in f2 (by omega), hcc, l1, hv⟩, (show (1 : Int) ≤ 8 by decide), (show (8 : Int) ≤ 13 by decide), l2, v2, hp⟩
 ·replace hF : ((a == 0) && (b == 0) && insB c cn && ((l.length : Int) == 0)) = true := hF
  simp only [Bool.and_eq_true] at hF
  obtain ⟨⟨⟨f1, f2⟩, f3⟩, f4⟩ := hF
  obtain ⟨l1, l2⟩ := nil_i64 f4
  exact ⟨⟨eq_in f1, eq_in f2, ins_in f3 (by omega), l1, hv⟩, (show (1 : Int) ≤ 9 by decide), (show (9 : Int) ≤ 13 by decide), l2, v2, hp⟩
 ·replace hF : ((a == 0) && insB b rs && insB c cn && casesB l cn) = true := hF
  simp only [Bool.and_eq_true] at hF
  obtain ⟨⟨⟨f1, f2⟩, f3⟩, f4⟩ := hF
  obtain ⟨l1, l2⟩ := cases_i64 f4 hc
  exact ⟨⟨eq_in f1, ins_in f2 (by omega), ins_in f3 (by omega), l1, hv⟩, (show (1 : Int) ≤ 10 by decide), (show (10 : Int) ≤ 13 by decide), l2, v2, hp⟩
 ·replace hF : (insB a rs && (b == 0) && (c == 0) && regsB l rs) = true := hF
  simp only [Bool.and_eq_true] at hF
  obtain ⟨⟨⟨f1, f2⟩, f3⟩, f4⟩ := hF
  obtain ⟨l1, l2⟩ := regs_i64 f4 hr
  exact ⟨⟨ins_in f1 (by omega), eq_in f2, eq_in f3, l1, hv⟩, (show (1 : Int) ≤ 11 by decide), (show (11 : Int) ≤ 13 by decide), l2, v2, hp⟩
 ·replace hF : ((a == 0) && (c == 0) && insB b fp.length && regsB l rs && ((l.length : Int) == fp.getD b.toNat 0)) = true := hF
  simp only [Bool.and_eq_true] at hF
  obtain ⟨⟨⟨⟨f1, f2⟩, f3⟩, f4⟩, f5⟩ := hF
  obtain ⟨l1, l2⟩ := regs_i64 f4 hr
  exact ⟨⟨eq_in f1, ins_in f3 (by omega), eq_in f2, l1, hv⟩, (show (1 : Int) ≤ 12 by decide), (show (12 : Int) ≤ 13 by decide), l2, v2, hp⟩
 ·replace hF : (insB a rs && ((b == 0) || (b == 1)) && (c == 0) && ((l.length : Int) == 0)) = true := hF
  simp only [Bool.and_eq_true, Bool.or_eq_true, beq_iff_eq] at hF
  obtain ⟨⟨⟨f1, f2⟩, f3⟩, f4⟩ := hF
  obtain ⟨l1, l2⟩ := nil_i64 (l := l) (by simpa using f4)
  exact ⟨⟨ins_in f1 (by omega), by show I64 b; unfold I64; omega, by show I64 c; unfold I64; omega, l1, hv⟩, (show (1 : Int) ≤ 13 by decide), (show (13 : Int) ≤ 13 by decide), l2, v2, hp⟩
 ·exact absurd hF (by simp [formB, h1, h2, h3, h4, h5, h6, h7, h8, h9, h10, h11, h12, h13])
/-- a writer's box at p, whose own row holds bytes -/
structure WrB (W : World) (p : Nat) (v : Value) (l : List UInt8) : Prop where
 k : KAt W p (wBlk v)
 o : OwnB W (p + 1) v l
def WrC (W : World) (p : Nat) (l : List UInt8) : Prop := ∃ v, WrB W p v l
theorem WrB.lt {W : World} {p : Nat} {v : Value} {l : List UInt8} (h : WrB W p v l) : p < W.heap.size := heap_lt h.k.x
theorem WrB.below {W V : World} {p : Nat} {v : Value} {l : List UInt8} (h : WrB W p v l) (hb : Below W.heap.size W V) : WrB V p v l := ⟨h.k.below hb, row_below h.o hb⟩
theorem WrC.below {W V : World} {p : Nat} {l : List UInt8} (h : WrC W p l) (hb : Below W.heap.size W V) : WrC V p l := by
 obtain ⟨v, h⟩ := h; exact ⟨v, h.below hb⟩
theorem WrC.lt {W : World} {p : Nat} {l : List UInt8} (h : WrC W p l) : p < W.heap.size := by obtain ⟨v, h⟩ := h; exact h.lt
theorem WrB.cells {W : World} {p : Nat} {v : Value} {l : List UInt8} (h : WrB W p v l) : W.cell? ⟨p, 0, none⟩ = some v ∧ W.frozen? ⟨p, 0, none⟩ = false :=
 ⟨by rw [cell_of_row _ _ _ _ _ _ h.k.x]; rfl, frozen_of_row _ _ _ _ _ h.k.x⟩
theorem WrB.set {W : World} {p : Nat} {v u : Value} {l : List UInt8} (h : KAt W p (wBlk v)) (hu : OwnB W (p + 1) u l) : WrB (W.setCell ⟨p, 0, none⟩ u) p u l :=
 ⟨⟨heap_setCell_same (i := 0) _ _ _ _ u h.x⟩, ownsRow_setCell_below hu (a := ⟨p, 0, none⟩) (Nat.lt_succ_self p) u⟩
theorem WrB.keep {w V : World} {p : Nat} {vo : Value} {l : List UInt8} (h : WrB w p vo l) (k2 : w.grownBy V vo.ownBlock) : KAt V p (wBlk vo) ∧ V.cell? ⟨p, 0, none⟩ = some vo ∧ V.frozen? ⟨p, 0, none⟩ = false ∧ WTch p w V := by
 have hlt := h.lt
 have hkp : ∀ (m : Nat) (cs : Array Value) (T : TypeId), T ≠ 5 → w.heap[m]? = some (Obj.cells cs T (0, 0)) → V.heap[m]? = some (Obj.cells cs T (0, 0)) := by
  intro m cs T hT e
  have hm := heap_lt e
  rw [k2.block m hm ?_]; exact e
  intro ee
  rcases h.o.2 with ⟨q, _⟩ | ⟨g2, cap2, cur, q, _, q3, _⟩
  ·rw [q] at ee; simp [Value.ownBlock] at ee
  ·rw [q] at ee; simp [Value.ownBlock] at ee; rw [← ee, e] at q3; injection q3 with q3; injection q3 with _ q4; exact hT q4
 have hbe : Below p w V := (Below.refl p _).grown k2 (Nat.le_of_lt hlt) (fun j hj => by have := (h.o.lt j hj).1; omega)
 have hk1 : KAt V p (wBlk vo) := by
  refine ⟨?_⟩
  unfold wBlk
  have hne : vo.ownBlock ≠ some p := by
   intro e
   have := (h.o.lt p e).1
   omega
  rw [k2.block p hlt (by intro e; exact hne e.symm)]; exact h.k.x
 exact ⟨hk1, by rw [cell_of_row _ _ _ _ _ _ hk1.x]; rfl, frozen_of_row _ _ _ _ _ hk1.x, hbe, fun m cs T hT _ e => hkp m cs T hT e⟩
/-- an append of one byte that was just built to the writer's own row -/
theorem app_w1 {w : World} {ops : Array Oper} {rest : List Oper} {o : Oper} {a : Act} {Q : Exit → Act → World → Prop} {p : Nat} {vo : Value} {l : List UInt8} {z : Int} (hr : WrB w p vo l) (c : UInt8) (hz : z = (c.toNat : Int)) (hgd : o.guard = none) (sl x : Operand)
  (ho : o.op = .call { callee := .builtin .append, args := #[sl, x], argTypes := #[40, 40] })
  (hs : a.eval sl = vo) (H : Nat) (hH : w.heap.size = H) (hx : a.eval x = .slice (some ⟨H, 0, none⟩) 1 1) (hn : l.length ≤ 5000000000)
  (h : ∀ g m cap V, KAt V p (wBlk vo) → OwnB V (p + 1) (.slice g m cap) (l ++ [c]) → V.cell? ⟨p, 0, none⟩ = some vo → V.frozen? ⟨p, 0, none⟩ = false → WTch p w V → wpList Tryz.prog ops Q rest (a.put o.dst (.slice g m cap)) V) : wpList Tryz.prog ops Q (o :: rest) a (w.alloc (.cells #[Value.int .u8 z] 5)) := by
 subst hH
 subst hz
 have hlt := hr.lt
 have hb0 : Below w.heap.size w (w.alloc (.cells #[Value.int .u8 (c.toNat : Int)] 5)) := (Below.refl _ _).alloc (Nat.le_refl _) _
 have hr2 := hr.below hb0
 refine app_bytes hgd sl x ho (p + 1) vo l [c] 1 ⟨w.heap.size, 0, none⟩ hs hr2.o hx ?_ (by simp; omega) hr2.lt ?_
 ·intro j u hj
  match j, hj with
  | 0, hj => simp [Lib.byteCells] at hj; subst hj; simp [Addr.add]
  | j + 1, hj => simp [Lib.byteCells] at hj
 ·intro v' V h1 _ h2
  obtain ⟨a1, a2, a3, a4⟩ := hr2.keep h2
  obtain ⟨g, cap, rfl⟩ := h1.form
  exact h g _ cap V a1 h1 a2 a3 ((WTch.alloc w (Nat.le_of_lt hlt) _).trans a4)
theorem or128 : ∀ x : Nat, x < 256 → bits .or .u8 (x : Int) 128 = ((x % 128 + 128 : Nat) : Int) := by decide +kernel
theorem or128_any (m : Nat) : bits .or .u8 ((m : Int) % 256) 128 = ((UInt8.ofNat (m % 128 + 128)).toNat : Int) := by
 rw [UInt8.toNat_ofNat', Nat.mod_eq_of_lt (show m % 128 + 128 < 2 ^ 8 by omega), show ((m : Int) % 256) = ((m % 256 : Nat) : Int) by omega, or128 _ (by omega), Nat.mod_mod_of_dvd _ (by decide)]
set_option maxHeartbeats 2000000 in
set_option maxRecDepth 8000 in
theorem plain_any (p : Nat) (n : Nat) (l : List UInt8) (w : World) (hw : WrC w p l) (hn : n < 18446744073709551616) (hl : l.length + (natE n).length ≤ 5000000000) :
  Calls Tryz.prog 43 #[.pointer (some ⟨p, 0, none⟩), .int .u64 (n : Int)] w fun x w' => (∃ v, x = .returned v) ∧ WrC w' p (l ++ natE n) ∧ WTch p w w' := by
 have HW := hid hw
 have HL := hid hl
 have hlt := hw.lt
 clear hw hl
 go_enter Tryz.func43, Tryz.ntmps43
 go_wp2_with fail
 go_loopw [1] (fun vi wr => ∃ (m : Nat) (b : List UInt8), vi = .int .u64 (m : Int) ∧ m < 18446744073709551616 ∧ b ++ natE m = l ++ natE n ∧ WrC wr p b ∧ WTch p w wr) (fun vi _ => (intOf vi).toNat)
 case atStart => exact ⟨n, l, rfl, hn, rfl, HW.out, WTch.of (Below.refl _ _) (Nat.le_of_lt hlt)⟩
 case round =>
  obtain ⟨m, b, rfl, hm, he, ⟨v, hv⟩, ht⟩ := hrel
  have HE := hid he
  have HT := hid ht
  have HV := hid hv
  obtain ⟨e0, f0⟩ := hv.cells
  have hbl : b.length ≤ 5000000000 := by
   have := congrArg List.length he
   simp only [List.length_append] at this
   have := HL.out
   omega
  have HB := hid hbl
  clear he ht hv hbl
  by_cases h : m < 128
  ·have k0 : decide ((128 : Int) ≤ (m : Int)) = false := decide_eq_false (by omega)
   have k1 : IntKind.u8.wrap (m : Int) = m := IntWalk.u8_in _ (by omega)
   have HC := hid (show ((m : Nat) : Int) = ((UInt8.ofNat m).toNat : Int) by rw [UInt8.toNat_ofNat', Nat.mod_eq_of_lt (by omega)])
   go_wp2_with (first | (at_builtin; refine app_w1 HV.out (UInt8.ofNat m) HC.out rfl _ _ rfl rfl _ rfl rfl HB.out ?_; intro g m1 cap V a1 a2 a3 a4 a5; have A1 := hid a1; have A2 := hid a2; have A5 := hid a5; clear a1 a2 a5))
   go_end0
   exact ⟨⟨_, rfl⟩, ⟨_, by have := WrB.set A1.out A2.out; rw [← natE_lo h, HE.out] at this; exact this⟩, HT.out.trans (A5.out.trans (WTch.set _ _))⟩
  ·have k0 : decide ((128 : Int) ≤ (m : Int)) = true := decide_eq_true (by omega)
   go_wp2_with (first | (at_builtin; refine app_w1 HV.out (UInt8.ofNat (m % 128 + 128)) (or128_any m) rfl _ _ rfl rfl _ rfl rfl HB.out ?_; intro g m1 cap V a1 a2 a3 a4 a5; have A1 := hid a1; have A2 := hid a2; have A5 := hid a5; clear a1 a2 a5))
   refine ⟨⟨m / 128, _, by go_num, by omega, ?_, ⟨_, WrB.set A1.out A2.out⟩, HT.out.trans (A5.out.trans (WTch.set _ _))⟩, ?_⟩
   ·rw [List.append_assoc, ← HE.out, natE_hi h]; rfl
   ·simp only [intOf]; omega
theorem sgnU_pos {n : Int} (h : 0 ≤ n) : sgnU n = (2 * n).toNat := by unfold sgnU; rw [if_neg (by omega)]
theorem sgnU_zig (n : Int) : sgnU n = Lib.zigzag n := by
 unfold sgnU Lib.zigzag
 split <;> split <;> omega
set_option maxHeartbeats 1000000 in
theorem signed_any (p : Nat) (n : Int) (l : List UInt8) (w : World) (hw : WrC w p l) (hn : I64 n) (hl : l.length + (sgnE n).length ≤ 5000000000) :
  Calls Tryz.prog 44 #[.pointer (some ⟨p, 0, none⟩), .int .i64 n] w fun x w' => (∃ v, x = .returned v) ∧ WrC w' p (l ++ sgnE n) ∧ WTch p w w' := by
 obtain ⟨n0, n1⟩ := hn
 have hlt := sgnU_lt n0 n1
 have C := hid (plain_any p (sgnU n) l w hw hlt hl)
 clear hw hl
 by_cases h : n < 0
 ·have k0 : decide (n < 0) = true := decide_eq_true h
  have HX := hid (show bits .xor .u64 (if IntKind.u64.signed = true then -1 else IntKind.u64.max) (IntKind.u64.wrap (IntKind.u64.wrap n * 2)) = ((sgnU n : Nat) : Int) from (Lib.zigzag_neg n0 h).trans (by rw [sgnU_zig]))
  go_enter Tryz.func44, Tryz.ntmps44
  go_wp2_with (first | (go_at_call 43; rw [HX.out]; refine C.out.mono ?_; rintro e w1 ⟨⟨_, rfl⟩, h1, h2⟩))
  go_end0
  exact ⟨⟨_, rfl⟩, h1, h2⟩
 ·have k0 : decide (n < 0) = false := decide_eq_false h
  have HX := hid (show n * 2 = ((sgnU n : Nat) : Int) by rw [sgnU_pos (by omega)]; omega)
  go_enter Tryz.func44, Tryz.ntmps44
  go_wp2_with (first | (go_at_call 43; rw [HX.out]; refine C.out.mono ?_; rintro e w1 ⟨⟨_, rfl⟩, h1, h2⟩))
  go_end0
  exact ⟨⟨_, rfl⟩, h1, h2⟩
theorem encl_any (p q : Nat) (n : Int) (l : List UInt8) (w : World) (hq : KAt w q (qBlk p)) (hw : WrC w p l) (h0 : 0 ≤ n) (h1 : n < 18446744073709551616) (hl : l.length + (natE n.toNat).length ≤ 5000000000) :
  Calls Tryz.prog 42 #[.int .i64 n, .pointer (some ⟨q, 0, none⟩)] w fun x w' => (∃ v, x = .returned v) ∧ WrC w' p (l ++ natE n.toNat) ∧ WTch p w w' := by
 obtain ⟨m, rfl⟩ := Int.eq_ofNat_of_zero_le h0
 have C := hid (plain_any p m l w hw (by omega) hl)
 have c0 : w.cell? ⟨q, 0, none⟩ = some (.pointer (some ⟨p, 0, none⟩)) := by rw [cell_of_row _ _ _ _ _ _ hq.x]; rfl
 have k1 : IntKind.u64.wrap (m : Int) = m := IntWalk.u64_in _ (by omega)
 clear hw hl hq
 go_enter Tryz.func42, Tryz.ntmps42
 go_wp2_with (first | (go_at_call 43; refine C.out.mono ?_; rintro e w1 ⟨⟨_, rfl⟩, h1, h2⟩))
 go_end0
 exact ⟨⟨_, rfl⟩, h1, h2⟩
theorem ints_get {L : List Int} {k : Nat} (h : k < L.length) : L[k]? = some (L.getD k 0) := by simp [List.getD, h]
set_option maxHeartbeats 2000000 in
set_option maxRecDepth 8000 in
theorem list_signed (p  : Nat) (la : Option Addr) (L : List Int) (lc : Nat) (l : List UInt8) (w0 w : World) (hw : WrC w p l) (h0 : w0.heap.size ≤ p) (hL : IntsAt .i64 w0 la L) (hb0 : Below w0.heap.size w0 w)  (hn : L.length ≤ 1000000000) (hl : l.length + (sgnsE L).length ≤ 5000000000) (hi : ∀ n ∈ L, I64 n)  :
  Calls Tryz.prog 45 #[.pointer (some ⟨p, 0, none⟩), .slice la L.length lc, .func (.func 44) #[.pointer (some ⟨p, 0, none⟩)] #[]] w fun x w' => (∃ v, x = .returned v) ∧ WrC w' p (l ++ sgnsE L) ∧ WTch p w w' := by
 have CP := hid (plain_any p L.length l w hw (by omega) (by unfold sgnsE at hl; simp only [List.length_append] at hl; omega))
 have HL := hid hl
 have HI := hid hi
 have k1 : IntKind.u64.wrap (L.length : Int) = L.length := IntWalk.u64_in _ (by omega)
 have hlt := hw.lt
 have HLL := hid hL
 have HB0 := hid hb0
 clear hw hL hb0 hl hi
 go_enter Tryz.func45, Tryz.ntmps45
 go_wp2_with (first | (go_at_call 43; refine CP.out.mono ?_; rintro e w1 ⟨⟨_, rfl⟩, g1, g2⟩))
 have G1 := hid g1
 have G2 := hid g2
 clear g1 g2
 go_loopw [15] (fun vi wr => ∃ k : Nat, vi = .int .i64 k ∧ k ≤ L.length ∧ WrC wr p (l ++ natE L.length ++ (L.take k).flatMap (sgnE)) ∧ WTch p w wr) (fun vi _ => L.length - (intOf vi).toNat)
 case atStart => exact ⟨0, rfl, Nat.zero_le _, by simpa using G1.out, G2.out⟩
 case round =>
  obtain ⟨k, rfl, hk, hw, ht⟩ := hrel
  have HW := hid hw
  have HT := hid ht
  clear hw ht
  by_cases hlt2 : k < L.length
  ·have hI := HLL.out.below (HB0.out.trans (HT.out.be.mono h0))
   obtain ⟨b, off, rfl, hc⟩ := ints_cell hI hlt2
   have HG := hid (ints_get hlt2)
   obtain ⟨v, hv⟩ : ∃ v, L.getD k 0 = v := ⟨_, rfl⟩
   rw [hv] at hc HG
   have hvi := HI.out v (List.mem_of_getElem? HG.out)
   have HVI := hid hvi
   have HFT := hid (flat_take (f := sgnE) HG.out)
   have hlen : (l ++ natE L.length ++ (L.take k).flatMap (sgnE)).length + ((sgnE) v).length ≤ 5000000000 := by
    have q1 := flat_take_le (f := sgnE) L (k + 1)
    rw [HFT.out] at q1
    have q2 := HL.out
    unfold sgnsE at q2
    simp only [List.length_append] at q1 q2 ⊢
    omega
   have HLE := hid hlen
   clear hI hv hvi hlen
   go_wp2_with (first | (go_at_call 44; refine (signed_any p v _ _ HW.out HVI.out HLE.out).mono ?_; rintro e w2 ⟨⟨_, rfl⟩, h1, h2⟩))
   go_roundw
   case rel => exact ⟨k + 1, by go_num, hlt2, by rw [HFT.out, ← List.append_assoc]; exact h1, HT.out.trans h2⟩
   case measure => simp [intOf]; omega
  ·obtain rfl : k = L.length := by omega
   have d3 : decide ((L.length : Int) < (L.length : Int)) = false := decide_eq_false (by omega)
   go_wp2_with fail
   go_end0
   exact ⟨⟨_, rfl⟩, by have := HW.out; rw [List.take_length, List.append_assoc] at this; exact this, HT.out⟩
set_option maxHeartbeats 2000000 in
set_option maxRecDepth 8000 in
theorem list_plain (p q : Nat) (la : Option Addr) (L : List Int) (lc : Nat) (l : List UInt8) (w0 w : World) (hw : WrC w p l) (h0 : w0.heap.size ≤ p) (hL : IntsAt .i64 w0 la L) (hb0 : Below w0.heap.size w0 w) (hq : KAt w q (qBlk p)) (hqp : q ≠ p) (hn : L.length ≤ 1000000000) (hl : l.length + (natsE L).length ≤ 5000000000) (hi : ∀ n ∈ L, I64 n) (hp : ∀ n ∈ L, 0 ≤ n) :
  Calls Tryz.prog 45 #[.pointer (some ⟨p, 0, none⟩), .slice la L.length lc, .func (.func 42) #[] #[.pointer (some ⟨q, 0, none⟩)]] w fun x w' => (∃ v, x = .returned v) ∧ WrC w' p (l ++ natsE L) ∧ WTch p w w' := by
 have CP := hid (plain_any p L.length l w hw (by omega) (by unfold natsE at hl; simp only [List.length_append] at hl; omega))
 have HL := hid hl
 have HI := hid hi
 have k1 : IntKind.u64.wrap (L.length : Int) = L.length := IntWalk.u64_in _ (by omega)
 have hlt := hw.lt
 have HLL := hid hL
 have HB0 := hid hb0
 clear hw hL hb0 hl hi
 go_enter Tryz.func45, Tryz.ntmps45
 go_wp2_with (first | (go_at_call 43; refine CP.out.mono ?_; rintro e w1 ⟨⟨_, rfl⟩, g1, g2⟩))
 have G1 := hid g1
 have G2 := hid g2
 clear g1 g2
 go_loopw [15] (fun vi wr => ∃ k : Nat, vi = .int .i64 k ∧ k ≤ L.length ∧ WrC wr p (l ++ natE L.length ++ (L.take k).flatMap (fun n : Int => natE n.toNat)) ∧ WTch p w wr) (fun vi _ => L.length - (intOf vi).toNat)
 case atStart => exact ⟨0, rfl, Nat.zero_le _, by simpa using G1.out, G2.out⟩
 case round =>
  obtain ⟨k, rfl, hk, hw, ht⟩ := hrel
  have HW := hid hw
  have HT := hid ht
  clear hw ht
  by_cases hlt2 : k < L.length
  ·have hI := HLL.out.below (HB0.out.trans (HT.out.be.mono h0))
   obtain ⟨b, off, rfl, hc⟩ := ints_cell hI hlt2
   have HG := hid (ints_get hlt2)
   obtain ⟨v, hv⟩ : ∃ v, L.getD k 0 = v := ⟨_, rfl⟩
   rw [hv] at hc HG
   have hvi := HI.out v (List.mem_of_getElem? HG.out)
   have HVI := hid hvi
   have HFT := hid (flat_take (f := fun n : Int => natE n.toNat) HG.out)
   have hlen : (l ++ natE L.length ++ (L.take k).flatMap (fun n : Int => natE n.toNat)).length + ((fun n : Int => natE n.toNat) v).length ≤ 5000000000 := by
    have q1 := flat_take_le (f := fun n : Int => natE n.toNat) L (k + 1)
    rw [HFT.out] at q1
    have q2 := HL.out
    unfold natsE at q2
    simp only [List.length_append] at q1 q2 ⊢
    omega
   have HLE := hid hlen
   clear hI hv hvi hlen
   go_wp2_with (first | (go_at_call 42; refine (encl_any p q v _ _ (hq.tch (by decide) hqp HT.out) HW.out (hp v (List.mem_of_getElem? HG.out)) (by have := HVI.out.2; omega) HLE.out).mono ?_; rintro e w2 ⟨⟨_, rfl⟩, h1, h2⟩))
   go_roundw
   case rel => exact ⟨k + 1, by go_num, hlt2, by rw [HFT.out, ← List.append_assoc]; exact h1, HT.out.trans h2⟩
   case measure => simp [intOf]; omega
  ·obtain rfl : k = L.length := by omega
   have d3 : decide ((L.length : Int) < (L.length : Int)) = false := decide_eq_false (by omega)
   go_wp2_with fail
   go_end0
   exact ⟨⟨_, rfl⟩, by have := HW.out; rw [List.take_length, List.append_assoc] at this; exact this, HT.out⟩
end Go.Proofs.YtokjkligechcoaaGreatDoor
