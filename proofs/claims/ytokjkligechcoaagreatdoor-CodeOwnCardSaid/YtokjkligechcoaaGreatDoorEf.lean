/- Walks of layer 16's reference: a program's forms, for every program. -/
import Derived.Test.YtokjkligechcoaaGreatDoorDv
set_option linter.unusedVariables false
namespace Go.Proofs.YtokjkligechcoaaGreatDoor
open _root_.Go.Lib (hid)
open Go.RowKit
open Fx
attribute [local go_sem] ext_mk size_mk toList_mk get_mk take_drop_len take_tail_len ByteArray.mk_append_mk List.append_toArray
theorem pbox_cells {W : World} {m : Nat} {a b c d : Value} (h : KAt W m (.cells #[a, b, c, d] 26 (0, 0))) : W.cell? ⟨m, 0, none⟩ = some a ∧ W.cell? ⟨m, 1, none⟩ = some b ∧ W.cell? ⟨m, 2, none⟩ = some c ∧ W.cell? ⟨m, 3, none⟩ = some d := by
 refine ⟨?_, ?_, ?_, ?_⟩
 all_goals (rw [cell_of_row _ _ _ _ _ _ h.x]; rfl)
set_option maxHeartbeats 8000000 in
set_option maxRecDepth 8000 in
theorem rforms_any (fa sa ra : Option Addr) (fc sc rc : Nat) (P : Pg) (w : World) (hP : PgAt w fa sa ra P) :
  Calls Tryz.prog 31 #[.agg #[.slice fa P.fs.length fc, .slice sa P.ss.length sc, .slice ra P.us.length rc, .int .i64 P.en]] w fun e w' => e = .returned (tri (formsL P)) ∧ Below w.heap.size w w' := by
 have S := hid hP
 have CI := hid (fun n e W => within_any n e W)
 have HA : Hid (∀ o, Below w.heap.size w (w.alloc o)) := hid (fun o => (Below.refl _ _).alloc (Nat.le_refl _) o)
 have hm1 : (P.fs.length : Int) ≤ 9223372036854775807 := by have := hP.f.1; unfold maxLen at this; omega
 have hm2 : (P.ss.length : Int) ≤ 9223372036854775807 := by have := hP.s.1; unfold maxLen at this; omega
 have hm3 : (P.us.length : Int) ≤ 9223372036854775807 := by have := hP.u.1; unfold maxLen at this; omega
 have K0 := hid (KAt.new w (.cells #[.slice fa P.fs.length fc, .slice sa P.ss.length sc, .slice ra P.us.length rc, .int .i64 P.en] 26 (0, 0)))
 clear hP
 go_enter Tryz.func31, Tryz.ntmps31
 by_cases h1 : P.fs.length = 0
 ·have k1 : ((P.fs.length : Int) == 0) = true := by simp [h1]
  go_wp2_with (first
   | (go_at_call 83; (first | refine (CI.out _).mono ?_ | refine (CI.out _ _ _).mono ?_); rintro e w1 ⟨rfl, rfl⟩))
  go_ret3
  exact ⟨by rw [show formsL P = (-1, -1, 160) from if_pos (by unfold headB; simp [h1])]; rfl, (HA.out _)⟩
 have k1 : ((P.fs.length : Int) == 0) = false := by simpa using h1
 by_cases h2 : 65536 < P.fs.length
 ·have k2 : decide ((65536 : Int) < (P.fs.length : Int)) = true := decide_eq_true (by omega)
  go_wp2_with (first
   | (go_at_call 83; (first | refine (CI.out _).mono ?_ | refine (CI.out _ _ _).mono ?_); rintro e w1 ⟨rfl, rfl⟩))
  go_ret3
  exact ⟨by rw [show formsL P = (-1, -1, 160) from if_pos (by unfold headB; simp [h2])]; rfl, (HA.out _)⟩
 have k2 : decide ((65536 : Int) < (P.fs.length : Int)) = false := decide_eq_false (by omega)
 by_cases h3 : 65536 < P.ss.length
 ·have k3 : decide ((65536 : Int) < (P.ss.length : Int)) = true := decide_eq_true (by omega)
  go_wp2_with (first
   | (go_at_call 83; (first | refine (CI.out _).mono ?_ | refine (CI.out _ _ _).mono ?_); rintro e w1 ⟨rfl, rfl⟩))
  go_ret3
  exact ⟨by rw [show formsL P = (-1, -1, 160) from if_pos (by unfold headB; simp [h3])]; rfl, (HA.out _)⟩
 have k3 : decide ((65536 : Int) < (P.ss.length : Int)) = false := decide_eq_false (by omega)
 by_cases h4 : 65536 < P.us.length
 ·have k4 : decide ((65536 : Int) < (P.us.length : Int)) = true := decide_eq_true (by omega)
  go_wp2_with (first
   | (go_at_call 83; (first | refine (CI.out _).mono ?_ | refine (CI.out _ _ _).mono ?_); rintro e w1 ⟨rfl, rfl⟩))
  go_ret3
  exact ⟨by rw [show formsL P = (-1, -1, 160) from if_pos (by unfold headB; simp [h4])]; rfl, (HA.out _)⟩
 have k4 : decide ((65536 : Int) < (P.us.length : Int)) = false := decide_eq_false (by omega)
 cases h6 : insB P.en P.fs.length
 ·have CI := hid (fun W => within_eq h6 W)
  go_wp2_with (first
   | (go_at_call 83; (first | refine (CI.out _).mono ?_ | refine (CI.out _ _ _).mono ?_); rintro e w1 ⟨rfl, rfl⟩))
  go_ret3
  exact ⟨by rw [show formsL P = (-1, -1, 160) from if_pos (by unfold headB; rw [h6]; simp)]; rfl, (HA.out _)⟩
 have CI := hid (fun W => within_eq h6 W)
 obtain ⟨q0, q1⟩ := insB_true h6
 obtain ⟨i, hi⟩ := Int.eq_ofNat_of_zero_le q0
 rw [hi] at CI K0 ⊢
 have hi2 : i < P.fs.length := by omega
 have hFA := S.out.f
 obtain ⟨fB, fO, f, rfl, hf, hFn⟩ := fns_cell hFA hi2
 obtain ⟨ca, cc, g0, -⟩ := hFn
 have hlB : fB < w.heap.size := World.block_lt_of_cell? w _ g0
 have h7 : (fpL P.fs).getD P.en.toNat 0 = f.ps := by rw [hi, Int.toNat_natCast, fpL_at hf]
 have d1 : decide ((i : Int) < (P.fs.length : Int)) = true := decide_eq_true (by omega)
 obtain ⟨v, hv⟩ : ∃ v, f.ps = v := ⟨_, rfl⟩
 rw [hv] at g0 h7
 have b1 : (P.fs.length == 0) = false := by simpa using h1
 have HH := hid (show headB P = (P.ss.any longB || !(v == 0)) by unfold headB; rw [h6, h7]; simp [b1, h2, h3, h4])
 clear b1
 clear h1 h2 h3 h4 h6 h7 hv hf hFA q0 q1
 cases k7 : (v == 0)
 ·
  go_wp2_with (first
   | (go_at_call 83; (first | refine (CI.out _).mono ?_ | refine (CI.out _ _ _).mono ?_); rintro e w1 ⟨rfl, rfl⟩))
  go_ret3
  exact ⟨by rw [show formsL P = (-1, -1, 160) from if_pos (by rw [HH.out, k7]; simp)]; rfl, (HA.out _)⟩
 rw [k7] at HH
 go_wp2_with (first
  | (go_at_call 83; (first | refine (CI.out _).mono ?_ | refine (CI.out _ _ _).mono ?_); rintro e w1 ⟨rfl, rfl⟩))
 clear CI d1 g0 k7 hlB hi hi2
 obtain ⟨pv0, pv1, pv2, pv3⟩ := pbox_cells K0.out
 go_loopw [5] (fun vi wr => ∃ k : Nat, vi = .int .i64 k ∧ k ≤ P.ss.length ∧ (P.ss.take k).any longB = false ∧ wr = w.alloc (.cells #[.slice (some ⟨fB, fO, none⟩) P.fs.length fc, .slice sa P.ss.length sc, .slice ra P.us.length rc, .int .i64 i] 26)) (fun vi _ => P.ss.length - (intOf vi).toNat)
 case atStart => exact ⟨0, rfl, Nat.zero_le _, by simp, rfl⟩
 case round =>
  obtain ⟨k, rfl, hk, hall, rfl⟩ := hrel
  have HL := hid hall
  clear hall
  by_cases hlt : k < P.ss.length
  ·obtain ⟨b, off, s, ha, hg, hc, hs⟩ := strs_cell (S.out.s.below (HA.out (.cells #[.slice (some ⟨fB, fO, none⟩) P.fs.length fc, .slice sa P.ss.length sc, .slice ra P.us.length rc, .int .i64 i] 26))) hlt
   subst ha
   have HG := hid hg
   clear hg
   have hs2 : (s.length : Int) ≤ 9223372036854775807 := by unfold maxLen at hs; omega
   have HU := hid (show longB s = decide ((65536 : Int) < (s.length : Int)) by unfold longB; congr 1; rw [eq_iff_iff]; omega)
   cases hi : decide ((65536 : Int) < (s.length : Int))
   ·go_wp2_with fail
    go_roundw
    case rel => exact ⟨k + 1, by go_num, hlt, by rw [any_take_succ HG.out, HL.out, HU.out, hi]; rfl, by trivial⟩
    case measure => simp [intOf]; omega
   ·go_wp2_with fail
    go_ret3
    exact ⟨by rw [show formsL P = (-1, -1, 160) from if_pos (by rw [HH.out, any_at HG.out (HU.out.trans hi)]; rfl)]; rfl, HA.out _⟩
  ·have hke : k = P.ss.length := by omega
   subst hke
   have hno : P.ss.any longB = false := by have := HL.out; rwa [List.take_length] at this
   have HF := hid (show formsL P = formsF P 0 P.fs from if_neg (by rw [HH.out, hno]; simp))
   clear hno HL HH
   have hfl : (fpL P.fs).length = P.fs.length := by simp [fpL]
   have SP := hid (S.out.f.ps (by have := of_decide_eq_false k2; omega))
   have CF := hid (fun ps rs ca cn cc op a b c l lv la lc va vc W h1 h2 h3 h4 => rform_any (some ⟨fB, fO, none⟩) sa ra P.ss.length P.us.length fc sc rc (i : Int) (fpL P.fs) ps rs ca cn cc op a b c l lv la lc va vc W h1 h2 h3 h4)
   rw [hfl] at CF
   have CL := hid (fun ps rs ca cn cc x la lc va vc W h1 h2 => rlive_any ps rs ca cn cc x la lc va vc W h1 h2)
   have d3 : decide ((P.ss.length : Int) < (P.ss.length : Int)) = false := decide_eq_false (by omega)
   go_wp2_with fail
   clear d3 pv0 pv1 pv2 pv3
   go_loopw [6] (fun vi wr => ∃ k : Nat, vi = .int .i64 k ∧ k ≤ P.fs.length ∧ formsF P 0 P.fs = formsF P k (P.fs.drop k) ∧ Below w.heap.size w wr ∧ KAt wr w.heap.size (.cells #[.slice (some ⟨fB, fO, none⟩) P.fs.length fc, .slice sa P.ss.length sc, .slice ra P.us.length rc, .int .i64 i] 26 (0, 0))) (fun vi _ => P.fs.length - (intOf vi).toNat)
   case atStart => exact ⟨0, rfl, Nat.zero_le _, by rw [List.drop_zero], HA.out _, K0.out⟩
   case round =>
    obtain ⟨j, rfl, hj, hF, hb, hK⟩ := hrel
    obtain ⟨W0, hW0⟩ : ∃ W, W = wr := ⟨_, rfl⟩
    subst hW0
    have HR := hid hF
    have KP := hid hK
    obtain ⟨pv0, pv1, pv2, pv3⟩ := pbox_cells hK
    clear hF hK
    by_cases hlt : j < P.fs.length
    ·obtain ⟨fB', fO', f, ha', hf, hFn⟩ := fns_cell S.out.f hlt
     injection ha' with ha'
     injection ha' with u1 u2 _
     subst u1; subst u2
     have HN := hid (formsF_at hf)
     obtain ⟨ca, cc, g0, g1, g2, hC⟩ := hFn
     have HC := hid hC
     have HK := hid (fun k x hx h hl => codeK_some (p := P) (f := f) (k := k) (x := x) hx h hl)
     have HKn := hid (fun hl => codeK_none (p := P) (f := f) hl)
     have hlB : fB < w.heap.size := World.block_lt_of_cell? w _ g0
     have e : ∀ k, W0.cell? ⟨fB, k, none⟩ = w.cell? ⟨fB, k, none⟩ := fun k => hb.cell (p := ⟨fB, k, none⟩) hlB
     rw [← e] at g0 g1 g2
     clear e hf hlB
     obtain ⟨ps, rs, code⟩ := f
     dsimp only at g0 g1 g2 HN HK HKn HC hC
     have hm4 : (code.length : Int) ≤ 9223372036854775807 := by have := hC.1; unfold maxLen at this; omega
     clear hC
     have hlW : w.heap.size < W0.heap.size := World.block_lt_of_cell? W0 _ pv0
     have hbx := hb.alloc hb.size (.cells #[.int .i64 ps, .int .i64 rs, .slice ca code.length cc] 48)
     have HB := hid hb
     have HX := hid hbx
     clear hb hbx
     by_cases h1 : ps < 0
     ·have j1 : decide (ps < 0) = true := decide_eq_true h1
      go_wp2_with fail
      go_ret3
      exact ⟨by rw [HF.out, HR.out, HN.out.trans (if_pos (by unfold fnB; simp [*]))]; rfl, HX.out⟩
     have j1 : decide (ps < 0) = false := decide_eq_false h1
     by_cases h2 : rs < ps
     ·have j2 : decide (rs < ps) = true := decide_eq_true h2
      go_wp2_with fail
      go_ret3
      exact ⟨by rw [HF.out, HR.out, HN.out.trans (if_pos (by unfold fnB; simp [*]))]; rfl, HX.out⟩
     have j2 : decide (rs < ps) = false := decide_eq_false h2
     by_cases h3 : 4096 < rs
     ·have j3 : decide (4096 < rs) = true := decide_eq_true h3
      go_wp2_with fail
      go_ret3
      exact ⟨by rw [HF.out, HR.out, HN.out.trans (if_pos (by unfold fnB; simp [*]))]; rfl, HX.out⟩
     have j3 : decide (4096 < rs) = false := decide_eq_false h3
     by_cases h4 : 65536 < code.length
     ·have j4 : decide ((65536 : Int) < (code.length : Int)) = true := decide_eq_true (by omega)
      go_wp2_with fail
      go_ret3
      exact ⟨by rw [HF.out, HR.out, HN.out.trans (if_pos (by unfold fnB; simp [*]))]; rfl, HX.out⟩
     have j4 : decide ((65536 : Int) < (code.length : Int)) = false := decide_eq_false (by omega)
     have hcn : code.length ≤ 1000000000 := by omega
     have HN2 := hid (HN.out.trans (if_neg (by unfold fnB; simp [h1, h2, h3, h4])))
     clear HN
     have K1 := hid (KAt.new W0 (.cells #[.int .i64 ps, .int .i64 rs, .slice ca code.length cc] 48 (0, 0)))
     have KP1 := hid (KP.out.alloc (.cells #[.int .i64 ps, .int .i64 rs, .slice ca code.length cc] 48 (0, 0)))
     go_wp2_with fail
     clear g0 g1 g2 h1 h2 h3 h4 j1 j2 j3 j4 pv0 pv1 pv2 pv3
     go_loopw [8] (fun vj wq => ∃ k : Nat, vj = .int .i64 k ∧ k ≤ code.length ∧ (∀ j y, j < k → code[j]? = some y → formI P.ss.length P.us.length (fpL P.fs) code.length rs y = true) ∧ Below w.heap.size w wq ∧ KAt wq w.heap.size (.cells #[.slice (some ⟨fB, fO, none⟩) P.fs.length fc, .slice sa P.ss.length sc, .slice ra P.us.length rc, .int .i64 i] 26 (0, 0)) ∧ KAt wq W0.heap.size (.cells #[.int .i64 ps, .int .i64 rs, .slice ca code.length cc] 48 (0, 0))) (fun vj _ => code.length - (intOf vj).toNat)
     case atStart => exact ⟨0, rfl, Nat.zero_le _, by simp, HX.out, KP1.out, K1.out⟩
     case round =>
      obtain ⟨k, rfl, hk, hall, hbq, hKP, hKF⟩ := hrel
      have HL := hid hall
      have HQ := hid hbq
      obtain ⟨pv0, pv1, pv2, pv3⟩ := pbox_cells hKP
      obtain ⟨y0, y1, y2⟩ := fbox_cells hKF
      have KP2 := hid hKP
      have KF2 := hid hKF
      clear hall hKP hKF
      by_cases hkl : k < code.length
      ·obtain ⟨xb, xo, x, hca, hx, la, lc, va, vc, x0, x1, x2, x3, x4, x5, hl, hv⟩ := cd_cell (HC.out.below hbq) hkl
       subst hca
       have HXx := hid hx
       clear hx hbq
       obtain ⟨op, a, b, c, l, lv⟩ := x
       dsimp only at x0 x1 x2 x3 x4 x5 hl hv
       obtain ⟨SS, hSS⟩ : ∃ SS : World → Prop, SS = fun V => Below wr.heap.size wr V := ⟨_, rfl⟩
       have SK : Hid (∀ A w', SS A → Below A.heap.size A w' → w'.cell? ⟨w.heap.size, 0, none⟩ = some (.slice (some ⟨fB, fO, none⟩) P.fs.length fc) ∧ w'.cell? ⟨w.heap.size, 1, none⟩ = some (.slice sa P.ss.length sc) ∧ w'.cell? ⟨w.heap.size, 2, none⟩ = some (.slice ra P.us.length rc) ∧ w'.cell? ⟨w.heap.size, 3, none⟩ = some (.int .i64 i) ∧ w'.cell? ⟨W0.heap.size, 0, none⟩ = some (.int .i64 ps) ∧ w'.cell? ⟨W0.heap.size, 1, none⟩ = some (.int .i64 rs) ∧ w'.cell? ⟨W0.heap.size, 2, none⟩ = some (.slice (some ⟨xb, xo, none⟩) code.length cc) ∧ w'.cell? ⟨xb, xo + k * 6, none⟩ = some (.int .i64 op) ∧ w'.cell? ⟨xb, xo + k * 6 + 1, none⟩ = some (.int .i64 a) ∧ w'.cell? ⟨xb, xo + k * 6 + 2, none⟩ = some (.int .i64 b) ∧ w'.cell? ⟨xb, xo + k * 6 + 3, none⟩ = some (.int .i64 c) ∧ w'.cell? ⟨xb, xo + k * 6 + 4, none⟩ = some (.slice la l.length lc) ∧ w'.cell? ⟨xb, xo + k * 6 + 5, none⟩ = some (.slice va lv.length vc) ∧ SS w') := hid (by
        rw [hSS]
        rintro A B h hb
        have h2 : Below wr.heap.size wr B := h.trans (hb.mono h.size)
        have e : ∀ m k v, wr.cell? ⟨m, k, none⟩ = some v → B.cell? ⟨m, k, none⟩ = some v := fun m k v hc => (h2.cell (p := ⟨m, k, none⟩) (World.block_lt_of_cell? wr _ hc)).trans hc
        exact ⟨e _ _ _ pv0, e _ _ _ pv1, e _ _ _ pv2, e _ _ _ pv3, e _ _ _ y0, e _ _ _ y1, e _ _ _ y2, e _ _ _ x0, e _ _ _ x1, e _ _ _ x2, e _ _ _ x3, e _ _ _ x4, e _ _ _ x5, h2⟩)
       have hS0 : SS wr.drew := by rw [hSS]; exact (Below.refl _ _).drew
       have HBS : Hid (∀ V, SS V → Below w.heap.size w V) := hid (by rw [hSS]; exact fun V h => HQ.out.trans (h.mono HQ.out.size))
       have HKS : Hid (∀ V, SS V → KAt V w.heap.size (.cells #[.slice (some ⟨fB, fO, none⟩) P.fs.length fc, .slice sa P.ss.length sc, .slice ra P.us.length rc, .int .i64 i] 26 (0, 0)) ∧ KAt V W0.heap.size (.cells #[.int .i64 ps, .int .i64 rs, .slice (some ⟨xb, xo, none⟩) code.length cc] 48 (0, 0))) := hid (by rw [hSS]; exact fun V h => ⟨KP2.out.below h, KF2.out.below h⟩)
       have CF2 : Hid (∀ V, SS V → Calls Tryz.prog 84 #[.agg #[.slice (some ⟨fB, fO, none⟩) P.fs.length fc, .slice sa P.ss.length sc, .slice ra P.us.length rc, .int .i64 i], .agg #[.int .i64 ps, .int .i64 rs, .slice (some ⟨xb, xo, none⟩) code.length cc], .agg #[.int .i64 op, .int .i64 a, .int .i64 b, .int .i64 c, .slice la l.length lc, .slice va lv.length vc]] V fun e w' => e = .returned (.bool (formB P.ss.length P.us.length (fpL P.fs) code.length rs op a b c l)) ∧ Below V.heap.size V w') := hid (by
        rw [hSS]; intro V h; exact CF.out ps rs _ code.length cc op a b c l lv la lc va vc V (SP.out.below (HQ.out.trans (h.mono HQ.out.size))) (hl.below h) (hv.below h) hcn)
       have CL2 : Hid (∀ V, SS V → Calls Tryz.prog 85 #[.agg #[.int .i64 ps, .int .i64 rs, .slice (some ⟨xb, xo, none⟩) code.length cc], .agg #[.int .i64 op, .int .i64 a, .int .i64 b, .int .i64 c, .slice la l.length lc, .slice va lv.length vc]] V fun e w' => e = .returned (.bool (liveB op b lv rs)) ∧ Below V.heap.size V w') := hid (by
        rw [hSS]; intro V h; exact CL.out ps rs _ code.length cc ⟨op, a, b, c, l, lv⟩ la lc va vc V (hl.below h) (hv.below h))
       have d5 : decide ((k : Int) < (code.length : Int)) = true := decide_eq_true (by omega)
       cases hq : formB P.ss.length P.us.length (fpL P.fs) code.length rs op a b c l
       ·rw [hq] at CF2
        have HFI := hid (show formI P.ss.length P.us.length (fpL P.fs) code.length rs ⟨op, a, b, c, l, lv⟩ = false by show (_ && formB P.ss.length P.us.length (fpL P.fs) code.length rs op a b c l) = false; rw [hq, Bool.and_false])
        clear hSS CF CL hl hv hq
        go_wp2_with fail
        refine wp_region_held_drew (S := (fun w' => w'.cell? ⟨w.heap.size, 0, none⟩ = some (.slice (some ⟨fB, fO, none⟩) P.fs.length fc) ∧ w'.cell? ⟨w.heap.size, 1, none⟩ = some (.slice sa P.ss.length sc) ∧ w'.cell? ⟨w.heap.size, 2, none⟩ = some (.slice ra P.us.length rc) ∧ w'.cell? ⟨w.heap.size, 3, none⟩ = some (.int .i64 i) ∧ w'.cell? ⟨W0.heap.size, 0, none⟩ = some (.int .i64 ps) ∧ w'.cell? ⟨W0.heap.size, 1, none⟩ = some (.int .i64 rs) ∧ w'.cell? ⟨W0.heap.size, 2, none⟩ = some (.slice (some ⟨xb, xo, none⟩) code.length cc) ∧ w'.cell? ⟨xb, xo + k * 6, none⟩ = some (.int .i64 op) ∧ w'.cell? ⟨xb, xo + k * 6 + 1, none⟩ = some (.int .i64 a) ∧ w'.cell? ⟨xb, xo + k * 6 + 2, none⟩ = some (.int .i64 b) ∧ w'.cell? ⟨xb, xo + k * 6 + 3, none⟩ = some (.int .i64 c) ∧ w'.cell? ⟨xb, xo + k * 6 + 4, none⟩ = some (.slice la l.length lc) ∧ w'.cell? ⟨xb, xo + k * 6 + 5, none⟩ = some (.slice va lv.length vc) ∧ SS w')) (by kernel_rfl) (by first | (refine ⟨?_, ?_, ?_, ?_, ?_, ?_, ?_, ?_, ?_, ?_, ?_, ?_, ?_, hS0⟩ <;> (go_keep; done))) (fun hHeld => ?_)
        refine wpAnyH_take (i := 0) (v := ?_) (by simp only [List.getElem?_toArray]; rfl) (by kernel_rfl) (by kernel_rfl) (by kernel_rfl) (by exact fun _ _ _ h => h) (Or.inl ⟨by rfl, ?_⟩) (by assumption) ?_
        rotate_left
        ·intro w hSw
         (try dsimp only at hSw)
         go_simp
         all_goals with_reducible rfl
        try simp only [Act.put, List.setIfInBounds_toArray, List.set_cons_zero, List.set_cons_succ]
        refine wpAnyH_take (i := 1) (v := ?_) (by simp only [List.getElem?_toArray]; rfl) (by kernel_rfl) (by kernel_rfl) (by kernel_rfl) (by exact fun _ _ _ h => h) (Or.inl ⟨by rfl, ?_⟩) (by assumption) ?_
        rotate_left
        ·intro w hSw
         (try dsimp only at hSw)
         go_simp
         all_goals with_reducible rfl
        try simp only [Act.put, List.setIfInBounds_toArray, List.set_cons_zero, List.set_cons_succ]
        refine wpAnyH_take (i := 2) (v := ?_) (by simp only [List.getElem?_toArray]; rfl) (by kernel_rfl) (by kernel_rfl) (by kernel_rfl) (by exact fun _ _ _ h => h) (Or.inl ⟨by rfl, ?_⟩) (by assumption) ?_
        rotate_left
        ·intro w hSw
         (try dsimp only at hSw)
         go_simp
         all_goals with_reducible rfl
        try simp only [Act.put, List.setIfInBounds_toArray, List.set_cons_zero, List.set_cons_succ]
        refine wpAnyH_take (i := 3) (v := ?_) (by simp only [List.getElem?_toArray]; rfl) (by kernel_rfl) (by kernel_rfl) (by kernel_rfl) (by exact fun _ _ _ h => h) (Or.inl ⟨by rfl, ?_⟩) (by assumption) ?_
        rotate_left
        ·intro w hSw
         (try dsimp only at hSw)
         go_simp
         all_goals with_reducible rfl
        try simp only [Act.put, List.setIfInBounds_toArray, List.set_cons_zero, List.set_cons_succ]
        refine wpAnyH_take (i := 4) (v := ?_) (by simp only [List.getElem?_toArray]; rfl) (by kernel_rfl) (by kernel_rfl) (by kernel_rfl) (by exact fun _ _ _ h => h) (Or.inl ⟨by rfl, ?_⟩) (by assumption) ?_
        rotate_left
        ·intro w hSw
         (try dsimp only at hSw)
         go_simp
         all_goals with_reducible rfl
        try simp only [Act.put, List.setIfInBounds_toArray, List.set_cons_zero, List.set_cons_succ]
        refine wpAnyH_take (i := 5) (v := ?_) (by simp only [List.getElem?_toArray]; rfl) (by kernel_rfl) (by kernel_rfl) (by kernel_rfl) (by exact fun _ _ _ h => h) (Or.inl ⟨by rfl, ?_⟩) (by assumption) ?_
        rotate_left
        ·intro w hSw
         (try dsimp only at hSw)
         go_simp
         all_goals with_reducible rfl
        try simp only [Act.put, List.setIfInBounds_toArray, List.set_cons_zero, List.set_cons_succ]
        refine wpAnyH_take (i := 6) (v := ?_) (by simp only [List.getElem?_toArray]; rfl) (by kernel_rfl) (by kernel_rfl) (by kernel_rfl) (by exact fun _ _ _ h => h) (Or.inl ⟨by rfl, ?_⟩) (by assumption) ?_
        rotate_left
        ·intro w hSw
         (try dsimp only at hSw)
         go_simp
         all_goals with_reducible rfl
        try simp only [Act.put, List.setIfInBounds_toArray, List.set_cons_zero, List.set_cons_succ]
        refine wpAnyH_ready (rs := [7]) (by kernel_rfl) (by simp) ?_
        refine AllReadyH.cons (by simp only [List.getElem?_toArray]; rfl) (fun K hK => ?_) AllReadyH.nil
        rw [if_pos (by rfl)]
        go_simp
        go_at_call 84; (with_reducible refine (CF2.out _ ?_).mono ?_)
        ·go_split_ands; assumption
        rintro e w1 ⟨rfl, hbx⟩
        refine hK.out _ _ (by go_split_ands; exact SK.out _ _ (by assumption) hbx) (fun hHeld2 => ?_)
        try simp only [Act.put, List.setIfInBounds_toArray, List.set_cons_zero, List.set_cons_succ]
        refine wpAnyH_take (i := 8) (v := ?_) (by simp only [List.getElem?_toArray]; rfl) (by kernel_rfl) (by kernel_rfl) (by kernel_rfl) (by exact fun _ _ _ h => h) (Or.inl ⟨by rfl, ?_⟩) (by assumption) ?_
        rotate_left
        ·intro w hSw
         (try dsimp only at hSw)
         go_simp
         all_goals with_reducible rfl
        try simp only [Act.put, List.setIfInBounds_toArray, List.set_cons_zero, List.set_cons_succ]
        refine wpAnyH_take (i := 9) (v := ?_) (by simp only [List.getElem?_toArray]; rfl) (by kernel_rfl) (by kernel_rfl) (by kernel_rfl) (by exact fun _ _ _ h => h) (Or.inl ⟨by rfl, ?_⟩) (by assumption) ?_
        rotate_left
        ·intro w hSw
         (try dsimp only at hSw)
         go_simp
         all_goals with_reducible rfl
        try simp only [Act.put, List.setIfInBounds_toArray, List.set_cons_zero, List.set_cons_succ]
        refine wpAnyH_take (i := 10) (v := undef) (by simp only [List.getElem?_toArray]; rfl) (by kernel_rfl) (by kernel_rfl) (by kernel_rfl) (by exact fun _ _ _ h => h) (Or.inr ⟨by rfl, rfl⟩) (by assumption) ?_
        try simp only [Act.put, List.setIfInBounds_toArray, List.set_cons_zero, List.set_cons_succ]
        refine wpAnyH_take (i := 11) (v := undef) (by simp only [List.getElem?_toArray]; rfl) (by kernel_rfl) (by kernel_rfl) (by kernel_rfl) (by exact fun _ _ _ h => h) (Or.inr ⟨by rfl, rfl⟩) (by assumption) ?_
        try simp only [Act.put, List.setIfInBounds_toArray, List.set_cons_zero, List.set_cons_succ]
        refine wpAnyH_take (i := 12) (v := undef) (by simp only [List.getElem?_toArray]; rfl) (by kernel_rfl) (by kernel_rfl) (by kernel_rfl) (by exact fun _ _ _ h => h) (Or.inr ⟨by rfl, rfl⟩) (by assumption) ?_
        try simp only [Act.put, List.setIfInBounds_toArray, List.set_cons_zero, List.set_cons_succ]
        refine wpAnyH_take (i := 13) (v := undef) (by simp only [List.getElem?_toArray]; rfl) (by kernel_rfl) (by kernel_rfl) (by kernel_rfl) (by exact fun _ _ _ h => h) (Or.inr ⟨by rfl, rfl⟩) (by assumption) ?_
        try simp only [Act.put, List.setIfInBounds_toArray, List.set_cons_zero, List.set_cons_succ]
        refine wpAnyH_take (i := 14) (v := undef) (by simp only [List.getElem?_toArray]; rfl) (by kernel_rfl) (by kernel_rfl) (by kernel_rfl) (by exact fun _ _ _ h => h) (Or.inr ⟨by rfl, rfl⟩) (by assumption) ?_
        try simp only [Act.put, List.setIfInBounds_toArray, List.set_cons_zero, List.set_cons_succ]
        refine wpAnyH_take (i := 15) (v := undef) (by simp only [List.getElem?_toArray]; rfl) (by kernel_rfl) (by kernel_rfl) (by kernel_rfl) (by exact fun _ _ _ h => h) (Or.inr ⟨by rfl, rfl⟩) (by assumption) ?_
        try simp only [Act.put, List.setIfInBounds_toArray, List.set_cons_zero, List.set_cons_succ]
        refine wpAnyH_take (i := 16) (v := undef) (by simp only [List.getElem?_toArray]; rfl) (by kernel_rfl) (by kernel_rfl) (by kernel_rfl) (by exact fun _ _ _ h => h) (Or.inr ⟨by rfl, rfl⟩) (by assumption) ?_
        try simp only [Act.put, List.setIfInBounds_toArray, List.set_cons_zero, List.set_cons_succ]
        refine wpAnyH_take (i := 17) (v := undef) (by simp only [List.getElem?_toArray]; rfl) (by kernel_rfl) (by kernel_rfl) (by kernel_rfl) (by exact fun _ _ _ h => h) (Or.inr ⟨by rfl, rfl⟩) (by assumption) ?_
        try simp only [Act.put, List.setIfInBounds_toArray, List.set_cons_zero, List.set_cons_succ]
        refine wpAnyH_take (i := 18) (v := ?_) (by simp only [List.getElem?_toArray]; rfl) (by kernel_rfl) (by kernel_rfl) (by kernel_rfl) (by exact fun _ _ _ h => h) (Or.inl ⟨by rfl, ?_⟩) (by assumption) ?_
        rotate_left
        ·intro w hSw
         (try dsimp only at hSw)
         go_simp
         all_goals with_reducible rfl
        try simp only [Act.put, List.setIfInBounds_toArray, List.set_cons_zero, List.set_cons_succ]
        refine wpAnyH_done (by kernel_rfl) ?_ _
        go_wp2_with fail
        go_ret3
        go_split_ands
        exact ⟨by rw [HF.out, HR.out, HN2.out, HK.out k _ HXx.out HFI.out HL.out]; rfl, HBS.out _ (by assumption)⟩
       ·rw [hq] at CF2
        have HFI := hid (show formI P.ss.length P.us.length (fpL P.fs) code.length rs ⟨op, a, b, c, l, lv⟩ = liveB op b lv rs by show (_ && formB P.ss.length P.us.length (fpL P.fs) code.length rs op a b c l) = _; rw [hq, Bool.and_true])
        clear hSS CF CL hl hv hq
        cases hq2 : liveB op b lv rs
        all_goals
         rw [hq2] at CL2 HFI
         clear hq2
         go_wp2_with fail
         go_region_held3 (fun w' => w'.cell? ⟨w.heap.size, 0, none⟩ = some (.slice (some ⟨fB, fO, none⟩) P.fs.length fc) ∧ w'.cell? ⟨w.heap.size, 1, none⟩ = some (.slice sa P.ss.length sc) ∧ w'.cell? ⟨w.heap.size, 2, none⟩ = some (.slice ra P.us.length rc) ∧ w'.cell? ⟨w.heap.size, 3, none⟩ = some (.int .i64 i) ∧ w'.cell? ⟨W0.heap.size, 0, none⟩ = some (.int .i64 ps) ∧ w'.cell? ⟨W0.heap.size, 1, none⟩ = some (.int .i64 rs) ∧ w'.cell? ⟨W0.heap.size, 2, none⟩ = some (.slice (some ⟨xb, xo, none⟩) code.length cc) ∧ w'.cell? ⟨xb, xo + k * 6, none⟩ = some (.int .i64 op) ∧ w'.cell? ⟨xb, xo + k * 6 + 1, none⟩ = some (.int .i64 a) ∧ w'.cell? ⟨xb, xo + k * 6 + 2, none⟩ = some (.int .i64 b) ∧ w'.cell? ⟨xb, xo + k * 6 + 3, none⟩ = some (.int .i64 c) ∧ w'.cell? ⟨xb, xo + k * 6 + 4, none⟩ = some (.slice la l.length lc) ∧ w'.cell? ⟨xb, xo + k * 6 + 5, none⟩ = some (.slice va lv.length vc) ∧ SS w')
          (first
           | (go_keep; done)
           | (refine ⟨?_, ?_, ?_, ?_, ?_, ?_, ?_, ?_, ?_, ?_, ?_, ?_, ?_, hS0⟩ <;> (go_keep; done))
           | (go_split_ands; exact SK.out _ _ (by assumption) hbx))
          (first
           | (go_at_call 84; (with_reducible refine (CF2.out _ ?_).mono ?_); (go_split_ands; assumption); rintro e w1 ⟨rfl, hbx⟩)
           | (go_at_call 85; (with_reducible refine (CL2.out _ ?_).mono ?_); (go_split_ands; assumption); rintro e w1 ⟨rfl, hbx⟩))
        ·all_goals (go_wp2_with fail; go_ret3; go_split_ands; exact ⟨by rw [HF.out, HR.out, HN2.out, HK.out k _ HXx.out HFI.out HL.out]; rfl, HBS.out _ (by assumption)⟩)
        ·go_wp2_with fail
         go_split_ands
         refine ⟨⟨k + 1, by go_num, hkl, fun j y hj hy => ?_, HBS.out _ (by assumption), (HKS.out _ (by assumption)).1, (HKS.out _ (by assumption)).2⟩, ?_⟩
         ·rcases Nat.lt_succ_iff_lt_or_eq.1 hj with h | h
          ·exact HL.out j y h hy
          ·subst h; rw [HXx.out] at hy; cases hy; exact HFI.out
         ·simp [intOf]; omega
      ·have hke : k = code.length := by omega
       subst hke
       have HN3 := hid (HN2.out.trans (by rw [HKn.out HL.out]))
       have d3 : decide ((code.length : Int) < (code.length : Int)) = false := decide_eq_false (by omega)
       go_wp2_with fail
       go_roundw
       case rel =>
        refine ⟨_, _, _, _, ⟨j + 1, rfl, hlt, HR.out.trans HN3.out, KP2.out⟩, rfl, rfl, rfl, ?_⟩
        go_num
       case measure => simp [intOf]; omega
    ·have hie : j = P.fs.length := by omega
     subst hie
     have d3 : decide ((P.fs.length : Int) < (P.fs.length : Int)) = false := decide_eq_false (by omega)
     go_wp2_with fail
     go_ret3
     exact ⟨by rw [HF.out, HR.out, List.drop_length]; rfl, hb⟩
theorem good_ll {p : Pg} {f : Fu} (h : GoodF p f) (h1 : p.ss.length ≤ 65536) (h2 : p.us.length ≤ 65536) (h3 : p.fs.length ≤ 65536) : ∀ x ∈ f.code, InF x := by
 intro x hx
 obtain ⟨i, hi, rfl⟩ := List.mem_iff_getElem.1 hx
 exact form_in (h.x i f.code[i] (List.getElem?_eq_getElem hi)) h.rs h.cn h1 h2 (by simpa [fpL] using h3)
set_option maxHeartbeats 8000000 in
set_option maxRecDepth 8000 in
theorem rcheck_any (fa sa ra : Option Addr) (fc sc rc : Nat) (P : Pg) (w : World) (hP : PgAt w fa sa ra P) :
  Calls Tryz.prog 12 #[.agg #[.slice fa P.fs.length fc, .slice sa P.ss.length sc, .slice ra P.us.length rc, .int .i64 P.en]] w fun e w' => e = .returned (tri (checkL P)) ∧ Below w.heap.size w w' := by
 have S := hid hP
 have CF := hid (fun W h => rforms_any fa sa ra fc sc rc P W h)
 have hA : Below w.heap.size w (w.alloc (.cells #[.slice fa P.fs.length fc, .slice sa P.ss.length sc, .slice ra P.us.length rc, .int .i64 P.en] 26)) := (Below.refl _ _).alloc (Nat.le_refl _) _
 have HA := hid hA
 have K0 := hid (KAt.new w (.cells #[.slice fa P.fs.length fc, .slice sa P.ss.length sc, .slice ra P.us.length rc, .int .i64 P.en] 26 (0, 0)))
 obtain ⟨⟨u1, u2, u3⟩, hu⟩ : ∃ t, formsL P = t := ⟨_, rfl⟩
 rw [hu] at CF
 have HU := hid hu
 have hm1 : (P.fs.length : Int) ≤ 9223372036854775807 := by have := hP.f.1; unfold maxLen at this; omega
 clear hP hA hu
 go_enter Tryz.func12, Tryz.ntmps12
 by_cases h0 : u3 = 0
 rotate_left
 ·have k0 : (u3 == 0) = false := by simpa using h0
  have HC := hid (show checkL P = (u1, u2, u3) by unfold checkL; rw [HU.out, if_pos h0])
  go_wp2_with (first
   | (go_at_call 31; refine (CF.out _ (S.out.below HA.out)).mono ?_; rintro e w2 ⟨rfl, hb2⟩; have HB2 := hid (HA.out.trans (hb2.mono HA.out.size)); clear hb2))
  go_ret3
  exact ⟨by rw [HC.out]; rfl, HB2.out⟩
 subst h0
 obtain ⟨hz, hgood, hhead⟩ := formsL_good (p := P) (by rw [HU.out])
 have hz2 := HU.out.symm.trans hz
 cases hz2
 have HG := hid hgood
 have HL := hid (headB_len hhead)
 have HC := hid (show checkL P = checkF 0 P.fs by unfold checkL; rw [HU.out, if_neg (by simp)])
 clear hz hgood hhead HU
 go_wp2_with (first
  | (go_at_call 31; refine (CF.out _ (S.out.below HA.out)).mono ?_; rintro e w2 ⟨rfl, hb2⟩; have HB2 := hid (HA.out.trans (hb2.mono HA.out.size)); have K2 := hid (K0.out.below hb2); clear hb2))
 have CU := hid (fun ps rs ca cc code W h1 h2 h3 h4 h5 h6 => runset_any ps rs ca cc code W h1 h2 h3 h4 h5 h6)
 have CO := hid (fun ps rs ca cc code W h1 h2 => rflows_any ps rs ca cc code W h1 h2)
 go_loopw [8] (fun vi wr => ∃ i : Nat, vi = .int .i64 i ∧ i ≤ P.fs.length ∧ checkF 0 P.fs = checkF i (P.fs.drop i) ∧ Below w.heap.size w wr ∧ KAt wr w.heap.size (.cells #[.slice fa P.fs.length fc, .slice sa P.ss.length sc, .slice ra P.us.length rc, .int .i64 P.en] 26 (0, 0))) (fun vi _ => P.fs.length - (intOf vi).toNat)
 case atStart => exact ⟨0, rfl, Nat.zero_le _, by rw [List.drop_zero], HB2.out, K2.out⟩
 case round =>
  clear HB2 K0 K2 CF
  obtain ⟨i, rfl, hi, hF, hb, hk⟩ := hrel
  obtain ⟨W0, hW0⟩ : ∃ W, W = wr := ⟨_, rfl⟩
  subst hW0
  have HR := hid hF
  have HB := hid hb
  have KP := hid hk
  obtain ⟨pv0, pv1, pv2, pv3⟩ := pbox_cells hk
  clear hF hb hk
  by_cases hlt : i < P.fs.length
  ·obtain ⟨fB, fO, f, hfa, hf, hFn⟩ := fns_cell (S.out.f.below HB.out) hlt
   subst hfa
   have HN := hid (checkF_at hf)
   have hgf := HG.out f (List.mem_of_getElem? hf)
   obtain ⟨ca, cc, g0, g1, g2, hC⟩ := hFn
   have hll := good_ll hgf HL.out.2.1 HL.out.2.2.1 HL.out.1
   clear hf
   obtain ⟨ps, rs, code⟩ := f
   have ga := hgf.ps
   have gb := hgf.le
   have gc := hgf.rs
   have gd := hgf.cn
   dsimp only at g0 g1 g2 hC HN ga gb gc gd hll
   obtain ⟨psn, rfl⟩ := Int.eq_ofNat_of_zero_le ga
   obtain ⟨rsn, rfl⟩ := Int.eq_ofNat_of_zero_le (Int.le_trans ga gb)
   have hCA := hC.code gd
   rw [Int.toNat_natCast] at HN
   have HCA := hid hCA
   have HLL := hid (fun x (hx : x ∈ code) => Nat.le_trans (hll x hx).l (show (2048 : Nat) ≤ 1000000000 by decide))
   have hOK : flowsB code = false → code ≠ [] ∧ OkC rsn code := by
    intro hfl
    rcases List.eq_nil_or_concat code with rfl | ⟨pre, x, he⟩
    ·cases hfl
    rw [List.concat_eq_append] at he
    subst he
    refine ⟨by simp, good_okC hgf ?_⟩
    have := flows_eq (hgf.x pre.length x (by simp))
    rw [hfl] at this
    simpa using this.symm
   have HOK := hid hOK
   clear hgf hll hOK hCA hC
   have m1 : IntKind.i64.wrap ((code.length : Int) - 1) = (code.length : Int) - 1 := IntWalk.i64_in _ (by omega)
   cases hfl : flowsB code
   rotate_left
   ·rw [hfl] at HN
    have HN2 := hid (HN.out.trans (if_pos rfl))
    go_wp2_with (first
     | (go_at_call 32; refine (CO.out _ _ _ _ code _ HCA.out HLL.out).mono ?_; rw [hfl]; rintro e w3 ⟨rfl, hb3⟩; have HB3 := hid (HB.out.trans (hb3.mono HB.out.size)); have K3 := hid (KP.out.below hb3); have e : ∀ m k v, W0.cell? ⟨m, k, none⟩ = some v → w3.cell? ⟨m, k, none⟩ = some v := (fun m k v hc => (hb3.cell (p := ⟨m, k, none⟩) (World.block_lt_of_cell? W0 _ hc)).trans hc); replace g0 := e _ _ _ g0; replace g1 := e _ _ _ g1; replace g2 := e _ _ _ g2; replace pv0 := e _ _ _ pv0; clear hb3 e pv1 pv2 pv3))
    go_quiet (fail)
    go_wp2_with fail
    go_ret3
    exact ⟨by rw [HC.out, HR.out, HN2.out]; rfl, below_drewN HB3.out _⟩
   rw [hfl] at HN
   obtain ⟨hne, hok⟩ := HOK.out hfl
   have HN2 := hid (HN.out.trans (if_neg (by simp)))
   have HNE := hid hne
   have HOK2 := hid hok
   clear hne hok HOK HN
   obtain ⟨r, hr⟩ : ∃ r, unsetS code psn = r := ⟨_, rfl⟩
   have CU2 := hid (fun W (h2 : CodeAt W ca code) => by
    have := CU.out psn rsn ca cc code W h2 HOK2.out HNE.out (by omega) (by omega) (by omega)
    rw [hr] at this
    exact this)
   rw [hr] at HN2
   clear hr CU
   by_cases h0 : 0 ≤ r
   ·have k0 : decide (0 ≤ r) = true := decide_eq_true h0
    have HN3 := hid (HN2.out.trans (if_pos h0))
    go_wp2_with (first
     | (go_at_call 32; refine (CO.out _ _ _ _ code _ HCA.out HLL.out).mono ?_; rw [hfl]; rintro e w3 ⟨rfl, hb3⟩; have HB3 := hid (HB.out.trans (hb3.mono HB.out.size)); have HCA3 := hid (HCA.out.below hb3); have K3 := hid (KP.out.below hb3); have e : ∀ m k v, W0.cell? ⟨m, k, none⟩ = some v → w3.cell? ⟨m, k, none⟩ = some v := (fun m k v hc => (hb3.cell (p := ⟨m, k, none⟩) (World.block_lt_of_cell? W0 _ hc)).trans hc); replace g0 := e _ _ _ g0; replace g1 := e _ _ _ g1; replace g2 := e _ _ _ g2; replace pv0 := e _ _ _ pv0; clear hb3 e pv1 pv2 pv3)
     | (go_at_call 33; refine (CU2.out _ HCA3.out).mono ?_; rintro e w4 ⟨rfl, hb4⟩; have HB4 := hid (HB3.out.trans (hb4.mono HB3.out.size)); have K4 := hid (K3.out.below hb4); clear hb4))
    go_ret3
    exact ⟨by rw [HC.out, HR.out, HN3.out]; rfl, HB4.out⟩
   ·have k0 : decide (0 ≤ r) = false := decide_eq_false h0
    have HN3 := hid (HN2.out.trans (if_neg h0))
    go_wp2_with (first
     | (go_at_call 32; refine (CO.out _ _ _ _ code _ HCA.out HLL.out).mono ?_; rw [hfl]; rintro e w3 ⟨rfl, hb3⟩; have HB3 := hid (HB.out.trans (hb3.mono HB.out.size)); have HCA3 := hid (HCA.out.below hb3); have K3 := hid (KP.out.below hb3); have e : ∀ m k v, W0.cell? ⟨m, k, none⟩ = some v → w3.cell? ⟨m, k, none⟩ = some v := (fun m k v hc => (hb3.cell (p := ⟨m, k, none⟩) (World.block_lt_of_cell? W0 _ hc)).trans hc); replace g0 := e _ _ _ g0; replace g1 := e _ _ _ g1; replace g2 := e _ _ _ g2; replace pv0 := e _ _ _ pv0; clear hb3 e pv1 pv2 pv3)
     | (go_at_call 33; refine (CU2.out _ HCA3.out).mono ?_; rintro e w4 ⟨rfl, hb4⟩; have HB4 := hid (HB3.out.trans (hb4.mono HB3.out.size)); have K4 := hid (K3.out.below hb4); clear hb4))
    go_roundw
    case rel => exact ⟨i + 1, by go_num, hlt, HR.out.trans HN3.out, HB4.out, K4.out⟩
    case measure => simp [intOf]; omega
  ·have hie : i = P.fs.length := by omega
   subst hie
   have d3 : decide ((P.fs.length : Int) < (P.fs.length : Int)) = false := decide_eq_false (by omega)
   go_wp2_with fail
   go_ret3
   exact ⟨by rw [HC.out, HR.out, List.drop_length]; rfl, HB.out⟩
section
/-- behind Encode's head: the program's box, the writer, the variable that names it -/
structure EnA (w : World) (v0 v1 v2 v3 : Value) (p q : Nat) (l : List UInt8) (W : World) : Prop where
 be : Below w.heap.size w W
 pa : KAt W w.heap.size (.cells #[v0, v1, v2, v3] 26 (0, 0))
 qa : KAt W q (qBlk p)
 wa : WrC W p l
 hp : w.heap.size < p
 hq : p < q
section
variable {w W V : World} {v0 v1 v2 v3 : Value} {p q : Nat} {l m : List UInt8}
theorem EnA.step (h : EnA w v0 v1 v2 v3 p q l W) (hw : WrC V p m) (ht : WTch p W V) : EnA w v0 v1 v2 v3 p q m V :=
 ⟨h.be.trans (ht.be.mono (Nat.le_of_lt h.hp)), h.pa.tch (by decide) (Nat.ne_of_lt h.hp) ht, h.qa.tch (by decide) (Nat.ne_of_gt h.hq) ht, hw, h.hp, h.hq⟩
theorem EnA.below (h : EnA w v0 v1 v2 v3 p q l W) (hb : Below W.heap.size W V) : EnA w v0 v1 v2 v3 p q l V :=
 ⟨h.be.trans (hb.mono h.be.size), h.pa.below hb, h.qa.below hb, h.wa.below hb, h.hp, h.hq⟩
theorem EnA.cells (h : EnA w v0 v1 v2 v3 p q l W) : W.cell? ⟨w.heap.size, 0, none⟩ = some v0 ∧ W.cell? ⟨w.heap.size, 1, none⟩ = some v1 ∧ W.cell? ⟨w.heap.size, 2, none⟩ = some v2 ∧ W.cell? ⟨w.heap.size, 3, none⟩ = some v3 ∧ W.cell? ⟨q, 0, none⟩ = some (.pointer (some ⟨p, 0, none⟩)) := by
 obtain ⟨a, b, c, d⟩ := pbox_cells h.pa
 exact ⟨a, b, c, d, by rw [cell_of_row _ _ _ _ _ _ h.qa.x]; rfl⟩
theorem en_start (hb : Below w.heap.size w W) (hP : KAt W w.heap.size (.cells #[v0, v1, v2, v3] 26 (0, 0))) :
  EnA w v0 v1 v2 v3 W.heap.size (W.heap.size + 1) [] ((W.alloc (.cells #[.slice none 0 0] 85)).alloc (.cells #[.pointer (some ⟨W.heap.size, 0, none⟩)] 83)) := by
 have hl := heap_lt hP.x
 have z : ∀ (W : World) (o : Obj), (W.alloc o).heap.size = W.heap.size + 1 := fun W o => by simp
 have k1 := KAt.new W (wBlk (.slice none 0 0))
 have k2 := KAt.new (W.alloc (wBlk (.slice none 0 0))) (qBlk W.heap.size)
 rw [z] at k2
 refine ⟨(hb.alloc hb.size _).alloc (by rw [z]; have := hb.size; omega) _, (hP.alloc _).alloc _, k2, ⟨_, k1.alloc _, OwnB.nil _ _⟩, hl, by omega⟩
end
/-- a string behind the writer's own row, in a region that draws -/
theorem step_ws {w : World} {ops : Array Oper} {o : Oper} {a : Act} {K : Act → World → Prop} {Q : Exit → Act → World → Prop} {E : Prop} {p q : Nat} {vo : Value} {l s : List UInt8} (hr : WrB w p vo l) (hq : KAt w q (qBlk p)) (hqp : q ≠ p) (hgd : o.guard = none) (sl x : Operand)
  (ho : o.op = .call { callee := .builtin .append, args := #[sl, x], argTypes := #[40, 9] })
  (hs : a.eval sl = vo) (hx : a.eval x = .string ⟨s.toArray⟩) (hn : l.length + s.length ≤ 5000000000)
  (h : ∀ g m cap V, KAt V p (wBlk vo) → OwnB V (p + 1) (.slice g m cap) (l ++ s) → V.cell? ⟨p, 0, none⟩ = some vo → V.frozen? ⟨p, 0, none⟩ = false → V.cell? ⟨q, 0, none⟩ = some (.pointer (some ⟨p, 0, none⟩)) → WTch p w V → K (a.put o.dst (.slice g m cap)) V) :
  if Region.wanted o (yielded ops a.tmps) = true then Oper.wp Tryz.prog o a w K Q else E := by
 have hw : Region.wanted o (yielded ops a.tmps) = true := by simp [Region.wanted, hgd]
 rw [if_pos hw]
 obtain ⟨i0, hi, hz0, hz1, hz2⟩ := info_parts infoU8
 obtain ⟨v', V, hrun, h1, h2, _⟩ := Lib.run_append_own_string (P := Tryz.prog) w (p + 1) 40 9 o.type 5 i0 Tryz.underlying40 Tryz.underlying9 hi hz0 hz1 hz2 vo l.length (Lib.byteCells l) hr.o ⟨s.toArray⟩ (by rw [size_mk]; unfold maxLen; omega) (by rw [size_mk]; omega) hr.lt
 unfold Oper.wp execOp
 simp only [ho, resolve, invoke, builtin, Sem.run_bind, Sem.run_pure, Result.andThen_ok, List.map_toArray, List.map_cons, List.map_nil, hs, hx, hrun]
 have h3 : OwnB V (p + 1) v' (l ++ s) := by
  unfold OwnB
  rw [size_mk] at h1
  rw [List.length_append]
  have e : Lib.byteCells l ++ Lib.strCells ⟨s.toArray⟩ = Lib.byteCells (l ++ s) := by simp [Lib.byteCells, Lib.strCells]
  rw [← e]; exact h1
 obtain ⟨a1, a2, a3, a4⟩ := hr.keep h2
 obtain ⟨g, cap, rfl⟩ := h3.form
 have hqV := hq.tch (by decide) hqp a4
 exact h g _ cap V a1 h3 a2 a3 (by rw [cell_of_row _ _ _ _ _ _ hqV.x]; rfl) a4
/-- a byte behind the writer's own row, in a region that draws -/
theorem step_w1 {w : World} {ops : Array Oper} {o : Oper} {a : Act} {K : Act → World → Prop} {Q : Exit → Act → World → Prop} {E : Prop} {p q : Nat} {vo : Value} {l : List UInt8} {z : Int} (hr : WrB w p vo l) (hq : KAt w q (qBlk p)) (hqp : q ≠ p) (c : UInt8) (hz : z = (c.toNat : Int)) (hgd : o.guard = none) (sl x : Operand)
  (ho : o.op = .call { callee := .builtin .append, args := #[sl, x], argTypes := #[40, 40] })
  (hs : a.eval sl = vo) (H : Nat) (hx : a.eval x = .slice (some ⟨H, 0, none⟩) 1 1) (hc : w.cell? ⟨H, 0, none⟩ = some (.int .u8 z)) (hn : l.length ≤ 5000000000)
  (h : ∀ g m cap V, KAt V p (wBlk vo) → OwnB V (p + 1) (.slice g m cap) (l ++ [c]) → V.cell? ⟨p, 0, none⟩ = some vo → V.frozen? ⟨p, 0, none⟩ = false → V.cell? ⟨q, 0, none⟩ = some (.pointer (some ⟨p, 0, none⟩)) → WTch p w V → K (a.put o.dst (.slice g m cap)) V) :
  if Region.wanted o (yielded ops a.tmps) = true then Oper.wp Tryz.prog o a w K Q else E := by
 subst hz
 obtain ⟨i0, hi, hz0, hz1, hz2⟩ := info_parts infoU8
 refine step_append_lies _ hgd sl x 40 ho (p + 1) 5 i0 (.int .u8 0) 1 1 Tryz.underlying40 hi hz0 hz1 hz2 rfl (by decide) vo l.length (Lib.byteCells l) hs hr.o ⟨H, 0, none⟩ 1 1 [Value.int .u8 (c.toNat : Int)] hx rfl ?_ (by intro u hu; simp at hu; subst hu; rfl) (by decide) (by unfold maxLen; omega) (by omega) hr.lt _ rfl ?_
 ·intro j u hj
  match j, hj with
  | 0, hj => simp at hj; subst hj; simpa [Addr.add] using hc
  | j + 1, hj => simp at hj
 intro g cap V k1 k2 _ _
 obtain ⟨a1, a2, a3, a4⟩ := hr.keep k2
 have hqV := hq.tch (by decide) hqp a4
 refine h _ _ cap V a1 ?_ a2 a3 (by rw [cell_of_row _ _ _ _ _ _ hqV.x]; rfl) a4
 unfold OwnB
 rw [List.length_append]
 have e : Lib.byteCells l ++ [Value.int .u8 (c.toNat : Int)] = Lib.byteCells (l ++ [c]) := by simp [Lib.byteCells]
 rw [← e]; exact k1
theorem OwnB.base {W : World} {b b' : Nat} {v : Value} {l : List UInt8} (h : OwnB W b v l) (hb : b' ≤ b) : OwnB W b' v l := by
 obtain ⟨h0, h1 | ⟨g, cap, cur, q, hg, hr⟩⟩ := h
 ·exact ⟨h0, .inl h1⟩
 ·exact ⟨h0, .inr ⟨g, cap, cur, q, Nat.le_trans hb hg, hr⟩⟩
theorem nats_len {l : List Int} (hi : ∀ n ∈ l, I64 n) (hl : l.length ≤ 1024) : (natsE l).length ≤ 10250 := by
 unfold natsE
 have h6 := natE_len10 (n := l.length) (by omega)
 have h8 := flat_len (f := fun n : Int => natE n.toNat) (c := 10) (l := l) (fun n hn => natE_len10 (by have := (hi n hn).2; omega))
 simp only [List.length_append]
 omega
theorem sgns_len {l : List Int} (hi : ∀ n ∈ l, I64 n) (hl : l.length ≤ 2048) : (sgnsE l).length ≤ 20490 := by
 unfold sgnsE
 have h6 := natE_len10 (n := l.length) (by omega)
 have h8 := flat_len (f := sgnE) (c := 10) (l := l) (fun n hn => sgnE_len (hi n hn))
 simp only [List.length_append]
 omega
theorem ibox_cells {W : World} {m : Nat} {a b c d e f : Value} (h : KAt W m (.cells #[a, b, c, d, e, f] 58 (0, 0))) : W.cell? ⟨m, 0, none⟩ = some a ∧ W.cell? ⟨m, 1, none⟩ = some b ∧ W.cell? ⟨m, 2, none⟩ = some c ∧ W.cell? ⟨m, 3, none⟩ = some d ∧ W.cell? ⟨m, 4, none⟩ = some e ∧ W.cell? ⟨m, 5, none⟩ = some f := by
 refine ⟨?_, ?_, ?_, ?_, ?_, ?_⟩
 all_goals (rw [cell_of_row _ _ _ _ _ _ h.x]; rfl)
theorem below_ad (w : World) (o : Obj) : Below w.heap.size w (w.alloc o).drew := ((Below.refl _ _).alloc (Nat.le_refl _) o).drew
theorem byte_of {u : Int} {k : Nat} (h : 0 ≤ u) : IntKind.u8.wrap (u / 2 ^ (8 * k)) = ((UInt8.ofNat (u.toNat / 2 ^ (8 * k))).toNat : Int) := by
 obtain ⟨n, rfl⟩ := Int.eq_ofNat_of_zero_le h
 rw [UInt8.toNat_ofNat', Int.toNat_natCast, IntKind.wrap_u8]
 have : ((n : Int) / 2 ^ (8 * k)) = ((n / 2 ^ (8 * k) : Nat) : Int) := by
  rw [Int.natCast_ediv, Int.natCast_pow]; rfl
 rw [this]
 omega
theorem wordE_at {u : Int} {k : Nat} (h : k < 8) : (wordE u).take (k + 1) = (wordE u).take k ++ [UInt8.ofNat (u.toNat / 2 ^ (8 * k))] := by
 rw [List.take_succ_eq_append_getElem (by rw [wordE_len]; exact h)]
 simp [wordE]
/-- what of the bytes stands ahead -/
theorem encR_bad {P : Pg} (h : (checkL P).2.2 ≠ 0) : encR P = ([], (checkL P).2.2) := if_pos h
theorem encR_long {P : Pg} (h : (checkL P).2.2 = 0) (hl : 16777216 < (progE P).length) : encR P = ([], 2) := by unfold encR; rw [if_neg (by simp [h]), if_neg (by omega)]
theorem encR_ok {P : Pg} (h : (checkL P).2.2 = 0) (hl : (progE P).length ≤ 16777216) : encR P = (progE P, 0) := by unfold encR; rw [if_neg (by simp [h]), if_pos hl]
theorem prog_len1 (P : Pg) (k : Nat) : (headE P ++ (P.ss.take k).flatMap strE).length ≤ (progE P).length := by
 have := flat_take_le (f := strE) P.ss k
 unfold progE
 simp only [List.length_append]
 omega
theorem prog_len2 (P : Pg) (k : Nat) : (headE P ++ P.ss.flatMap strE ++ natE P.us.length ++ P.us.flatMap wordE ++ natE P.fs.length ++ (P.fs.take k).flatMap funE).length ≤ (progE P).length := by
 have := flat_take_le (f := funE) P.fs k
 unfold progE
 simp only [List.length_append]
 omega
theorem check_good {P : Pg} (h : (checkL P).2.2 = 0) : (∀ f ∈ P.fs, GoodF P f) ∧ headB P = false := by
 have h2 : (formsL P).2.2 = 0 := by
  apply Classical.byContradiction
  intro q
  unfold checkL at h
  rw [if_pos q] at h
  exact q h
 exact (formsL_good h2).2
theorem nat10 {n : Int} (h : n < 18446744073709551616) : (natE n.toNat).length ≤ 10 := natE_len10 (by omega)
set_option maxHeartbeats 8000000 in
set_option maxRecDepth 8000 in
theorem encode_any (fa sa ra : Option Addr) (fc sc rc : Nat) (P : Pg) (w : World) (hP : PgAt w fa sa ra P) :
  Calls Tryz.prog 19 #[.agg #[.slice fa P.fs.length fc, .slice sa P.ss.length sc, .slice ra P.us.length rc, .int .i64 P.en]] w fun e w' => ∃ v, e = .returned (.tuple #[v, .int .i64 (encR P).2]) ∧ OwnB w' w.heap.size v (encR P).1 ∧ Below w.heap.size w w' := by
 have S := hid hP
 have CC := hid (fun W h => check_any fa sa ra fc sc rc P W h)
 have CP := hid (fun p q n l W h1 h2 h3 h4 h5 => encl_any p q n l W h1 h2 h3 h4 h5)
 have hmf : ∀ (fn : Fn) (first cap : Array Value) (w : World), (Instr.makeFunc fn first cap).run Tryz.prog w = .ok (.func fn first cap) w := fun _ _ _ _ => rfl
 have hm1 : (P.fs.length : Int) ≤ 9223372036854775807 := by have := hP.f.1; unfold maxLen at this; omega
 have hA : Below w.heap.size w (w.alloc (.cells #[.slice fa P.fs.length fc, .slice sa P.ss.length sc, .slice ra P.us.length rc, .int .i64 P.en] 26)) := (Below.refl _ _).alloc (Nat.le_refl _) _
 have HA := hid hA
 have K0 := hid (KAt.new w (.cells #[.slice fa P.fs.length fc, .slice sa P.ss.length sc, .slice ra P.us.length rc, .int .i64 P.en] 26 (0, 0)))
 obtain ⟨⟨u1, u2, u3⟩, hu⟩ : ∃ t, checkL P = t := ⟨_, rfl⟩
 rw [hu] at CC
 have HU := hid hu
 clear hP hA hu
 go_enter Tryz.func19, Tryz.ntmps19
 by_cases h0 : u3 = 0
 rotate_left
 ·have k0 : (u3 == 0) = false := by simpa using h0
  have HC := hid (encR_bad (P := P) (by rw [HU.out]; exact h0))
  go_wp2_with (first
   | (go_at_call 11; refine (CC.out _ (S.out.below HA.out)).mono ?_; rintro e w2 ⟨rfl, hb2⟩; have HB2 := hid (HA.out.trans (hb2.mono HA.out.size)); clear hb2))
  go_ret2
  exact ⟨_, by rw [HC.out, HU.out]; rfl, by rw [HC.out]; exact OwnB.nil _ _, HB2.out⟩
 subst h0
 have HC0 := hid (show (checkL P).2.2 = 0 by rw [HU.out])
 go_wp2_with (first
  | (go_at_call 11; refine (CC.out _ (S.out.below HA.out)).mono ?_; rintro e w0 ⟨rfl, hb0⟩; have E := (en_start (HA.out.trans (hb0.mono HA.out.size)) (K0.out.below hb0)); clear hb0; obtain ⟨c0, c1, c2, c3, c4⟩ := E.cells))
 obtain ⟨hgood, hhead⟩ := check_good HC0.out
 have HG := hid hgood
 have hl := headB_len hhead
 have HL := hid hl
 obtain ⟨l1, l2, l3, l4, l5, l6⟩ := hl
 have HL4 := hid l4
 clear hgood hhead l4
 obtain ⟨p, hp⟩ : ∃ p, w0.heap.size = p := ⟨_, rfl⟩
 obtain ⟨W1, hW1⟩ : ∃ W, ((w0.alloc (.cells #[.slice none 0 0] 85)).alloc (.cells #[.pointer (some ⟨w0.heap.size, 0, none⟩)] 83)) = W := ⟨_, rfl⟩
 rw [hW1] at E c0 c1 c2 c3 c4
 rw [hW1]
 rw [hp] at E c4
 rw [hp]
 clear hW1 hp
 go_region
 have E1 := E.below (Below.refl _ _).drew
 clear E c0 c1 c2 c3 c4
 have E := hid E1
 clear E1
 obtain ⟨c0, c1, c2, c3, c4⟩ := E.out.cells
 have n1 := nat10 (n := P.en) (by omega)
 have n2 := nat10 (n := (P.ss.length : Int)) (by omega)
 go_wp2_with (first
  | (go_at_call 42; refine (CP.out _ _ _ _ _ E.out.qa E.out.wa (by omega) (by omega) (by simp only [List.length_append, List.length_nil]; omega)).mono ?_; rintro e w1 ⟨⟨_, rfl⟩, h1, h2⟩; have E := hid (E.out.step h1 h2); clear h1 h2 c0 c1 c2 c3 c4; obtain ⟨c0, c1, c2, c3, c4⟩ := E.out.cells))
 have hH : headE P = [] ++ natE P.en.toNat ++ natE (P.ss.length : Int).toNat := rfl
 have hHl : (headE P).length ≤ 20 := by rw [hH]; simp only [List.length_append, List.length_nil]; omega
 have E1 := E.out
 rw [← hH] at E1
 clear E n1 n2 hH c0 c1 c2 c3 c4
 go_loopw [45] (fun vi wr => ∃ k : Nat, vi = .int .i64 k ∧ k ≤ P.ss.length ∧ (headE P ++ (P.ss.take k).flatMap strE).length ≤ 17000000 ∧ EnA w (.slice fa P.fs.length fc) (.slice sa P.ss.length sc) (.slice ra P.us.length rc) (.int .i64 P.en) p (p + 1) (headE P ++ (P.ss.take k).flatMap strE) wr) (fun vi _ => P.ss.length - (intOf vi).toNat)
 case atStart => exact ⟨0, rfl, Nat.zero_le _, by simp; omega, by simpa using E1⟩
 case round =>
  clear E1
  obtain ⟨k, rfl, hk, hb, hE⟩ := hrel
  have E := hid hE
  obtain ⟨L, hLL⟩ : ∃ L, headE P ++ (P.ss.take k).flatMap strE = L := ⟨_, rfl⟩
  rw [hLL] at hb E
  have HLL := hid hLL
  clear hE hLL
  obtain ⟨c0, c1, c2, c3, c4⟩ := E.out.cells
  by_cases hlt : k < P.ss.length
  ·obtain ⟨v, hv⟩ := E.out.wa
   obtain ⟨g, cap, rfl⟩ := hv.o.form
   obtain ⟨b0, f0⟩ := hv.cells
   clear hv
   obtain ⟨bB, off, s, rfl, hs, hc, hsl⟩ := strs_cell (S.out.s.below E.out.be) hlt
   have HS := hid hs
   have hs6 := HL4.out s (List.mem_of_getElem? hs)
   clear hs hsl
   by_cases hbig : 16777216 < L.length
   ·have k0 : decide ((16777216 : Int) < (L.length : Int)) = true := decide_eq_true (by omega)
    have HC := hid (encR_long HC0.out (by have := prog_len1 P k; rw [HLL.out] at this; omega))
    go_wp2_with fail
    go_ret2
    exact ⟨_, by rw [HC.out]; rfl, by rw [HC.out]; exact OwnB.nil _ _, E.out.be⟩
   have k0 : decide ((16777216 : Int) < (L.length : Int)) = false := decide_eq_false (by omega)
   have n1 := nat10 (n := (s.length : Int)) (by omega)
   go_wp2_with (first
    | (go_at_call 42; refine (CP.out _ _ _ _ _ E.out.qa E.out.wa (by omega) (by omega) (by omega)).mono ?_; rintro e w1 ⟨⟨_, rfl⟩, h1, h2⟩; have E := hid (E.out.step h1 h2); clear h1 h2 c0 c1 c2 c3 c4 b0 f0; obtain ⟨c0, c1, c2, c3, c4⟩ := E.out.cells))
   obtain ⟨M, hM⟩ : ∃ M, L ++ natE (s.length : Int).toNat = M := ⟨_, rfl⟩
   have E1 := E.out
   rw [hM] at E1
   have hlen : M.length + s.length ≤ 17000000 := by rw [← hM]; simp only [List.length_append]; omega
   have HFT := hid (show headE P ++ (P.ss.take (k + 1)).flatMap strE = M ++ s by rw [flat_take (f := strE) HS.out, ← List.append_assoc, HLL.out, ← hM]; unfold strE; rw [← List.append_assoc]; rfl)
   clear hM E c0 c1 c2 c3 c4
   obtain ⟨c0, c1, c2, c3, c4⟩ := E1.cells
   obtain ⟨v, hv⟩ := E1.wa
   obtain ⟨g2, cap2, rfl⟩ := hv.o.form
   obtain ⟨b0, f0⟩ := hv.cells
   have HV := hid (hv.below (Below.refl _ _).drew)
   have HQ := hid (E1.qa.below (Below.refl _ _).drew)
   have ED := hid (E1.below (Below.refl _ _).drew)
   have HLN := hid hlen
   clear hv hlen E1
   go_region_law (first | (refine step_ws HV.out HQ.out (Nat.succ_ne_self p) rfl _ _ rfl rfl rfl (Nat.le_trans HLN.out (by decide)) ?_; intro g m1 cap V a1 a2 a3 a4 a5 a6; have A1 := hid a1; have A2 := hid a2; have A6 := hid a6; clear a1 a2 a6))
   all_goals
    go_wp2_with fail
    go_roundw
   all_goals first
    | exact ⟨k + 1, by go_num, hlt, by rw [HFT.out, List.length_append]; exact HLN.out, by rw [HFT.out]; exact ED.out.step ⟨_, WrB.set A1.out A2.out⟩ (A6.out.trans (WTch.set _ _))⟩
    | (simp only [intOf]; omega)
  ·obtain rfl : k = P.ss.length := by omega
   have d3 : decide ((P.ss.length : Int) < (P.ss.length : Int)) = false := decide_eq_false (by omega)
   have hLL := HLL.out
   rw [List.take_length] at hLL
   have n1 := nat10 (n := (P.us.length : Int)) (by omega)
   go_wp2_with (first
    | (go_at_call 42; refine (CP.out _ _ _ _ _ E.out.qa E.out.wa (by omega) (by omega) (by omega)).mono ?_; rintro e w1 ⟨⟨_, rfl⟩, h1, h2⟩; have E := hid (E.out.step h1 h2); clear h1 h2 c0 c1 c2 c3 c4; obtain ⟨c0, c1, c2, c3, c4⟩ := E.out.cells))
   obtain ⟨H2, hH2⟩ : ∃ H2, L ++ natE (P.us.length : Int).toNat = H2 := ⟨_, rfl⟩
   have E1 := E.out
   rw [hH2] at E1
   have hH2b : H2.length ≤ 17000010 := by rw [← hH2]; simp only [List.length_append]; omega
   have hH2e : H2 = headE P ++ P.ss.flatMap strE ++ natE P.us.length := by rw [← hH2, ← hLL]; rfl
   have H2E := hid hH2e
   have H2B := hid hH2b
   clear hH2 E c0 c1 c2 c3 c4 hLL HLL d3 n1 hH2e hb
   have hIU := S.out.u
   go_loopw [77] (fun vi wr => ∃ j : Nat, vi = .int .i64 j ∧ j ≤ P.us.length ∧ EnA w (.slice fa P.fs.length fc) (.slice sa P.ss.length sc) (.slice ra P.us.length rc) (.int .i64 P.en) p (p + 1) (H2 ++ (P.us.take j).flatMap wordE) wr) (fun vi _ => P.us.length - (intOf vi).toNat)
   case atStart => exact ⟨0, rfl, Nat.zero_le _, by simpa using E1⟩
   case round =>
    clear E1
    obtain ⟨j, rfl, hj, hE⟩ := hrel
    by_cases hlt : j < P.us.length
    ·obtain ⟨bB, off, rfl, hc⟩ := ints_cell (hIU.below hE.be) hlt
     have hg := ints_get hlt
     obtain ⟨u, hu⟩ : ∃ u, P.us.getD j 0 = u := ⟨_, rfl⟩
     rw [hu] at hc hg
     have hz := S.out.z u (List.mem_of_getElem? hg)
     have HFT := hid (flat_take (f := wordE) hg)
     have hlen : (H2 ++ (P.us.take j).flatMap wordE).length ≤ 18000000 := by
      have q := flat_len (f := wordE) (c := 8) (l := P.us.take j) (fun x _ => Nat.le_of_eq (wordE_len x))
      rw [List.length_take] at q
      simp only [List.length_append]
      omega
     obtain ⟨M, hM⟩ : ∃ M, H2 ++ (P.us.take j).flatMap wordE = M := ⟨_, rfl⟩
     rw [hM] at hE hlen
     have HM := hid hM
     have E := hid hE
     have HZ := hid hz
     clear hE hM hg hu hz hIU
     obtain ⟨c0, c1, c2, c3, c4⟩ := E.out.cells
     go_wp2_with fail
     go_loopw [81] (fun vk wq => ∃ k : Nat, vk = .int .i64 k ∧ k ≤ 8 ∧ EnA w (.slice fa P.fs.length fc) (.slice sa P.ss.length sc) (.slice (some ⟨bB, off, none⟩) P.us.length rc) (.int .i64 P.en) p (p + 1) (M ++ (wordE u).take k) wq) (fun vk _ => 8 - (intOf vk).toNat)
     case atStart => exact ⟨0, rfl, by decide, by simpa using E.out⟩
     case round =>
      clear E c0 c1 c2 c3 c4
      obtain ⟨k, rfl, hk, hE⟩ := hrel
      by_cases hlk : k < 8
      ·obtain ⟨N, hN⟩ : ∃ N, M ++ (wordE u).take k = N := ⟨_, rfl⟩
       rw [hN] at hE
       have hNl : N.length ≤ 18000010 := by rw [← hN, List.length_append, List.length_take]; omega
       obtain ⟨c0, c1, c2, c3, c4⟩ := hE.cells
       obtain ⟨v, hv⟩ := hE.wa
       obtain ⟨g2, cap2, rfl⟩ := hv.o.form
       obtain ⟨b0, f0⟩ := hv.cells
       have HV := hid hv
       have ED := hid hE
       have q1 := hv.lt
       have q2 := heap_lt hE.qa.x
       have HN := hid (show M ++ (wordE u).take (k + 1) = N ++ [UInt8.ofNat (u.toNat / 2 ^ (8 * k))] by rw [wordE_at hlk, ← List.append_assoc, hN])
       clear hv hE hN
       have m1 : IntKind.i64.wrap (8 * (k : Int)) = 8 * (k : Int) := IntWalk.i64_in _ (by omega)
       have m2 : 0 ≤ 8 * (k : Int) := by omega
       have m3 : 8 * (k : Int) ≤ 64 := by omega
       have m4 : (8 * (k : Int)).toNat = 8 * k := by omega
       go_wp2_with fail
       go_region_law (first | (refine step_w1 (HV.out.below (below_ad _ _)) (ED.out.qa.below (below_ad _ _)) (Nat.succ_ne_self p) (UInt8.ofNat (u.toNat / 2 ^ (8 * k))) (byte_of HZ.out.1) rfl _ _ rfl rfl _ rfl (by simp) (Nat.le_trans hNl (by decide)) ?_; intro g m1 cap V a1 a2 a3 a4 a5 a6; have A1 := hid a1; have A2 := hid a2; have A6 := hid ((WTch.of (below_ad _ _) (Nat.le_of_lt q1)).trans a6); clear a1 a2 a6))
       all_goals
        go_wp2_with fail
        go_roundw
       all_goals first
        | exact ⟨k + 1, by go_num, hlk, by rw [HN.out]; exact ED.out.step ⟨_, WrB.set A1.out A2.out⟩ (A6.out.trans (WTch.set _ _))⟩
        | (simp only [intOf]; omega)
      ·obtain rfl : k = 8 := by omega
       go_wp2_with fail
       go_roundw
       case rel => exact ⟨j + 1, by go_num, hlt, by rw [HFT.out, ← List.append_assoc, HM.out]; have := hE; rw [List.take_of_length_le (Nat.le_of_eq (wordE_len u))] at this; exact this⟩
       case measure => simp only [intOf]; omega
    ·obtain rfl : j = P.us.length := by omega
     have d3 : decide ((P.us.length : Int) < (P.us.length : Int)) = false := decide_eq_false (by omega)
     rw [List.take_length] at hE
     have hlen : (H2 ++ P.us.flatMap wordE).length ≤ 18000000 := by
      have q := flat_len (f := wordE) (c := 8) (l := P.us) (fun x _ => Nat.le_of_eq (wordE_len x))
      have := H2B.out
      simp only [List.length_append]
      omega
     obtain ⟨H3, hH3⟩ : ∃ H3, H2 ++ P.us.flatMap wordE = H3 := ⟨_, rfl⟩
     rw [hH3] at hE hlen
     have E := hid hE
     clear hE hIU
     obtain ⟨c0, c1, c2, c3, c4⟩ := E.out.cells
     have n1 := nat10 (n := (P.fs.length : Int)) (by omega)
     go_wp2_with (first
      | (go_at_call 42; refine (CP.out _ _ _ _ _ E.out.qa E.out.wa (by omega) (by omega) (by omega)).mono ?_; rintro e w1 ⟨⟨_, rfl⟩, h1, h2⟩; have E := hid (E.out.step h1 h2); clear h1 h2 c0 c1 c2 c3 c4; obtain ⟨c0, c1, c2, c3, c4⟩ := E.out.cells))
     obtain ⟨H4, hH4⟩ : ∃ H4, H3 ++ natE (P.fs.length : Int).toNat = H4 := ⟨_, rfl⟩
     have E1 := E.out
     rw [hH4] at E1
     have H4B := hid (show H4.length ≤ 18000010 by rw [← hH4]; simp only [List.length_append]; omega)
     have H4E := hid (show H4 = headE P ++ P.ss.flatMap strE ++ natE P.us.length ++ P.us.flatMap wordE ++ natE P.fs.length by rw [← hH4, ← hH3, H2E.out]; rfl)
     clear hH4 hH3 hlen n1 d3 E c0 c1 c2 c3 c4
     go_loopw [108] (fun vi wr => ∃ j : Nat, vi = .int .i64 j ∧ j ≤ P.fs.length ∧ (H4 ++ (P.fs.take j).flatMap funE).length ≤ 18000010 ∧ EnA w (.slice fa P.fs.length fc) (.slice sa P.ss.length sc) (.slice ra P.us.length rc) (.int .i64 P.en) p (p + 1) (H4 ++ (P.fs.take j).flatMap funE) wr) (fun vi _ => P.fs.length - (intOf vi).toNat)
     case atStart => exact ⟨0, rfl, Nat.zero_le _, by have := H4B.out; simpa using this, by simpa using E1⟩
     case round =>
      clear E1
      obtain ⟨j, rfl, hj, hb, hE⟩ := hrel
      obtain ⟨W0, hW0⟩ : ∃ W, W = wr := ⟨_, rfl⟩
      subst hW0
      by_cases hlt : j < P.fs.length
      ·obtain ⟨fB, fO, f, rfl, hf, hFn⟩ := fns_cell S.out.f hlt
       have hgf := HG.out f (List.mem_of_getElem? hf)
       have hll := good_ll hgf l2 l3 l1
       have HFT := hid (flat_take (f := funE) hf)
       obtain ⟨ca, cc, g0, g1, g2, hC⟩ := hFn
       have hlB : fB < w.heap.size := World.block_lt_of_cell? w _ g0
       have e : ∀ k, W0.cell? ⟨fB, k, none⟩ = w.cell? ⟨fB, k, none⟩ := fun k => hE.be.cell (p := ⟨fB, k, none⟩) hlB
       rw [← e] at g0 g1 g2
       clear e hf hlB
       obtain ⟨ps, rs, code⟩ := f
       have ga := hgf.ps
       have gb := hgf.le
       have gc := hgf.rs
       have gd := hgf.cn
       dsimp only at g0 g1 g2 hC HFT ga gb gc gd hll
       have HC := hid hC
       have HLL := hid hll
       clear hC hll hgf
       have hne : W0.heap.size ≠ p := Nat.ne_of_gt hE.wa.lt
       have HNE := hid hne
       obtain ⟨L, hL⟩ : ∃ L, H4 ++ (P.fs.take j).flatMap funE = L := ⟨_, rfl⟩
       rw [hL] at hE hb
       have HL0 := hid hL
       have E := hid (hE.below ((Below.refl _ _).alloc (Nat.le_refl _) (.cells #[.int .i64 ps, .int .i64 rs, .slice ca code.length cc] 48)))
       have X := hid (KAt.new W0 (.cells #[.int .i64 ps, .int .i64 rs, .slice ca code.length cc] 48 (0, 0)))
       obtain ⟨c0, c1, c2, c3, c4⟩ := E.out.cells
       obtain ⟨y0, y1, y2⟩ := fbox_cells X.out
       have n1 := nat10 (n := ps) (by omega)
       have n2 := nat10 (n := rs) (by omega)
       have n3 := nat10 (n := (code.length : Int)) (by omega)
       clear hE hL hne
       go_wp2_with (first
        | (go_at_call 42; refine (CP.out _ _ _ _ _ E.out.qa E.out.wa (by omega) (by omega) (by (try simp only [List.length_append]); omega)).mono ?_; rintro e w1 ⟨⟨_, rfl⟩, h1, h2⟩; have E := hid (E.out.step h1 h2); have X := hid (X.out.tch (by decide) HNE.out h2); clear h1 h2 c0 c1 c2 c3 c4 y0 y1 y2; obtain ⟨c0, c1, c2, c3, c4⟩ := E.out.cells; obtain ⟨y0, y1, y2⟩ := fbox_cells X.out))
       obtain ⟨M0, hM0⟩ : ∃ M0, L ++ natE ps.toNat ++ natE rs.toNat ++ natE (code.length : Int).toNat = M0 := ⟨_, rfl⟩
       have E1 := E.out
       rw [hM0] at E1
       have HM0 := hid (show M0.length ≤ 18000040 by rw [← hM0]; simp only [List.length_append]; omega)
       have HMF := hid (show L ++ funE ⟨ps, rs, code⟩ = M0 ++ code.flatMap insE by rw [← hM0]; unfold funE; simp only [List.append_assoc, Int.toNat_natCast])
       clear hM0 E c0 c1 c2 c3 c4 n1 n2 n3 y0 y1
       go_loopw [128] (fun vk wq => ∃ k : Nat, vk = .int .i64 k ∧ k ≤ code.length ∧ EnA w (.slice (some ⟨fB, fO, none⟩) P.fs.length fc) (.slice sa P.ss.length sc) (.slice ra P.us.length rc) (.int .i64 P.en) p (p + 1) (M0 ++ (code.take k).flatMap insE) wq ∧ KAt wq W0.heap.size (.cells #[.int .i64 ps, .int .i64 rs, .slice ca code.length cc] 48 (0, 0))) (fun vk _ => code.length - (intOf vk).toNat)
       case atStart => exact ⟨0, rfl, Nat.zero_le _, by simpa using E1, X.out⟩
       case round =>
        clear E1 X y2
        obtain ⟨k, rfl, hk, hE, hX⟩ := hrel
        obtain ⟨W2, hW2⟩ : ∃ W, W = wr := ⟨_, rfl⟩
        subst hW2
        have X := hid hX
        clear hX
        by_cases hlk : k < code.length
        ·obtain ⟨xb, xo, x, rfl, hx, la, lc, va, vc, x0, x1, x2, x3, x4, x5, hl, hv⟩ := cd_cell HC.out hlk
         have hin := HLL.out x (List.mem_of_getElem? hx)
         have HFX := hid (flat_take (f := insE) hx)
         have hlx : xb < w.heap.size := World.block_lt_of_cell? w _ x0
         have e : ∀ k, W2.cell? ⟨xb, k, none⟩ = w.cell? ⟨xb, k, none⟩ := fun k => hE.be.cell (p := ⟨xb, k, none⟩) hlx
         rw [← e] at x0 x1 x2 x3 x4 x5
         have hMk : (M0 ++ (code.take k).flatMap insE).length ≤ 2100000000 := by
          have q := flat_len (f := insE) (c := 31000) (l := code.take k) (fun y hy => by
           have hy2 := HLL.out y (List.mem_of_mem_take hy)
           exact insE_len hy2.i (by have := hy2.o2; omega) hy2.l hy2.v)
          rw [List.length_take] at q
          have := HM0.out
          simp only [List.length_append]
          omega
         clear e hx hlx
         obtain ⟨op, a, b, c, l, lv⟩ := x
         obtain ⟨⟨ia, ib, ic, il, iv⟩, o1, o2, il2, iv2, ip⟩ := hin
         dsimp only at x0 x1 x2 x3 x4 x5 hl hv ia ib ic il iv o1 o2 il2 iv2 ip
         obtain ⟨M, hM⟩ : ∃ M, M0 ++ (code.take k).flatMap insE = M := ⟨_, rfl⟩
         rw [hM] at hE hMk
         have HM := hid hM
         have hn2 : W2.heap.size ≠ p := Nat.ne_of_gt hE.wa.lt
         have HN2 := hid hn2
         have hbx : Below W2.heap.size W2 (W2.alloc (.cells #[.int .i64 op, .int .i64 a, .int .i64 b, .int .i64 c, .slice la l.length lc, .slice va lv.length vc] 58)) := (Below.refl _ _).alloc (Nat.le_refl _) _
         have E := hid (hE.below hbx)
         have X := hid (X.out.below hbx)
         have Z := hid (KAt.new W2 (.cells #[.int .i64 op, .int .i64 a, .int .i64 b, .int .i64 c, .slice la l.length lc, .slice va lv.length vc] 58 (0, 0)))
         have hpw := hE.hp
         obtain ⟨c0, c1, c2, c3, c4⟩ := E.out.cells
         obtain ⟨z0, z1, z2, z3, z4, z5⟩ := ibox_cells Z.out
         have n1 := nat10 (n := op) (by omega)
         have n2 := sgnE_len ia
         have n3 := sgnE_len ib
         have n4 := sgnE_len ic
         have n5 := sgns_len il il2
         have n6 := nats_len iv iv2
         have CSa := hid (fun l W hw hl => signed_any p a l W hw ia hl)
         have CSb := hid (fun l W hw hl => signed_any p b l W hw ib hl)
         have CSc := hid (fun l W hw hl => signed_any p c l W hw ic hl)
         have CLS := hid (fun m W hb hw hl2 => list_signed p la l lc m w W hw (Nat.le_of_lt hpw) hl hb (by omega) hl2 il)
         have CLP := hid (fun m W hb hw hq hl2 => list_plain p (p + 1) va lv vc m w W hw (Nat.le_of_lt hpw) hv hb hq (Nat.succ_ne_self p) (by omega) hl2 iv ip)
         clear hE hM hn2 hbx hl hv ia ib ic il iv il2 iv2 ip
         have lb0 : M.length + (natE op.toNat).length ≤ 5000000000 := by omega
         have lb1 : (M ++ natE op.toNat).length + (sgnE a).length ≤ 5000000000 := by simp only [List.length_append]; omega
         have lb2 : (M ++ natE op.toNat ++ sgnE a).length + (sgnE b).length ≤ 5000000000 := by simp only [List.length_append]; omega
         have lb3 : (M ++ natE op.toNat ++ sgnE a ++ sgnE b).length + (sgnE c).length ≤ 5000000000 := by simp only [List.length_append]; omega
         have lb4 : (M ++ natE op.toNat ++ sgnE a ++ sgnE b ++ sgnE c).length + (sgnsE l).length ≤ 5000000000 := by simp only [List.length_append]; omega
         have lb5 : (M ++ natE op.toNat ++ sgnE a ++ sgnE b ++ sgnE c ++ sgnsE l).length + (natsE lv).length ≤ 5000000000 := by simp only [List.length_append]; omega
         have LB0 := hid lb0
         have LB1 := hid lb1
         have LB2 := hid lb2
         have LB3 := hid lb3
         have LB4 := hid lb4
         have LB5 := hid lb5
         have ho1 : 0 ≤ op := by omega
         have ho2 : op < 18446744073709551616 := by omega
         have HO1 := hid ho1
         have HO2 := hid ho2
         clear lb0 lb1 lb2 lb3 lb4 lb5 n1 n2 n3 n4 n5 n6 ho1 ho2
         go_upto_region 37 with (first | (go_at_call 42; refine (CP.out _ _ _ _ _ E.out.qa E.out.wa HO1.out HO2.out LB0.out).mono ?_; rintro e w1 ⟨⟨_, rfl⟩, h1, h2⟩; have E := hid (E.out.step h1 h2); have X := hid (X.out.tch (by decide) HNE.out h2); have Z := hid (Z.out.tch (by decide) HN2.out h2); clear h1 h2 c0 c1 c2 c3 c4 z0 z1 z2 z3 z4 z5; obtain ⟨c0, c1, c2, c3, c4⟩ := E.out.cells; obtain ⟨z0, z1, z2, z3, z4, z5⟩ := ibox_cells Z.out))
         go_upto_region 38 with (first | (go_at_call 44; refine (CSa.out _ _ E.out.wa LB1.out).mono ?_; rintro e w1 ⟨⟨_, rfl⟩, h1, h2⟩; have E := hid (E.out.step h1 h2); have X := hid (X.out.tch (by decide) HNE.out h2); have Z := hid (Z.out.tch (by decide) HN2.out h2); clear h1 h2 c0 c1 c2 c3 c4 z0 z1 z2 z3 z4 z5; obtain ⟨c0, c1, c2, c3, c4⟩ := E.out.cells; obtain ⟨z0, z1, z2, z3, z4, z5⟩ := ibox_cells Z.out))
         go_upto_region 39 with (first | (go_at_call 44; refine (CSb.out _ _ E.out.wa LB2.out).mono ?_; rintro e w1 ⟨⟨_, rfl⟩, h1, h2⟩; have E := hid (E.out.step h1 h2); have X := hid (X.out.tch (by decide) HNE.out h2); have Z := hid (Z.out.tch (by decide) HN2.out h2); clear h1 h2 c0 c1 c2 c3 c4 z0 z1 z2 z3 z4 z5; obtain ⟨c0, c1, c2, c3, c4⟩ := E.out.cells; obtain ⟨z0, z1, z2, z3, z4, z5⟩ := ibox_cells Z.out))
         go_upto_region 40 with (first | (go_at_call 44; refine (CSc.out _ _ E.out.wa LB3.out).mono ?_; rintro e w1 ⟨⟨_, rfl⟩, h1, h2⟩; have E := hid (E.out.step h1 h2); have X := hid (X.out.tch (by decide) HNE.out h2); have Z := hid (Z.out.tch (by decide) HN2.out h2); clear h1 h2 c0 c1 c2 c3 c4 z0 z1 z2 z3 z4 z5; obtain ⟨c0, c1, c2, c3, c4⟩ := E.out.cells; obtain ⟨z0, z1, z2, z3, z4, z5⟩ := ibox_cells Z.out))
         go_upto_region 41 with (first | (go_at_call 45; refine (CLS.out _ _ E.out.be E.out.wa LB4.out).mono ?_; rintro e w1 ⟨⟨_, rfl⟩, h1, h2⟩; have E := hid (E.out.step h1 h2); have X := hid (X.out.tch (by decide) HNE.out h2); have Z := hid (Z.out.tch (by decide) HN2.out h2); clear h1 h2 c0 c1 c2 c3 c4 z0 z1 z2 z3 z4 z5; obtain ⟨c0, c1, c2, c3, c4⟩ := E.out.cells; obtain ⟨z0, z1, z2, z3, z4, z5⟩ := ibox_cells Z.out))
         go_upto_region 42 with (first | (go_at_call 45; refine (CLP.out _ _ E.out.be E.out.wa E.out.qa LB5.out).mono ?_; rintro e w1 ⟨⟨_, rfl⟩, h1, h2⟩; have E := hid (E.out.step h1 h2); have X := hid (X.out.tch (by decide) HNE.out h2); have Z := hid (Z.out.tch (by decide) HN2.out h2); clear h1 h2 c0 c1 c2 c3 c4 z0 z1 z2 z3 z4 z5; obtain ⟨c0, c1, c2, c3, c4⟩ := E.out.cells; obtain ⟨z0, z1, z2, z3, z4, z5⟩ := ibox_cells Z.out))
         go_wp2_with fail
         go_roundw
         case rel => exact ⟨k + 1, by go_num, hlk, by rw [HFX.out, ← List.append_assoc, HM.out, show M ++ insE ⟨op, a, b, c, l, lv⟩ = M ++ natE op.toNat ++ sgnE a ++ sgnE b ++ sgnE c ++ sgnsE l ++ natsE lv by unfold insE; simp only [List.append_assoc]]; exact E.out, X.out⟩
         case measure => simp only [intOf]; omega
        ·obtain rfl : k = code.length := by omega
         have d3 : decide ((code.length : Int) < (code.length : Int)) = false := decide_eq_false (by omega)
         rw [List.take_length, ← HMF.out] at hE
         have HNN := hid (show H4 ++ (P.fs.take (j + 1)).flatMap funE = L ++ funE ⟨ps, rs, code⟩ by rw [HFT.out, ← List.append_assoc, HL0.out])
         obtain ⟨N, hN⟩ : ∃ N, L ++ funE ⟨ps, rs, code⟩ = N := ⟨_, rfl⟩
         rw [hN] at hE HNN
         clear hN
         obtain ⟨c0, c1, c2, c3, c4⟩ := hE.cells
         obtain ⟨v, hv⟩ := hE.wa
         obtain ⟨g, cap, rfl⟩ := hv.o.form
         obtain ⟨b0, f0⟩ := hv.cells
         have E := hid hE
         clear hv hE
         by_cases hbig : 16777216 < N.length
         ·have k0 : decide ((16777216 : Int) < (N.length : Int)) = true := decide_eq_true (by omega)
          have HC := hid (encR_long HC0.out (by have := prog_len2 P (j + 1); rw [← H4E.out, HNN.out] at this; omega))
          go_wp2_with fail
          go_ret2
          exact ⟨_, by rw [HC.out]; rfl, by rw [HC.out]; exact OwnB.nil _ _, E.out.be⟩
         have k0 : decide ((16777216 : Int) < (N.length : Int)) = false := decide_eq_false (by omega)
         go_wp2_with fail
         go_roundw
         case rel =>
          exact ⟨j + 1, by go_num, hlt, by rw [HNN.out]; omega, by rw [HNN.out]; exact E.out⟩
         case measure => simp only [intOf]; omega
      ·obtain rfl : j = P.fs.length := by omega
       have d3 : decide ((P.fs.length : Int) < (P.fs.length : Int)) = false := decide_eq_false (by omega)
       rw [List.take_length, H4E.out] at hE
       have HP := hid (show headE P ++ P.ss.flatMap strE ++ natE P.us.length ++ P.us.flatMap wordE ++ natE P.fs.length ++ P.fs.flatMap funE = progE P from rfl)
       rw [HP.out] at hE
       obtain ⟨N, hN⟩ : ∃ N, progE P = N := ⟨_, rfl⟩
       rw [hN] at hE
       have HN := hid hN
       clear hN
       obtain ⟨c0, c1, c2, c3, c4⟩ := hE.cells
       obtain ⟨v, hv⟩ := hE.wa
       obtain ⟨g, cap, rfl⟩ := hv.o.form
       obtain ⟨b0, f0⟩ := hv.cells
       have HV := hid hv.o
       have E := hid hE
       clear hv hE
       by_cases hbig : 16777216 < N.length
       ·have k0 : decide ((16777216 : Int) < (N.length : Int)) = true := decide_eq_true (by omega)
        have HC := hid (encR_long HC0.out (by rw [HN.out]; exact hbig))
        go_wp2_with fail
        go_ret2
        exact ⟨_, by rw [HC.out]; rfl, by rw [HC.out]; exact OwnB.nil _ _, E.out.be⟩
       have k0 : decide ((16777216 : Int) < (N.length : Int)) = false := decide_eq_false (by omega)
       have HC := hid (encR_ok HC0.out (by rw [HN.out]; omega))
       go_wp2_with fail
       go_ret2
       exact ⟨_, by rw [HC.out]; rfl, by rw [HC.out, HN.out]; exact HV.out.base (Nat.le_succ_of_le (Nat.le_of_lt E.out.hp)), E.out.be⟩
end
/-- what the sections' loop reads -/
structure SecAt (WB : World) (D h : Nat) (ls : List (List UInt8)) : Prop where
 d : ∀ k, k < 3 → ∃ b o c, WB.cell? ⟨D, k, none⟩ = some (.slice (some ⟨b, o, none⟩) (ls.getD k []).length c) ∧ BysAt WB (some ⟨b, o, none⟩) (ls.getD k [])
 o : KAt WB h (.cells #[.int .u8 107, .int .u8 105, .int .u8 108, .int .u8 110, .int .u8 1] 5 (5, 6))
theorem SecAt.below {WB V : World} {D h : Nat} {ls : List (List UInt8)} (s : SecAt WB D h ls) (hb : Below WB.heap.size WB V) : SecAt V D h ls :=
 ⟨fun k hk => by
  obtain ⟨b, o, c, h1, h2⟩ := s.d k hk
  exact ⟨b, o, c, (hb.cell (p := ⟨D, k, none⟩) (World.block_lt_of_cell? WB _ h1)).trans h1, h2.below hb⟩, s.o.below hb⟩
/-- nothing below base is other than it was, nor any row that holds no bytes -/
structure RTch (base : Nat) (W V : World) : Prop where
 be : Below base W V
 kp : ∀ (m : Nat) (cs : Array Value) (T : TypeId), T ≠ 5 → W.heap[m]? = some (Obj.cells cs T (0, 0)) → V.heap[m]? = some (Obj.cells cs T (0, 0))
theorem RTch.trans {b : Nat} {A B C : World} (h : RTch b A B) (k : RTch b B C) : RTch b A C := ⟨h.be.trans k.be, fun m cs T hT e => k.kp m cs T hT (h.kp m cs T hT e)⟩
theorem RTch.of {b : Nat} {A B : World} (h : Below A.heap.size A B) (hb : b ≤ A.heap.size) : RTch b A B := ⟨h.mono hb, fun m cs T _ e => by rw [h.block m (heap_lt e)]; exact e⟩
/-- the program's box and the row of bytes -/
structure ErA (W1 : World) (W : World) (v : Value) (l : List UInt8) : Prop where
 t : RTch W1.heap.size W1 W
 o : OwnB W W1.heap.size v l
theorem ErA.cl {W1 W : World} {v u : Value} {l : List UInt8} {b o : Nat} (h : ErA W1 W v l) (hc : W1.cell? ⟨b, o, none⟩ = some u) : W.cell? ⟨b, o, none⟩ = some u := (h.t.be.cell (p := ⟨b, o, none⟩) (World.block_lt_of_cell? W1 _ hc)).trans hc
theorem ErA.sz {W1 W : World} {v : Value} {l : List UInt8} (h : ErA W1 W v l) : W1.heap.size ≤ W.heap.size := h.t.be.size
theorem ErA.step {W1 W V : World} {v u : Value} {l m : List UInt8} (h : ErA W1 W v l) (ho : OwnB V W1.heap.size u m) (ht : RTch W1.heap.size W V) : ErA W1 V u m := ⟨h.t.trans ht, ho⟩
theorem ErA.keep {W1 W V : World} {v : Value} {l : List UInt8} (h : ErA W1 W v l) (hb : Below W.heap.size W V) : ErA W1 V v l := ⟨h.t.trans (RTch.of hb h.sz), h.o.keep hb⟩
end Go.Proofs.YtokjkligechcoaaGreatDoor
