/- Walks of layer 21: a report as it is written. -/
import Derived.Test.YtkjdigojajcgkaaGreatDoorPw3
namespace Go.Proofs.YtkjdigojajcgkaaGreatDoor
open Go.RowKit
open Pt (Oc)
set_option linter.unusedVariables false
attribute [local go_sem] ext_mk size_mk toList_mk get_mk take_drop_len take_tail_len ByteArray.mk_append_mk List.append_toArray

def writB (o : Oc) : List UInt8 := if Pt.repOk o then Pt.repL o else []

theorem ret_wr {o : Oc} {s : List UInt8} {b : Bool} (h : writB o = s) (g : Pt.repOk o = b) : Ending.returned (.tuple #[.string ⟨s.toArray⟩, .bool b]) = .returned (.tuple #[.string ⟨(writB o).toArray⟩, .bool (Pt.repOk o)]) := by rw [h, g]

theorem wr_no {o : Oc} (h : Pt.repOk o = false) : writB o = [] ∧ Pt.repOk o = false := ⟨by unfold writB; rw [h]; rfl, h⟩

theorem wr_okS {o : Oc} (h : Pt.okS o = false) : Pt.repOk o = false := by unfold Pt.repOk; rw [h]; rfl

theorem wr_okO {o : Oc} {x : List UInt8} (hx : x ∈ o.out) (h : St.escE x ≠ 0) : Pt.repOk o = false := by
  have : Pt.okO o.out = false := by unfold Pt.okO; rw [List.all_eq_false]; exact ⟨x, hx, by simp [h]⟩
  unfold Pt.repOk; rw [this]; simp

theorem wr_okX {o : Oc} (h : Pt.okX o = false) : Pt.repOk o = false := by unfold Pt.repOk; rw [h]; simp

theorem wr_okN {o : Oc} (h : Pt.okN o.steps = false) : Pt.repOk o = false := by unfold Pt.repOk; rw [h]; simp

theorem wr_yes {o : Oc} (h1 : Pt.okS o = true) (h2 : Pt.okO o.out = true) (h3 : Pt.okX o = true) (h4 : Pt.okN o.steps = true) : writB o = Pt.repL o ∧ Pt.repOk o = true := by
  have : Pt.repOk o = true := by unfold Pt.repOk; rw [h1, h2, h3, h4]; rfl
  exact ⟨by unfold writB; rw [if_pos this], this⟩

/-- the box and the builder of a report in the making -/
structure WInv (w : World) (o : Oc) (a : Option Addr) (cap : Nat) (acc : List UInt8) (W : World) : Prop where
  c0 : W.cell? ⟨w.heap.size, 0, none⟩ = some (.slice a o.out.length cap)
  c1 : W.cell? ⟨w.heap.size, 1, none⟩ = some (.int .i64 o.st)
  c2 : W.cell? ⟨w.heap.size, 2, none⟩ = some (.string ⟨o.exn.toArray⟩)
  c3 : W.cell? ⟨w.heap.size, 3, none⟩ = some (.int .i64 o.steps)
  bl : Bld (w.heap.size + 1) (w.heap.size + 1) acc W
  be : Below w.heap.size w W
  sz : w.heap.size + 1 < W.heap.size

theorem WInv.call {w W W' : World} {o : Oc} {a : Option Addr} {cap : Nat} {acc : List UInt8} (h : WInv w o a cap acc W) (hb : Below W.heap.size W W') : WInv w o a cap acc W' := by
  have k : ∀ n v, W.cell? ⟨w.heap.size, n, none⟩ = some v → W'.cell? ⟨w.heap.size, n, none⟩ = some v := fun n v hv => by
    rw [hb.cell (p := ⟨w.heap.size, n, none⟩) (show w.heap.size < _ by have := h.sz; omega)]; exact hv
  exact ⟨k _ _ h.c0, k _ _ h.c1, k _ _ h.c2, k _ _ h.c3, h.bl.below hb, h.be.trans (hb.mono h.be.size), Nat.lt_of_lt_of_le h.sz hb.size⟩

theorem WInv.write {w W W' : World} {o : Oc} {a : Option Addr} {cap : Nat} {acc acc' : List UInt8} (h : WInv w o a cap acc W) (hl : Bld (w.heap.size + 1) (w.heap.size + 1) acc' W') (hb : Below (w.heap.size + 1) W W') : WInv w o a cap acc' W' := by
  have k : ∀ n v, W.cell? ⟨w.heap.size, n, none⟩ = some v → W'.cell? ⟨w.heap.size, n, none⟩ = some v := fun n v hv => by
    rw [hb.cell (p := ⟨w.heap.size, n, none⟩) (show w.heap.size < w.heap.size + 1 by omega)]; exact hv
  exact ⟨k _ _ h.c0, k _ _ h.c1, k _ _ h.c2, k _ _ h.c3, hl, h.be.trans (hb.mono (by omega)), Nat.lt_of_lt_of_le h.sz hb.size⟩

theorem WInv.start {w : World} {o : Oc} {a : Option Addr} {cap : Nat} : WInv w o a cap [] ((w.alloc (.cells #[.slice a o.out.length cap, .int .i64 o.st, .string ⟨o.exn.toArray⟩, .int .i64 o.steps] 25)).alloc (.cells #[.pointer none, .slice none 0 0] 68)) := by
  have hb := Bld.fresh (w.alloc (.cells #[.slice a o.out.length cap, .int .i64 o.st, .string ⟨o.exn.toArray⟩, .int .i64 o.steps] 25))
  have e : (w.alloc (.cells #[.slice a o.out.length cap, .int .i64 o.st, .string ⟨o.exn.toArray⟩, .int .i64 o.steps] 25)).heap.size = w.heap.size + 1 := by simp
  rw [e] at hb
  exact ⟨by simp, by simp, by simp, by simp, hb, ((Below.refl _ _).alloc (Nat.le_refl _) _).alloc (by simp) _, by simp⟩

theorem escE_kinds (x : List UInt8) (h : St.escE x ≠ 0) : (St.escE x == 0) = false ∧ (St.escE x != 0) = true := by simp [h]

theorem outs_next {ls : List (List UInt8)} {k : Nat} {x : List UInt8} (h : k < ls.length) (hx : ls.getD k [] = x) : Pt.outsB (ls.take (k + 1)) = Pt.outsB (ls.take k) ++ Pt.outB x := by
  rw [St.lsnoc h hx]; unfold Pt.outsB; rw [List.flatMap_append]; simp

theorem outB_len (x : List UInt8) : (Pt.outB x).length ≤ 65543 := by unfold Pt.outB; have := St.escB_len x; simp; omega

theorem mem_getD {ls : List (List UInt8)} {k : Nat} {x : List UInt8} (h : k < ls.length) (hx : ls.getD k [] = x) : x ∈ ls := by rw [← hx]; simp [List.getD, h]

set_option maxHeartbeats 4000000 in
set_option maxRecDepth 100000 in
theorem written_any (o : Oc) (v : Value) (w : World) (hv : PortVars w) (ho : OcAt w v o) (hn : o.out.length ≤ 1048576) (hx : o.exn.length ≤ 140737488351232) (hs0 : ∀ l ∈ o.out, l.length ≤ 140737488351232) :
    Calls Tryz.prog 20 #[v] w fun e w' => e = .returned (.tuple #[.string ⟨(writB o).toArray⟩, .bool (Pt.repOk o)]) ∧ Below w.heap.size w w' := by
  have HV := Lib.hid hv
  obtain ⟨a, cap, rfl, ha1, ha2⟩ := ho
  have HA := Lib.hid ha1
  have HS0 := Lib.hid hs0
  clear hv ha1 hs0
  by_cases hst : 1 ≤ o.st ∧ o.st ≤ 5
  · obtain ⟨sb, hsb⟩ : ∃ sb, Pt.statB o.st = sb := ⟨_, rfl⟩
    have hsl := Pt.statB_len o.st
    have hne := Pt.statB_ne hst
    have c1 := fun W => status_any o.st W
    rw [hsb] at c1 hsl hne
    have C1 := Lib.hid c1
    have HSB := Lib.hid hsb
    have k0 : sb.isEmpty = false := by cases sb with | nil => exact absurd rfl hne | cons => rfl
    have kb : (sb == []) = false := by simp [hne]
    clear c1 hsb hne
    by_cases h2 : o.st = 2
    · have H2 := Lib.hid h2
      have k2 : (o.st == 2) = true := by simp; exact h2
      have k3 : (o.st != 2) = false := by simp; exact h2
      have HOS := Lib.hid (show Pt.okS o = true by unfold Pt.okS; rw [decide_eq_true hst, decide_eq_true h2]; rfl)
      clear h2 hst
      go_enter Tryz.func20, Tryz.ntmps20
      go_wp2_with (go_at_call 34; refine (C1.out _).mono ?_; rintro e w1 ⟨rfl, rfl⟩)
      go_loopw [32] (fun vi wr => ∃ (k : Nat) (acc : List UInt8), vi = .int .i64 k ∧ k ≤ o.out.length ∧ acc.length ≤ k * 65543 ∧ WInv w o a cap acc wr ∧ Hid (Pt.outsB (o.out.take k) = acc ∧ (o.out.take k).all (fun s => decide (St.escE s = 0)) = true)) (fun vi _ => o.out.length - (intOf vi).toNat)
      case atStart => exact ⟨0, [], rfl, by omega, by simp, WInv.start, Lib.hid ⟨rfl, rfl⟩⟩
      case round =>
        obtain ⟨k, acc, rfl, hk, hacc, hI, HR⟩ := hrel
        have hmul : k * 65543 ≤ 1048576 * 65543 := Nat.mul_le_mul_right _ (by omega)
        by_cases hlt : k < o.out.length
        ·
          obtain ⟨x, hx⟩ : ∃ x, o.out.getD k [] = x := ⟨_, rfl⟩
          obtain ⟨b, off, rfl, hb, hc⟩ : ∃ b off, a = some ⟨b, off, none⟩ ∧ b < w.heap.size ∧ ∀ i, i < o.out.length → w.cell? ⟨b, off + i, none⟩ = some (.string ⟨(o.out.getD i []).toArray⟩) := by
            rcases HA.out.2 with h | h
            · rw [h] at hlt; simp at hlt
            · exact h
          have hcell : wr.cell? ⟨b, off + k, none⟩ = some (.string ⟨x.toArray⟩) := by rw [hI.be.cell (p := ⟨b, off + k, none⟩) hb, hc k hlt, hx]
          have hxl := HS0.out x (mem_getD hlt hx)
          have HX := Lib.hid hx
          clear hc hx
          have cs := fun W h => sescape_any x W h hxl
          by_cases hes : St.escE x = 0
          · obtain ⟨s, hs⟩ : ∃ s, St.escB x = s := ⟨_, rfl⟩
            have hsl := St.escB_len x
            rw [hes, hs] at cs
            rw [hs] at hsl
            have CS := Lib.hid cs
            have HN := Lib.hid (show Pt.outsB (o.out.take (k + 1)) = acc ++ (111 :: 117 :: 116 :: 32 :: 34 :: (s ++ [34, 10])) ∧ (o.out.take (k + 1)).all (fun s => decide (St.escE s = 0)) = true from ⟨by rw [outs_next hlt HX.out, HR.out.1]; unfold Pt.outB; rw [hs]; simp, by rw [St.lsnoc hlt HX.out, List.all_append, HR.out.2]; simp [hes]⟩)
            clear cs hes hs
            have e0 := hI.c0
            go_wp2_with (first | (go_at_call 35; (with_reducible refine (CS.out _ ?_).mono ?_); (exact (HV.out.below hI.be).2); rintro e w1 ⟨rfl, hb1⟩; have hI1 := hI.call hb1) | (go_at_call 36; refine (ws_any _ _ acc (111 :: 117 :: 116 :: 32 :: 34 :: (s ++ [34, 10])) _ hI1.bl (by simp; omega) (by have := hI1.sz; omega)).mono ?_; rintro e w2 ⟨⟨v2, rfl⟩, hb2, hw2⟩; have hI2 := hI1.write hb2 hw2))
            go_roundw
            case rel => exact ⟨k + 1, _, by go_num, by omega, by simp; omega, hI2, HN⟩
            case measure => simp [intOf]; omega
          · obtain ⟨ke1, ke2⟩ := escE_kinds x hes
            obtain ⟨s, hs⟩ : ∃ s, St.escB x = s := ⟨_, rfl⟩
            obtain ⟨e0, he0⟩ : ∃ e, St.escE x = e := ⟨_, rfl⟩
            have HE := Lib.hid (wr_no (wr_okO (mem_getD hlt HX.out) hes))
            rw [hs, he0] at cs
            rw [he0] at ke1 ke2
            have CS := Lib.hid cs
            clear cs hs he0 hes
            have e0' := hI.c0
            go_wp2_with (go_at_call 35; (with_reducible refine (CS.out _ ?_).mono ?_); (exact (HV.out.below hI.be).2); rintro e w1 ⟨rfl, hb1⟩; have hI2 := hI.call hb1)
            go_ret2
            exact ⟨ret_wr HE.out.1 HE.out.2, hI2.be⟩
        · obtain rfl : k = o.out.length := by omega
          have hall := HR.out
          rw [List.take_length] at hall
          have HOO := Lib.hid (show Pt.okO o.out = true from hall.2)
          have HAcc := Lib.hid hall.1
          clear hall
          have e1 := hI.c1
          have e2 := hI.c2
          have e3 := hI.c3
          have cx := fun W h => sescape_any o.exn W h hx
          by_cases hex : St.escE o.exn = 0
          · have HOX := Lib.hid (show Pt.okX o = true by unfold Pt.okX; rw [decide_eq_true hex]; simp)
            obtain ⟨u, hu⟩ : ∃ u, St.escB o.exn = u := ⟨_, rfl⟩
            have hul := St.escB_len o.exn
            rw [hex, hu] at cx
            rw [hu] at hul
            have CX := Lib.hid cx
            have HU := Lib.hid hu
            clear cx hex hu
            have HS2 := Lib.hid (show Pt.statB 2 = sb by have h := HSB.out; rw [H2.out] at h; exact h)
            obtain ⟨N, hN⟩ : ∃ N, Fx.textB o.steps = N := ⟨_, rfl⟩
            have hNl := Fx.text_len o.steps
            have ct := fun W h => text_any o.steps W h
            rw [hN] at ct hNl
            cases hok : Pt.okN o.steps
            · have HE := Lib.hid (wr_no (wr_okN hok))
              unfold Pt.okN at hok
              cases hr : Fx.rtB o.steps
              · have he : Fx.textE o.steps = 1 := by unfold Fx.textE; rw [hr]; rfl
                rw [he] at ct
                have CT := Lib.hid ct
                clear ct he hok hr hN
                go_wp2_with (first | (go_at_call 35; (with_reducible refine (CX.out _ ?_).mono ?_); (exact (HV.out.below hI.be).2); rintro e w1 ⟨rfl, hb1⟩; have hI1 := hI.call hb1; have e4 := hI1.c3) | (go_at_call 37; (with_reducible refine (CT.out _ ?_).mono ?_); (exact (HV.out.below hI1.be).1); rintro e w2 ⟨rfl, hb2⟩; have hI2 := hI1.call hb2; have e5 := hI2.c3))
                go_ret2
                exact ⟨ret_wr HE.out.1 HE.out.2, hI2.be⟩
              · have he : Fx.textE o.steps = 0 := by unfold Fx.textE; rw [hr]; rfl
                rw [he] at ct
                have hneg : o.steps < 0 := by rw [hr, Bool.true_and] at hok; have := of_decide_eq_false hok; omega
                have CT := Lib.hid ct
                have kn : decide (o.steps < 0) = true := decide_eq_true hneg
                clear ct he hok hr hN
                go_wp2_with (first | (go_at_call 35; (with_reducible refine (CX.out _ ?_).mono ?_); (exact (HV.out.below hI.be).2); rintro e w1 ⟨rfl, hb1⟩; have hI1 := hI.call hb1; have e4 := hI1.c3) | (go_at_call 37; (with_reducible refine (CT.out _ ?_).mono ?_); (exact (HV.out.below hI1.be).1); rintro e w2 ⟨rfl, hb2⟩; have hI2 := hI1.call hb2; have e5 := hI2.c3))
                go_ret2
                exact ⟨ret_wr HE.out.1 HE.out.2, hI2.be⟩
            · have HY := Lib.hid (wr_yes HOS.out HOO.out HOX.out hok)
              have hok2 := hok
              unfold Pt.okN at hok2
              rw [Bool.and_eq_true] at hok2
              have he : Fx.textE o.steps = 0 := by unfold Fx.textE; rw [hok2.1]; rfl
              rw [he] at ct
              have kn : decide (o.steps < 0) = false := decide_eq_false (by have := of_decide_eq_true hok2.2; omega)
              have CT := Lib.hid ct
              have HNN := Lib.hid hN
              clear ct he hok hok2 hN
              go_wp2_with (first | (go_at_call 35; (with_reducible refine (CX.out _ ?_).mono ?_); (exact (HV.out.below hI.be).2); rintro e w1 ⟨rfl, hb1⟩; have hI1 := hI.call hb1; have e4 := hI1.c3) | (go_at_call 37; (with_reducible refine (CT.out _ ?_).mono ?_); (exact (HV.out.below hI1.be).1); rintro e w2 ⟨rfl, hb2⟩; have hI2 := hI1.call hb2; have e5 := hI2.c3) | (go_at_call 38; refine (wstr_any _ _ acc _ hI2.bl (by have := hI2.sz; omega)).mono ?_; rintro e w3 ⟨rfl, hb3, hw3⟩; have hI3 := hI2.write hb3 hw3))
              go_ret2
              exact ⟨ret_wr (by rw [HY.out.1]; unfold Pt.repL Pt.endB Pt.stepsB; rw [if_pos H2.out, HU.out, HNN.out, HAcc.out, HS2.out]; simp) HY.out.2, hI3.be⟩
          · have HE := Lib.hid (wr_no (wr_okX (o := o) (by unfold Pt.okX; rw [decide_eq_true H2.out, decide_eq_false hex]; rfl)))
            obtain ⟨ke1, ke2⟩ := escE_kinds o.exn hex
            obtain ⟨u, hu⟩ : ∃ u, St.escB o.exn = u := ⟨_, rfl⟩
            obtain ⟨y, hy⟩ : ∃ u, St.escE o.exn = u := ⟨_, rfl⟩
            rw [hy] at ke1 ke2
            rw [hu, hy] at cx
            have CX := Lib.hid cx
            clear cx hex hu hy
            go_wp2_with (go_at_call 35; (with_reducible refine (CX.out _ ?_).mono ?_); (exact (HV.out.below hI.be).2); rintro e w1 ⟨rfl, hb1⟩; have hI2 := hI.call hb1)
            go_ret2
            exact ⟨ret_wr HE.out.1 HE.out.2, hI2.be⟩
    · have H2 := Lib.hid h2
      have k2 : (o.st == 2) = false := by simp; exact h2
      have k3 : (o.st != 2) = true := by simp; exact h2
      by_cases hen : o.exn = []
      · have ke : o.exn.isEmpty = true := by rw [hen]; rfl
        have kf : (o.exn == []) = true := by rw [hen]; rfl
        have HOS := Lib.hid (show Pt.okS o = true by unfold Pt.okS; rw [decide_eq_true hst, hen]; simp)
        clear h2 hst hen
        go_enter Tryz.func20, Tryz.ntmps20
        go_wp2_with (go_at_call 34; refine (C1.out _).mono ?_; rintro e w1 ⟨rfl, rfl⟩)
        go_loopw [32] (fun vi wr => ∃ (k : Nat) (acc : List UInt8), vi = .int .i64 k ∧ k ≤ o.out.length ∧ acc.length ≤ k * 65543 ∧ WInv w o a cap acc wr ∧ Hid (Pt.outsB (o.out.take k) = acc ∧ (o.out.take k).all (fun s => decide (St.escE s = 0)) = true)) (fun vi _ => o.out.length - (intOf vi).toNat)
        case atStart => exact ⟨0, [], rfl, by omega, by simp, WInv.start, Lib.hid ⟨rfl, rfl⟩⟩
        case round =>
          obtain ⟨k, acc, rfl, hk, hacc, hI, HR⟩ := hrel
          have hmul : k * 65543 ≤ 1048576 * 65543 := Nat.mul_le_mul_right _ (by omega)
          by_cases hlt : k < o.out.length
          ·
            obtain ⟨x, hx⟩ : ∃ x, o.out.getD k [] = x := ⟨_, rfl⟩
            obtain ⟨b, off, rfl, hb, hc⟩ : ∃ b off, a = some ⟨b, off, none⟩ ∧ b < w.heap.size ∧ ∀ i, i < o.out.length → w.cell? ⟨b, off + i, none⟩ = some (.string ⟨(o.out.getD i []).toArray⟩) := by
              rcases HA.out.2 with h | h
              · rw [h] at hlt; simp at hlt
              · exact h
            have hcell : wr.cell? ⟨b, off + k, none⟩ = some (.string ⟨x.toArray⟩) := by rw [hI.be.cell (p := ⟨b, off + k, none⟩) hb, hc k hlt, hx]
            have hxl := HS0.out x (mem_getD hlt hx)
            have HX := Lib.hid hx
            clear hc hx
            have cs := fun W h => sescape_any x W h hxl
            by_cases hes : St.escE x = 0
            · obtain ⟨s, hs⟩ : ∃ s, St.escB x = s := ⟨_, rfl⟩
              have hsl := St.escB_len x
              rw [hes, hs] at cs
              rw [hs] at hsl
              have CS := Lib.hid cs
              have HN := Lib.hid (show Pt.outsB (o.out.take (k + 1)) = acc ++ (111 :: 117 :: 116 :: 32 :: 34 :: (s ++ [34, 10])) ∧ (o.out.take (k + 1)).all (fun s => decide (St.escE s = 0)) = true from ⟨by rw [outs_next hlt HX.out, HR.out.1]; unfold Pt.outB; rw [hs]; simp, by rw [St.lsnoc hlt HX.out, List.all_append, HR.out.2]; simp [hes]⟩)
              clear cs hes hs
              have e0 := hI.c0
              go_wp2_with (first | (go_at_call 35; (with_reducible refine (CS.out _ ?_).mono ?_); (exact (HV.out.below hI.be).2); rintro e w1 ⟨rfl, hb1⟩; have hI1 := hI.call hb1) | (go_at_call 36; refine (ws_any _ _ acc (111 :: 117 :: 116 :: 32 :: 34 :: (s ++ [34, 10])) _ hI1.bl (by simp; omega) (by have := hI1.sz; omega)).mono ?_; rintro e w2 ⟨⟨v2, rfl⟩, hb2, hw2⟩; have hI2 := hI1.write hb2 hw2))
              go_roundw
              case rel => exact ⟨k + 1, _, by go_num, by omega, by simp; omega, hI2, HN⟩
              case measure => simp [intOf]; omega
            · obtain ⟨ke1, ke2⟩ := escE_kinds x hes
              obtain ⟨s, hs⟩ : ∃ s, St.escB x = s := ⟨_, rfl⟩
              obtain ⟨e0, he0⟩ : ∃ e, St.escE x = e := ⟨_, rfl⟩
              have HE := Lib.hid (wr_no (wr_okO (mem_getD hlt HX.out) hes))
              rw [hs, he0] at cs
              rw [he0] at ke1 ke2
              have CS := Lib.hid cs
              clear cs hs he0 hes
              have e0' := hI.c0
              go_wp2_with (go_at_call 35; (with_reducible refine (CS.out _ ?_).mono ?_); (exact (HV.out.below hI.be).2); rintro e w1 ⟨rfl, hb1⟩; have hI2 := hI.call hb1)
              go_ret2
              exact ⟨ret_wr HE.out.1 HE.out.2, hI2.be⟩
          · obtain rfl : k = o.out.length := by omega
            have hall := HR.out
            rw [List.take_length] at hall
            have HOO := Lib.hid (show Pt.okO o.out = true from hall.2)
            have HAcc := Lib.hid hall.1
            clear hall
            have e1 := hI.c1
            have e2 := hI.c2
            have e3 := hI.c3
            have HOX := Lib.hid (show Pt.okX o = true by unfold Pt.okX; rw [decide_eq_false H2.out]; rfl)
            obtain ⟨N, hN⟩ : ∃ N, Fx.textB o.steps = N := ⟨_, rfl⟩
            have hNl := Fx.text_len o.steps
            have ct := fun W h => text_any o.steps W h
            rw [hN] at ct hNl
            cases hok : Pt.okN o.steps
            · have HE := Lib.hid (wr_no (wr_okN hok))
              unfold Pt.okN at hok
              cases hr : Fx.rtB o.steps
              · have he : Fx.textE o.steps = 1 := by unfold Fx.textE; rw [hr]; rfl
                rw [he] at ct
                have CT := Lib.hid ct
                clear ct he hok hr hN
                go_wp2_with (go_at_call 37; (with_reducible refine (CT.out _ ?_).mono ?_); (exact (HV.out.below hI.be).1); rintro e w2 ⟨rfl, hb2⟩; have hI2 := hI.call hb2; have e5 := hI2.c3)
                go_ret2
                exact ⟨ret_wr HE.out.1 HE.out.2, hI2.be⟩
              · have he : Fx.textE o.steps = 0 := by unfold Fx.textE; rw [hr]; rfl
                rw [he] at ct
                have hneg : o.steps < 0 := by rw [hr, Bool.true_and] at hok; have := of_decide_eq_false hok; omega
                have CT := Lib.hid ct
                have kn : decide (o.steps < 0) = true := decide_eq_true hneg
                clear ct he hok hr hN
                go_wp2_with (go_at_call 37; (with_reducible refine (CT.out _ ?_).mono ?_); (exact (HV.out.below hI.be).1); rintro e w2 ⟨rfl, hb2⟩; have hI2 := hI.call hb2; have e5 := hI2.c3)
                go_ret2
                exact ⟨ret_wr HE.out.1 HE.out.2, hI2.be⟩
            · have HY := Lib.hid (wr_yes HOS.out HOO.out HOX.out hok)
              have hok2 := hok
              unfold Pt.okN at hok2
              rw [Bool.and_eq_true] at hok2
              have he : Fx.textE o.steps = 0 := by unfold Fx.textE; rw [hok2.1]; rfl
              rw [he] at ct
              have kn : decide (o.steps < 0) = false := decide_eq_false (by have := of_decide_eq_true hok2.2; omega)
              have CT := Lib.hid ct
              have HNN := Lib.hid hN
              clear ct he hok hok2 hN
              go_wp2_with (first | (go_at_call 37; (with_reducible refine (CT.out _ ?_).mono ?_); (exact (HV.out.below hI.be).1); rintro e w2 ⟨rfl, hb2⟩; have hI2 := hI.call hb2; have e5 := hI2.c3) | (go_at_call 38; refine (wstr_any _ _ acc _ hI2.bl (by have := hI2.sz; omega)).mono ?_; rintro e w3 ⟨rfl, hb3, hw3⟩; have hI3 := hI2.write hb3 hw3))
              go_ret2
              exact ⟨ret_wr (by rw [HY.out.1]; unfold Pt.repL Pt.endB Pt.stepsB; rw [if_neg H2.out, HSB.out, HNN.out, HAcc.out]; simp) HY.out.2, hI3.be⟩
      · have ke : o.exn.isEmpty = false := by cases h : o.exn with | nil => exact absurd h hen | cons => rfl
        have kf : (o.exn == []) = false := by simp [hen]
        have HE := Lib.hid (wr_no (wr_okS (o := o) (by unfold Pt.okS; rw [decide_eq_false h2, ke]; simp)))
        clear h2 hst hen
        go_enter Tryz.func20, Tryz.ntmps20
        go_wp2_with (go_at_call 34; refine (C1.out _).mono ?_; rintro e w1 ⟨rfl, rfl⟩)
        go_ret2
        exact ⟨ret_wr HE.out.1 HE.out.2, ((Below.refl _ _).alloc (Nat.le_refl _) _).alloc (by simp) _⟩
  · have HE := Lib.hid (wr_no (wr_okS (o := o) (by unfold Pt.okS; rw [decide_eq_false hst]; rfl)))
    have c1 := fun W => status_any o.st W
    rw [Pt.statB_no hst] at c1
    have C1 := Lib.hid c1
    clear c1
    go_enter Tryz.func20, Tryz.ntmps20
    go_wp2_with (go_at_call 34; refine (C1.out _).mono ?_; rintro e w1 ⟨rfl, rfl⟩)
    go_ret2
    exact ⟨ret_wr HE.out.1 HE.out.2, ((Below.refl _ _).alloc (Nat.le_refl _) _).alloc (by simp) _⟩
end Go.Proofs.YtkjdigojajcgkaaGreatDoor
