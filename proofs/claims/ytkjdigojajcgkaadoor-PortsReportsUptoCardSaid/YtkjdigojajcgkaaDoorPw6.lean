/- Walks of layer 21: a report in the reference. -/
import Derived.Test.YtkjdigojajcgkaaDoorPw5
namespace Go.Proofs.YtkjdigojajcgkaaDoor
open Go.RowKit
open Pt (Oc)
set_option linter.unusedVariables false
attribute [local go_sem] ext_mk size_mk toList_mk get_mk take_drop_len take_tail_len ByteArray.mk_append_mk List.append_toArray

set_option maxHeartbeats 800000 in
theorem rconst_any (l : List UInt8) (w : World) (hl : l.length ≤ 140737488351232) :
    Calls Tryd.prog 26 #[.string ⟨l.toArray⟩] w fun e w' => e = .returned (.tuple #[.string ⟨(34 :: (St.escB l ++ [34])).toArray⟩, .bool (decide (St.escE l = 0))]) ∧ Below w.heap.size w w' := by
  have c := srescape_any l w hl
  have hb := St.escB_len l
  obtain ⟨s, hs⟩ : ∃ s, St.escB l = s := ⟨_, rfl⟩
  rw [hs] at c hb ⊢
  by_cases he : St.escE l = 0
  · rw [decide_eq_true he]
    rw [he] at c
    have C := Lib.hid c
    clear c hs he
    go_enter Tryd.func26, Tryd.ntmps26
    go_wp2_with (go_at_call 41; refine (C.out).mono ?_; rintro e w1 ⟨rfl, hb1⟩)
    go_ret2
    exact ⟨rfl, hb1⟩
  · rw [decide_eq_false he]
    have k1 : (St.escE l == 0) = false := by simp [he]
    obtain ⟨x, hx⟩ : ∃ x, St.escE l = x := ⟨_, rfl⟩
    rw [hx] at c k1
    have C := Lib.hid c
    clear c hs he hx
    go_enter Tryd.func26, Tryd.ntmps26
    go_wp2_with (go_at_call 41; refine (C.out).mono ?_; rintro e w1 ⟨rfl, hb1⟩)
    go_ret2
    exact ⟨rfl, hb1⟩

/-- the line of an outcome's end, or none -/
def endsB (o : Oc) : List UInt8 := if o.st = 2 then (if St.escE o.exn = 0 then Pt.endB o else []) else Pt.statB o.st

theorem endB_two {o : Oc} (h : o.st = 2) : Pt.endB o = [117, 110, 99, 97, 117, 103, 104, 116, 32] ++ (34 :: (St.escB o.exn ++ [34])) := by
  unfold Pt.endB; rw [if_pos h]; rw [show Pt.statB 2 = [117, 110, 99, 97, 117, 103, 104, 116] from rfl]; simp

theorem ends_nil {o : Oc} (h : endsB o = []) : Pt.repOk o = false := by
  unfold endsB at h
  by_cases h2 : o.st = 2
  · rw [if_pos h2] at h
    by_cases he : St.escE o.exn = 0
    · rw [if_pos he, endB_two h2] at h; simp at h
    · exact wr_okX (by unfold Pt.okX; rw [decide_eq_true h2, decide_eq_false he]; rfl)
  · rw [if_neg h2] at h
    by_cases hst : 1 ≤ o.st ∧ o.st ≤ 5
    · exact absurd h (Pt.statB_ne hst)
    · exact wr_okS (by unfold Pt.okS; rw [decide_eq_false hst]; rfl)

theorem ends_some {o : Oc} (h : endsB o ≠ []) : (1 ≤ o.st ∧ o.st ≤ 5) ∧ Pt.okX o = true ∧ endsB o = Pt.endB o := by
  unfold endsB at h ⊢
  by_cases h2 : o.st = 2
  · rw [if_pos h2] at h ⊢
    by_cases he : St.escE o.exn = 0
    · rw [if_pos he]; exact ⟨by omega, by unfold Pt.okX; rw [decide_eq_true he]; simp, rfl⟩
    · rw [if_neg he] at h; exact absurd rfl h
  · rw [if_neg h2] at h ⊢
    refine ⟨Decidable.byContradiction fun hst => h (Pt.statB_no hst), by unfold Pt.okX; rw [decide_eq_false h2]; rfl, ?_⟩
    unfold Pt.endB; rw [if_neg h2]

theorem ends_len (o : Oc) : (endsB o).length ≤ 65600 := by
  unfold endsB Pt.endB
  have h1 := St.escB_len o.exn
  have h2 := Pt.statB_len o.st
  have h3 := Pt.statB_len 2
  by_cases h : o.st = 2
  · rw [if_pos h, if_pos h]; split <;> simp; omega
  · rw [if_neg h]; omega

set_option maxHeartbeats 800000 in
theorem ends_any (o : Oc) (v : Value) (w : World) (ho : OcAt w v o) (hx : o.exn.length ≤ 140737488351232) :
    Calls Tryd.prog 24 #[v] w fun e w' => e = .returned (.string ⟨(endsB o).toArray⟩) ∧ Below w.heap.size w w' := by
  obtain ⟨a, cap, rfl, _, _⟩ := ho
  by_cases h2 : o.st = 2
  · have k1 : (o.st == 1) = false := by simp; omega
    have k2 : (o.st == 2) = true := by simp; omega
    have k3 : (o.st == 3) = false := by simp; omega
    have k4 : (o.st == 4) = false := by simp; omega
    have k5 : (o.st == 5) = false := by simp; omega
    have c := fun W => rconst_any o.exn W hx
    have hb := St.escB_len o.exn
    by_cases he : St.escE o.exn = 0
    · have HE := Lib.hid (show endsB o = [117, 110, 99, 97, 117, 103, 104, 116, 32] ++ (34 :: (St.escB o.exn ++ [34])) by unfold endsB; rw [if_pos h2, if_pos he, endB_two h2])
      obtain ⟨s, hs⟩ : ∃ s, St.escB o.exn = s := ⟨_, rfl⟩
      rw [decide_eq_true he, hs] at c
      rw [hs] at HE hb
      have C := Lib.hid c
      clear c hs he h2
      go_enter Tryd.func24, Tryd.ntmps24
      go_wp2_with (go_at_call 26; refine (C.out _).mono ?_; rintro e w1 ⟨rfl, hb1⟩)
      go_ret
      exact ⟨ret_str (by rw [HE.out]; rfl), ((Below.refl _ _).alloc (Nat.le_refl _) _).trans (hb1.mono (by simp))⟩
    · have HE := Lib.hid (show endsB o = [] by unfold endsB; rw [if_pos h2, if_neg he])
      obtain ⟨s, hs⟩ : ∃ s, St.escB o.exn = s := ⟨_, rfl⟩
      rw [decide_eq_false he, hs] at c
      have C := Lib.hid c
      clear c hs he h2
      go_enter Tryd.func24, Tryd.ntmps24
      go_wp2_with (go_at_call 26; refine (C.out _).mono ?_; rintro e w1 ⟨rfl, hb1⟩)
      go_ret
      exact ⟨ret_str (by rw [HE.out]), ((Below.refl _ _).alloc (Nat.le_refl _) _).trans (hb1.mono (by simp))⟩
  · have HE := Lib.hid (show endsB o = Pt.statB o.st by unfold endsB; rw [if_neg h2])
    have k2 : (o.st == 2) = false := by simp; omega
    by_cases hst : 1 ≤ o.st ∧ o.st ≤ 5
    · rcases (by omega : o.st = 1 ∨ o.st = 3 ∨ o.st = 4 ∨ o.st = 5) with h | h | h | h
      all_goals
        rw [h] at HE
        rw [h] at k2
        rw [h]
        clear h2 hst h
        go_enter Tryd.func24, Tryd.ntmps24
        go_wp2
        go_ret
        exact ⟨ret_str (by rw [HE.out]; rfl), (Below.refl _ _).alloc (Nat.le_refl _) _⟩
    · obtain ⟨⟨k1, _⟩, ⟨k3, k4⟩, k5⟩ := status_eqs hst
      rw [Pt.statB_no hst] at HE
      clear h2 hst
      go_enter Tryd.func24, Tryd.ntmps24
      go_wp2
      go_ret
      exact ⟨ret_str (by rw [HE.out]), (Below.refl _ _).alloc (Nat.le_refl _) _⟩

/-- the box and the row of a report in the making -/
structure RInv (w : World) (o : Oc) (a : Option Addr) (cap : Nat) (vb : Value) (acc : List UInt8) (W : World) : Prop where
  c0 : W.cell? ⟨w.heap.size, 0, none⟩ = some (.slice a o.out.length cap)
  c1 : W.cell? ⟨w.heap.size, 1, none⟩ = some (.int .i64 o.st)
  c2 : W.cell? ⟨w.heap.size, 2, none⟩ = some (.string ⟨o.exn.toArray⟩)
  c3 : W.cell? ⟨w.heap.size, 3, none⟩ = some (.int .i64 o.steps)
  own : OwnB W (w.heap.size + 1) vb acc
  be : Below w.heap.size w W
  sz : w.heap.size + 1 ≤ W.heap.size

theorem RInv.call {w W W' : World} {o : Oc} {a : Option Addr} {cap : Nat} {vb : Value} {acc : List UInt8} (h : RInv w o a cap vb acc W) (hb : Below W.heap.size W W') : RInv w o a cap vb acc W' := by
  have k : ∀ n v, W.cell? ⟨w.heap.size, n, none⟩ = some v → W'.cell? ⟨w.heap.size, n, none⟩ = some v := fun n v hv => by
    rw [hb.cell (p := ⟨w.heap.size, n, none⟩) (show w.heap.size < _ by have := h.sz; omega)]; exact hv
  exact ⟨k _ _ h.c0, k _ _ h.c1, k _ _ h.c2, k _ _ h.c3, h.own.below hb (fun g hg => (h.own.lt g hg).2), h.be.trans (hb.mono h.be.size), Nat.le_trans h.sz hb.size⟩

theorem RInv.write {w W W' : World} {o : Oc} {a : Option Addr} {cap : Nat} {vb vb' : Value} {acc acc' : List UInt8} (h : RInv w o a cap vb acc W) (hl : OwnB W' (w.heap.size + 1) vb' acc') (hb : Below (w.heap.size + 1) W W') : RInv w o a cap vb' acc' W' := by
  have k : ∀ n v, W.cell? ⟨w.heap.size, n, none⟩ = some v → W'.cell? ⟨w.heap.size, n, none⟩ = some v := fun n v hv => by
    rw [hb.cell (p := ⟨w.heap.size, n, none⟩) (show w.heap.size < w.heap.size + 1 by omega)]; exact hv
  exact ⟨k _ _ h.c0, k _ _ h.c1, k _ _ h.c2, k _ _ h.c3, hl, h.be.trans (hb.mono (by omega)), Nat.le_trans h.sz hb.size⟩

theorem RInv.start {w : World} {o : Oc} {a : Option Addr} {cap : Nat} : RInv w o a cap (.slice none 0 0) [] (w.alloc (.cells #[.slice a o.out.length cap, .int .i64 o.st, .string ⟨o.exn.toArray⟩, .int .i64 o.steps] 25)) :=
  ⟨by simp, by simp, by simp, by simp, OwnB.nil _ _, (Below.refl _ _).alloc (Nat.le_refl _) _, by simp⟩

/-- what stands written after some lines: all of it, or more than may be -/
def AccIs (ls : List (List UInt8)) (acc : List UInt8) : Prop := acc = Pt.outsB ls ∨ (1048576 < acc.length ∧ 1048576 < (Pt.outsB ls).length)

theorem outsB_take (ls : List (List UInt8)) (k : Nat) : (Pt.outsB (ls.take k)).length ≤ (Pt.outsB ls).length := by
  conv => rhs; rw [← List.take_append_drop k ls]
  unfold Pt.outsB; rw [List.flatMap_append]; simp

set_option maxHeartbeats 4000000 in
set_option maxRecDepth 100000 in
theorem rreport_any (o : Oc) (v : Value) (w : World) (ho : OcAt w v o) (hn : o.out.length ≤ 9223372036854775000) (hx : o.exn.length ≤ 140737488351232) (hs0 : ∀ l ∈ o.out, l.length ≤ 140737488351232) :
    Calls Tryd.prog 9 #[v] w fun e w' => e = .returned (.tuple #[.string ⟨(Pt.repB o).toArray⟩, .int .i64 (Pt.repE o)]) ∧ Below w.heap.size w w' := by
  obtain ⟨a, cap, rfl, ha1, ha2⟩ := ho
  have HA := Lib.hid ha1
  have HS0 := Lib.hid hs0
  have hI := RInv.start (w := w) (o := o) (a := a) (cap := cap)
  have ce := fun v W h => ends_any o v W h hx
  have ct := fun W => rtext_any o.steps W
  obtain ⟨E, hE⟩ : ∃ E, endsB o = E := ⟨_, rfl⟩
  have hEl := ends_len o
  rw [hE] at ce hEl
  have CE := Lib.hid ce
  obtain ⟨N, hN⟩ : ∃ N, Fx.textB o.steps = N := ⟨_, rfl⟩
  have hNl := Fx.text_len o.steps
  rw [hN] at ct hNl
  have HNN := Lib.hid hN
  clear ha1 hs0 ce
  by_cases hE0 : E = []
  · subst hE0
    have HE := Lib.hid (rep_no (ends_nil hE))
    obtain ⟨t, ht⟩ : ∃ t, Fx.textE o.steps = t := ⟨_, rfl⟩
    rw [ht] at ct
    have CT := Lib.hid ct
    clear ct hE hN ht
    go_enter Tryd.func9, Tryd.ntmps9
    go_wp2_with (first | (go_at_call 24; (with_reducible refine (CE.out _ _ ?_).mono ?_); (exact ⟨a, cap, rfl, strsAt_below HA.out hI.be, ha2⟩); rintro e w1 ⟨rfl, hb1⟩; have hI1 := hI.call hb1; have e1 := hI1.c1; have e2 := hI1.c2; have e3 := hI1.c3; have e0 := hI1.c0) | (go_at_call 25; (with_reducible refine (CT.out _).mono ?_); rintro e w' ⟨rfl, rfl⟩))
    go_ret2
    exact ⟨ret_text HE.out.1.symm HE.out.2.symm, hI1.be⟩
  have hes := ends_some (o := o) (by rw [hE]; exact hE0)
  have HEE := Lib.hid (hE.symm.trans hes.2.2)
  have hne := hE0
  have k0 : E.isEmpty = false := by cases E with | nil => exact absurd rfl hE0 | cons => rfl
  have kb : (E == []) = false := by simp [hE0]
  by_cases h2 : o.st = 2
  · have k3 : (o.st != 2) = false := by simp; exact h2
    have HOS := Lib.hid (show Pt.okS o = true by unfold Pt.okS; rw [decide_eq_true hes.1, decide_eq_true h2]; rfl)
    clear h2
    by_cases hng : o.steps < 0
    · have kn : decide (o.steps < 0) = true := decide_eq_true hng
      have HE := Lib.hid (rep_no (wr_okN (o := o) (by unfold Pt.okN; rw [decide_eq_false (by omega)]; simp)))
      obtain ⟨t, ht⟩ : ∃ t, Fx.textE o.steps = t := ⟨_, rfl⟩
      rw [ht] at ct
      have CT := Lib.hid ct
      clear ct hE hN ht hE0 hne hes hng
      go_enter Tryd.func9, Tryd.ntmps9
      go_wp2_with (first | (go_at_call 24; (with_reducible refine (CE.out _ _ ?_).mono ?_); (exact ⟨a, cap, rfl, strsAt_below HA.out hI.be, ha2⟩); rintro e w1 ⟨rfl, hb1⟩; have hI1 := hI.call hb1; have e1 := hI1.c1; have e2 := hI1.c2; have e3 := hI1.c3; have e0 := hI1.c0) | (go_at_call 25; (with_reducible refine (CT.out _).mono ?_); rintro e w' ⟨rfl, rfl⟩))
      go_ret2
      exact ⟨ret_text HE.out.1.symm HE.out.2.symm, hI1.be⟩
    · have kn : decide (o.steps < 0) = false := decide_eq_false hng
      cases hr : Fx.rtB o.steps
      · have he : Fx.textE o.steps = 1 := by unfold Fx.textE; rw [hr]; rfl
        have HE := Lib.hid (rep_no (wr_okN (o := o) (by unfold Pt.okN; rw [hr]; rfl)))
        rw [he] at ct
        have CT := Lib.hid ct
        clear ct hE hN he hr hE0 hne hes hng
        go_enter Tryd.func9, Tryd.ntmps9
        go_wp2_with (first | (go_at_call 24; (with_reducible refine (CE.out _ _ ?_).mono ?_); (exact ⟨a, cap, rfl, strsAt_below HA.out hI.be, ha2⟩); rintro e w1 ⟨rfl, hb1⟩; have hI1 := hI.call hb1; have e1 := hI1.c1; have e2 := hI1.c2; have e3 := hI1.c3; have e0 := hI1.c0) | (go_at_call 25; (with_reducible refine (CT.out _).mono ?_); rintro e w' ⟨rfl, rfl⟩))
        go_ret2
        exact ⟨ret_text HE.out.1.symm HE.out.2.symm, hI1.be⟩
      · have he : Fx.textE o.steps = 0 := by unfold Fx.textE; rw [hr]; rfl
        have HON := Lib.hid (show Pt.okN o.steps = true by unfold Pt.okN; rw [hr, decide_eq_true (by omega)]; rfl)
        have HOX := Lib.hid hes.2.1
        rw [he] at ct
        have CT := Lib.hid ct
        clear ct hE hN he hr hE0 hne hes hng
        go_enter Tryd.func9, Tryd.ntmps9
        go_wp2_with (first | (go_at_call 24; (with_reducible refine (CE.out _ _ ?_).mono ?_); (exact ⟨a, cap, rfl, strsAt_below HA.out hI.be, ha2⟩); rintro e w1 ⟨rfl, hb1⟩; have hI1 := hI.call hb1; have e1 := hI1.c1; have e2 := hI1.c2; have e3 := hI1.c3; have e0 := hI1.c0) | (go_at_call 25; (with_reducible refine (CT.out _).mono ?_); rintro e w' ⟨rfl, rfl⟩))
        go_loopw [4, 8] (fun vb vi wr => ∃ (k : Nat) (acc : List UInt8), vi = .int .i64 k ∧ k ≤ o.out.length ∧ acc.length ≤ 1114200 ∧ RInv w o a cap vb acc wr ∧ Hid (AccIs (o.out.take k) acc ∧ (o.out.take k).all (fun s => decide (St.escE s = 0)) = true)) (fun _ vi _ => o.out.length - (intOf vi).toNat)
        case atStart => exact ⟨0, [], rfl, by omega, by simp, hI1, Lib.hid ⟨.inl rfl, rfl⟩⟩
        case round =>
          obtain ⟨k, acc, rfl, hk, hacc, hR, HR⟩ := hrel
          obtain ⟨pv, cv, rfl⟩ := hR.own.form
          have f0 := hR.c0
          by_cases hlt : k < o.out.length
          · obtain ⟨x, hx'⟩ : ∃ x, o.out.getD k [] = x := ⟨_, rfl⟩
            obtain ⟨b, off, rfl, hb, hc⟩ : ∃ b off, a = some ⟨b, off, none⟩ ∧ b < w.heap.size ∧ ∀ i, i < o.out.length → w.cell? ⟨b, off + i, none⟩ = some (.string ⟨(o.out.getD i []).toArray⟩) := by
              rcases HA.out.2 with h | h
              · rw [h] at hlt; simp at hlt
              · exact h
            have hcell : wr.cell? ⟨b, off + k, none⟩ = some (.string ⟨x.toArray⟩) := by rw [hR.be.cell (p := ⟨b, off + k, none⟩) hb, hc k hlt, hx']
            have hxl := HS0.out x (mem_getD hlt hx')
            have HX := Lib.hid hx'
            have cs := fun W => rconst_any x W hxl
            have hsl := St.escB_len x
            obtain ⟨s, hs⟩ : ∃ s, St.escB x = s := ⟨_, rfl⟩
            rw [hs] at cs hsl
            have HO := Lib.hid (show Pt.outB x = 111 :: 117 :: 116 :: 32 :: 34 :: (s ++ [34, 10]) by unfold Pt.outB; rw [hs]; simp)
            clear hc hx' hs
            by_cases hes : St.escE x = 0
            · rw [decide_eq_true hes] at cs
              have CS := Lib.hid cs
              have HAll := Lib.hid (show (o.out.take (k + 1)).all (fun s => decide (St.escE s = 0)) = true by rw [St.lsnoc hlt HX.out, List.all_append, HR.out.2]; simp [hes])
              clear cs hes
              by_cases hsm : acc.length ≤ 1048576
              · have HN := Lib.hid (show AccIs (o.out.take (k + 1)) (acc ++ (111 :: 117 :: 116 :: 32 :: 34 :: (s ++ [34, 10]))) ∧ (o.out.take (k + 1)).all (fun s => decide (St.escE s = 0)) = true from ⟨.inl (by
                  rw [outs_next hlt HX.out, HO.out]
                  rcases HR.out.1 with h | h
                  · rw [h]
                  · omega), HAll.out⟩)
                go_wp2_with (first | (go_at_call 26; (with_reducible refine (CS.out _).mono ?_); rintro e w1 ⟨rfl, hb1⟩; have hR1 := hR.call hb1) | (at_builtin; refine app_more hR1.own rfl _ _ rfl (111 :: 117 :: 116 :: 32 :: 34 :: (s ++ [34, 10])) rfl rfl (by simp; omega) hR1.sz ?_; intro v' w2 hown2 hb2; have hR2 := hR1.write hown2 hb2))
                go_roundw
                case rel => exact ⟨k + 1, _, by go_num, by omega, by simp; omega, hR2, HN⟩
                case measure => simp [intOf]; omega
              · have HN := Lib.hid (show AccIs (o.out.take (k + 1)) acc ∧ (o.out.take (k + 1)).all (fun s => decide (St.escE s = 0)) = true from ⟨.inr ⟨by omega, by
                  rw [outs_next hlt HX.out, List.length_append]
                  rcases HR.out.1 with h | h
                  · rw [← h]; omega
                  · omega⟩, HAll.out⟩)
                go_wp2_with (go_at_call 26; (with_reducible refine (CS.out _).mono ?_); rintro e w1 ⟨rfl, hb1⟩; have hR1 := hR.call hb1)
                go_roundw
                case rel => exact ⟨k + 1, acc, by go_num, by omega, by omega, hR1, HN⟩
                case measure => simp [intOf]; omega
            · rw [decide_eq_false hes] at cs
              have CS := Lib.hid cs
              have HE := Lib.hid (rep_no (wr_okO (mem_getD hlt HX.out) hes))
              clear cs hes
              go_wp2_with (go_at_call 26; (with_reducible refine (CS.out _).mono ?_); rintro e w1 ⟨rfl, hb1⟩; have hR1 := hR.call hb1)
              go_ret2
              exact ⟨ret_text HE.out.1.symm HE.out.2.symm, hR1.be⟩
          · obtain rfl : k = o.out.length := by omega
            have hall := HR.out
            rw [List.take_length] at hall
            have HY := Lib.hid (wr_yes HOS.out hall.2 HOX.out HON.out)
            have HRL := Lib.hid (show Pt.repL o = Pt.outsB o.out ++ (E ++ 10 :: 115 :: 116 :: 101 :: 112 :: 115 :: 32 :: (N ++ [10])) by unfold Pt.repL Pt.stepsB; rw [← HEE.out, HNN.out]; simp)
            obtain ⟨T, hT⟩ : ∃ T, T = E ++ 10 :: 115 :: 116 :: 101 :: 112 :: 115 :: 32 :: (N ++ [10]) := ⟨_, rfl⟩
            have hTl : T.length ≤ 65700 := by rw [hT]; simp; omega
            have HAI := Lib.hid hall.1
            have HTT := Lib.hid hT
            clear hall
            by_cases hlong : 1048576 < acc.length + T.length
            · have HE := Lib.hid (rep_long HY.out.2 (by
                rw [HRL.out, ← HTT.out, List.length_append]
                rcases HAI.out with h | h
                · rw [← h]; exact hlong
                · omega))
              clear hT
              go_wp2_with (at_builtin; refine app_more hR.own rfl _ _ rfl (E ++ 10 :: 115 :: 116 :: 101 :: 112 :: 115 :: 32 :: (N ++ [10])) rfl rfl (by simp; omega) hR.sz ?_; intro v' w2 hown2 hb2; rw [← HTT.out] at hown2; obtain ⟨q, hq⟩ : ∃ q, acc ++ T = q := ⟨_, rfl⟩; rw [hq] at hown2; have hql : 1048576 < q.length := (by rw [← hq, List.length_append]; exact hlong); have hR2 := hR.write hown2 hb2; obtain ⟨p2, c2, rfl⟩ := hown2.form; clear hq hlong hown2)
              go_ret2
              exact ⟨ret_text HE.out.1.symm HE.out.2.symm, hR2.be⟩
            · have HE := Lib.hid (rep_yes HY.out.2 (by
                rw [HRL.out, ← HTT.out, List.length_append]
                rcases HAI.out with h | h
                · rw [← h]; omega
                · omega))
              have HAC := Lib.hid (show acc = Pt.outsB o.out by
                rcases HAI.out with h | h
                · exact h
                · omega)
              clear hT
              go_wp2_with (at_builtin; refine app_more hR.own rfl _ _ rfl (E ++ 10 :: 115 :: 116 :: 101 :: 112 :: 115 :: 32 :: (N ++ [10])) rfl rfl (by simp; omega) hR.sz ?_; intro v' w2 hown2 hb2; rw [← HTT.out] at hown2; obtain ⟨q, hq⟩ : ∃ q, acc ++ T = q := ⟨_, rfl⟩; rw [hq] at hown2; have hql : q.length ≤ 1048576 := (by rw [← hq, List.length_append]; omega); have hR2 := hR.write hown2 hb2; have hcv := conv_own hown2; obtain ⟨p2, c2, rfl⟩ := hown2.form; have HQ := Lib.hid hq; clear hq hlong hown2)
              go_ret2
              exact ⟨ret_text (by rw [HE.out.1, HRL.out, ← HTT.out, ← HAC.out, HQ.out]) HE.out.2.symm, hR2.be⟩
  · have k3 : (o.st != 2) = true := by simp; exact h2
    by_cases hen : o.exn = []
    · have ke : o.exn.isEmpty = true := by rw [hen]; rfl
      have kf : (o.exn == []) = true := by rw [hen]; rfl
      have HOS := Lib.hid (show Pt.okS o = true by unfold Pt.okS; rw [decide_eq_true hes.1, hen]; simp)
      clear h2 hen
      by_cases hng : o.steps < 0
      · have kn : decide (o.steps < 0) = true := decide_eq_true hng
        have HE := Lib.hid (rep_no (wr_okN (o := o) (by unfold Pt.okN; rw [decide_eq_false (by omega)]; simp)))
        obtain ⟨t, ht⟩ : ∃ t, Fx.textE o.steps = t := ⟨_, rfl⟩
        rw [ht] at ct
        have CT := Lib.hid ct
        clear ct hE hN ht hE0 hne hes hng
        go_enter Tryd.func9, Tryd.ntmps9
        go_wp2_with (first | (go_at_call 24; (with_reducible refine (CE.out _ _ ?_).mono ?_); (exact ⟨a, cap, rfl, strsAt_below HA.out hI.be, ha2⟩); rintro e w1 ⟨rfl, hb1⟩; have hI1 := hI.call hb1; have e1 := hI1.c1; have e2 := hI1.c2; have e3 := hI1.c3; have e0 := hI1.c0) | (go_at_call 25; (with_reducible refine (CT.out _).mono ?_); rintro e w' ⟨rfl, rfl⟩))
        go_ret2
        exact ⟨ret_text HE.out.1.symm HE.out.2.symm, hI1.be⟩
      · have kn : decide (o.steps < 0) = false := decide_eq_false hng
        cases hr : Fx.rtB o.steps
        · have he : Fx.textE o.steps = 1 := by unfold Fx.textE; rw [hr]; rfl
          have HE := Lib.hid (rep_no (wr_okN (o := o) (by unfold Pt.okN; rw [hr]; rfl)))
          rw [he] at ct
          have CT := Lib.hid ct
          clear ct hE hN he hr hE0 hne hes hng
          go_enter Tryd.func9, Tryd.ntmps9
          go_wp2_with (first | (go_at_call 24; (with_reducible refine (CE.out _ _ ?_).mono ?_); (exact ⟨a, cap, rfl, strsAt_below HA.out hI.be, ha2⟩); rintro e w1 ⟨rfl, hb1⟩; have hI1 := hI.call hb1; have e1 := hI1.c1; have e2 := hI1.c2; have e3 := hI1.c3; have e0 := hI1.c0) | (go_at_call 25; (with_reducible refine (CT.out _).mono ?_); rintro e w' ⟨rfl, rfl⟩))
          go_ret2
          exact ⟨ret_text HE.out.1.symm HE.out.2.symm, hI1.be⟩
        · have he : Fx.textE o.steps = 0 := by unfold Fx.textE; rw [hr]; rfl
          have HON := Lib.hid (show Pt.okN o.steps = true by unfold Pt.okN; rw [hr, decide_eq_true (by omega)]; rfl)
          have HOX := Lib.hid hes.2.1
          rw [he] at ct
          have CT := Lib.hid ct
          clear ct hE hN he hr hE0 hne hes hng
          go_enter Tryd.func9, Tryd.ntmps9
          go_wp2_with (first | (go_at_call 24; (with_reducible refine (CE.out _ _ ?_).mono ?_); (exact ⟨a, cap, rfl, strsAt_below HA.out hI.be, ha2⟩); rintro e w1 ⟨rfl, hb1⟩; have hI1 := hI.call hb1; have e1 := hI1.c1; have e2 := hI1.c2; have e3 := hI1.c3; have e0 := hI1.c0) | (go_at_call 25; (with_reducible refine (CT.out _).mono ?_); rintro e w' ⟨rfl, rfl⟩))
          go_loopw [4, 8] (fun vb vi wr => ∃ (k : Nat) (acc : List UInt8), vi = .int .i64 k ∧ k ≤ o.out.length ∧ acc.length ≤ 1114200 ∧ RInv w o a cap vb acc wr ∧ Hid (AccIs (o.out.take k) acc ∧ (o.out.take k).all (fun s => decide (St.escE s = 0)) = true)) (fun _ vi _ => o.out.length - (intOf vi).toNat)
          case atStart => exact ⟨0, [], rfl, by omega, by simp, hI1, Lib.hid ⟨.inl rfl, rfl⟩⟩
          case round =>
            obtain ⟨k, acc, rfl, hk, hacc, hR, HR⟩ := hrel
            obtain ⟨pv, cv, rfl⟩ := hR.own.form
            have f0 := hR.c0
            by_cases hlt : k < o.out.length
            · obtain ⟨x, hx'⟩ : ∃ x, o.out.getD k [] = x := ⟨_, rfl⟩
              obtain ⟨b, off, rfl, hb, hc⟩ : ∃ b off, a = some ⟨b, off, none⟩ ∧ b < w.heap.size ∧ ∀ i, i < o.out.length → w.cell? ⟨b, off + i, none⟩ = some (.string ⟨(o.out.getD i []).toArray⟩) := by
                rcases HA.out.2 with h | h
                · rw [h] at hlt; simp at hlt
                · exact h
              have hcell : wr.cell? ⟨b, off + k, none⟩ = some (.string ⟨x.toArray⟩) := by rw [hR.be.cell (p := ⟨b, off + k, none⟩) hb, hc k hlt, hx']
              have hxl := HS0.out x (mem_getD hlt hx')
              have HX := Lib.hid hx'
              have cs := fun W => rconst_any x W hxl
              have hsl := St.escB_len x
              obtain ⟨s, hs⟩ : ∃ s, St.escB x = s := ⟨_, rfl⟩
              rw [hs] at cs hsl
              have HO := Lib.hid (show Pt.outB x = 111 :: 117 :: 116 :: 32 :: 34 :: (s ++ [34, 10]) by unfold Pt.outB; rw [hs]; simp)
              clear hc hx' hs
              by_cases hes : St.escE x = 0
              · rw [decide_eq_true hes] at cs
                have CS := Lib.hid cs
                have HAll := Lib.hid (show (o.out.take (k + 1)).all (fun s => decide (St.escE s = 0)) = true by rw [St.lsnoc hlt HX.out, List.all_append, HR.out.2]; simp [hes])
                clear cs hes
                by_cases hsm : acc.length ≤ 1048576
                · have HN := Lib.hid (show AccIs (o.out.take (k + 1)) (acc ++ (111 :: 117 :: 116 :: 32 :: 34 :: (s ++ [34, 10]))) ∧ (o.out.take (k + 1)).all (fun s => decide (St.escE s = 0)) = true from ⟨.inl (by
                    rw [outs_next hlt HX.out, HO.out]
                    rcases HR.out.1 with h | h
                    · rw [h]
                    · omega), HAll.out⟩)
                  go_wp2_with (first | (go_at_call 26; (with_reducible refine (CS.out _).mono ?_); rintro e w1 ⟨rfl, hb1⟩; have hR1 := hR.call hb1) | (at_builtin; refine app_more hR1.own rfl _ _ rfl (111 :: 117 :: 116 :: 32 :: 34 :: (s ++ [34, 10])) rfl rfl (by simp; omega) hR1.sz ?_; intro v' w2 hown2 hb2; have hR2 := hR1.write hown2 hb2))
                  go_roundw
                  case rel => exact ⟨k + 1, _, by go_num, by omega, by simp; omega, hR2, HN⟩
                  case measure => simp [intOf]; omega
                · have HN := Lib.hid (show AccIs (o.out.take (k + 1)) acc ∧ (o.out.take (k + 1)).all (fun s => decide (St.escE s = 0)) = true from ⟨.inr ⟨by omega, by
                    rw [outs_next hlt HX.out, List.length_append]
                    rcases HR.out.1 with h | h
                    · rw [← h]; omega
                    · omega⟩, HAll.out⟩)
                  go_wp2_with (go_at_call 26; (with_reducible refine (CS.out _).mono ?_); rintro e w1 ⟨rfl, hb1⟩; have hR1 := hR.call hb1)
                  go_roundw
                  case rel => exact ⟨k + 1, acc, by go_num, by omega, by omega, hR1, HN⟩
                  case measure => simp [intOf]; omega
              · rw [decide_eq_false hes] at cs
                have CS := Lib.hid cs
                have HE := Lib.hid (rep_no (wr_okO (mem_getD hlt HX.out) hes))
                clear cs hes
                go_wp2_with (go_at_call 26; (with_reducible refine (CS.out _).mono ?_); rintro e w1 ⟨rfl, hb1⟩; have hR1 := hR.call hb1)
                go_ret2
                exact ⟨ret_text HE.out.1.symm HE.out.2.symm, hR1.be⟩
            · obtain rfl : k = o.out.length := by omega
              have hall := HR.out
              rw [List.take_length] at hall
              have HY := Lib.hid (wr_yes HOS.out hall.2 HOX.out HON.out)
              have HRL := Lib.hid (show Pt.repL o = Pt.outsB o.out ++ (E ++ 10 :: 115 :: 116 :: 101 :: 112 :: 115 :: 32 :: (N ++ [10])) by unfold Pt.repL Pt.stepsB; rw [← HEE.out, HNN.out]; simp)
              obtain ⟨T, hT⟩ : ∃ T, T = E ++ 10 :: 115 :: 116 :: 101 :: 112 :: 115 :: 32 :: (N ++ [10]) := ⟨_, rfl⟩
              have hTl : T.length ≤ 65700 := by rw [hT]; simp; omega
              have HAI := Lib.hid hall.1
              have HTT := Lib.hid hT
              clear hall
              by_cases hlong : 1048576 < acc.length + T.length
              · have HE := Lib.hid (rep_long HY.out.2 (by
                  rw [HRL.out, ← HTT.out, List.length_append]
                  rcases HAI.out with h | h
                  · rw [← h]; exact hlong
                  · omega))
                clear hT
                go_wp2_with (at_builtin; refine app_more hR.own rfl _ _ rfl (E ++ 10 :: 115 :: 116 :: 101 :: 112 :: 115 :: 32 :: (N ++ [10])) rfl rfl (by simp; omega) hR.sz ?_; intro v' w2 hown2 hb2; rw [← HTT.out] at hown2; obtain ⟨q, hq⟩ : ∃ q, acc ++ T = q := ⟨_, rfl⟩; rw [hq] at hown2; have hql : 1048576 < q.length := (by rw [← hq, List.length_append]; exact hlong); have hR2 := hR.write hown2 hb2; obtain ⟨p2, c2, rfl⟩ := hown2.form; clear hq hlong hown2)
                go_ret2
                exact ⟨ret_text HE.out.1.symm HE.out.2.symm, hR2.be⟩
              · have HE := Lib.hid (rep_yes HY.out.2 (by
                  rw [HRL.out, ← HTT.out, List.length_append]
                  rcases HAI.out with h | h
                  · rw [← h]; omega
                  · omega))
                have HAC := Lib.hid (show acc = Pt.outsB o.out by
                  rcases HAI.out with h | h
                  · exact h
                  · omega)
                clear hT
                go_wp2_with (at_builtin; refine app_more hR.own rfl _ _ rfl (E ++ 10 :: 115 :: 116 :: 101 :: 112 :: 115 :: 32 :: (N ++ [10])) rfl rfl (by simp; omega) hR.sz ?_; intro v' w2 hown2 hb2; rw [← HTT.out] at hown2; obtain ⟨q, hq⟩ : ∃ q, acc ++ T = q := ⟨_, rfl⟩; rw [hq] at hown2; have hql : q.length ≤ 1048576 := (by rw [← hq, List.length_append]; omega); have hR2 := hR.write hown2 hb2; have hcv := conv_own hown2; obtain ⟨p2, c2, rfl⟩ := hown2.form; have HQ := Lib.hid hq; clear hq hlong hown2)
                go_ret2
                exact ⟨ret_text (by rw [HE.out.1, HRL.out, ← HTT.out, ← HAC.out, HQ.out]) HE.out.2.symm, hR2.be⟩
    · have ke : o.exn.isEmpty = false := by cases h : o.exn with | nil => exact absurd h hen | cons => rfl
      have kf : (o.exn == []) = false := by simp [hen]
      have HE := Lib.hid (rep_no (wr_okS (o := o) (by unfold Pt.okS; rw [decide_eq_false h2, ke]; simp)))
      obtain ⟨t, ht⟩ : ∃ t, Fx.textE o.steps = t := ⟨_, rfl⟩
      rw [ht] at ct
      have CT := Lib.hid ct
      clear ct hE hN ht hE0 hne hes h2 hen
      go_enter Tryd.func9, Tryd.ntmps9
      go_wp2_with (first | (go_at_call 24; (with_reducible refine (CE.out _ _ ?_).mono ?_); (exact ⟨a, cap, rfl, strsAt_below HA.out hI.be, ha2⟩); rintro e w1 ⟨rfl, hb1⟩; have hI1 := hI.call hb1; have e1 := hI1.c1; have e2 := hI1.c2; have e3 := hI1.c3; have e0 := hI1.c0) | (go_at_call 25; (with_reducible refine (CT.out _).mono ?_); rintro e w' ⟨rfl, rfl⟩))
      go_ret2
      exact ⟨ret_text HE.out.1.symm HE.out.2.symm, hI1.be⟩
end Go.Proofs.YtkjdigojajcgkaaDoor
