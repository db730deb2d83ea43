/- Walks of layer 21: which two runs are alike. -/
import Derived.Test.YtkjdigojajcgkaaDoorPw1
namespace Go.Proofs.YtkjdigojajcgkaaDoor
open Go.RowKit
open Pt (Oc)
set_option linter.unusedVariables false
attribute [local go_sem] ext_mk size_mk toList_mk get_mk take_drop_len take_tail_len ByteArray.mk_append_mk List.append_toArray

theorem listBeq {x y : List UInt8} : (x == y) = decide (x = y) := by rw [Bool.eq_iff_iff]; simp

theorem ocAt_mk {w : World} {o : Oc} {a : Option Addr} {cap : Nat} (h : StrsAt w a o.out) (hc : o.out.length ≤ cap) : OcAt w (.agg #[.slice a o.out.length cap, .int .i64 o.st, .string ⟨o.exn.toArray⟩, .int .i64 o.steps]) o := ⟨a, cap, rfl, h, hc⟩

set_option maxHeartbeats 1600000 in
set_option maxRecDepth 100000 in
theorem alike_any (a b : Oc) (va vb : Value) (w : World) (ha : OcAt w va a) (hb : OcAt w vb b) (sa : a.out.flatten.length ≤ 140737488351232) (sb : b.out.flatten.length ≤ 140737488351232) :
    Calls Tryd.prog 13 #[va, vb] w fun e w' => e = .returned (.bool (Pt.alikeB a b)) ∧ Below w.heap.size w w' := by
  obtain ⟨pa, ca, rfl, ha1, ha2⟩ := ha
  obtain ⟨pb, cb, rfl, hb1, hb2⟩ := hb
  obtain ⟨ea, hea⟩ : ∃ ea, Pt.endedB a.st = ea := ⟨_, rfl⟩
  obtain ⟨eb, heb⟩ : ∃ eb, Pt.endedB b.st = eb := ⟨_, rfl⟩
  have c1 := fun v W h => ended_any a v W h
  have c2 := fun v W h => ended_any b v W h
  rw [hea] at c1
  rw [heb] at c2
  have C1 := Lib.hid c1
  have C2 := Lib.hid c2
  have HL := Lib.hid (show Pt.alikeB a b = if ea && eb then decide (a.st = b.st) && decide (a.exn = b.exn) && decide (a.out.flatten = b.out.flatten)
    else if ea then Pt.begB b.out.flatten a.out.flatten else if eb then Pt.begB a.out.flatten b.out.flatten else Pt.begB a.out.flatten b.out.flatten || Pt.begB b.out.flatten a.out.flatten by unfold Pt.alikeB; rw [hea, heb])
  clear c1 c2 hea heb
  go_enter Tryd.func13, Tryd.ntmps13
  go_wp2_with fail
  go_region_held3 (fun w' => w'.cell? ⟨w.heap.size, 0, none⟩ = some (.slice pa a.out.length ca) ∧ w'.cell? ⟨w.heap.size, 1, none⟩ = some (.int .i64 a.st) ∧ w'.cell? ⟨w.heap.size, 2, none⟩ = some (.string ⟨a.exn.toArray⟩) ∧ w'.cell? ⟨w.heap.size, 3, none⟩ = some (.int .i64 a.steps) ∧ w'.cell? ⟨w.heap.size + 1, 0, none⟩ = some (.slice pb b.out.length cb) ∧ w'.cell? ⟨w.heap.size + 1, 1, none⟩ = some (.int .i64 b.st) ∧ w'.cell? ⟨w.heap.size + 1, 2, none⟩ = some (.string ⟨b.exn.toArray⟩) ∧ w'.cell? ⟨w.heap.size + 1, 3, none⟩ = some (.int .i64 b.steps) ∧ Rows2 w w.heap.size pa pb a.out b.out w')
    (first
      | (go_keep; done)
      | (refine ⟨?_, ?_, ?_, ?_, ?_, ?_, ?_, ?_, start2 ha1 hb1⟩ <;> (go_keep; done))
      | (go_split_ands; exact ⟨Rows2.cellA (by assumption) (by assumption) hbx, Rows2.cellA (by assumption) (by assumption) hbx, Rows2.cellA (by assumption) (by assumption) hbx, Rows2.cellA (by assumption) (by assumption) hbx, Rows2.cellB (by assumption) (by assumption) hbx, Rows2.cellB (by assumption) (by assumption) hbx, Rows2.cellB (by assumption) (by assumption) hbx, Rows2.cellB (by assumption) (by assumption) hbx, Rows2.keep (by assumption) hbx⟩)
      | (go_split_ands; exact ⟨Rows2.cellA (by assumption) (by assumption) ((Below.refl _ _).drew), Rows2.cellA (by assumption) (by assumption) ((Below.refl _ _).drew), Rows2.cellA (by assumption) (by assumption) ((Below.refl _ _).drew), Rows2.cellA (by assumption) (by assumption) ((Below.refl _ _).drew), Rows2.cellB (by assumption) (by assumption) ((Below.refl _ _).drew), Rows2.cellB (by assumption) (by assumption) ((Below.refl _ _).drew), Rows2.cellB (by assumption) (by assumption) ((Below.refl _ _).drew), Rows2.cellB (by assumption) (by assumption) ((Below.refl _ _).drew), Rows2.keep (by assumption) ((Below.refl _ _).drew)⟩))
    (first| (go_at_call 28; refine (C1.out _ _ ?_).mono ?_; (go_split_ands; exact ocAt_mk (Rows2.ra (by assumption)) ha2); rintro e w1 ⟨rfl, hbx⟩) | (go_at_call 28; refine (C2.out _ _ ?_).mono ?_; (go_split_ands; exact ocAt_mk (Rows2.rb (by assumption)) hb2); rintro e w1 ⟨rfl, hbx⟩))
  go_split_ands
  have hr := (by assumption : Rows2 w w.heap.size pa pb a.out b.out _)
  cases ea
  · cases eb
    · have HL2 := Lib.hid (show Pt.alikeB a b = (Pt.begB a.out.flatten b.out.flatten || Pt.begB b.out.flatten a.out.flatten) from HL.out)
      obtain ⟨z, hz⟩ : ∃ z, Pt.begB a.out.flatten b.out.flatten = z := ⟨_, rfl⟩
      have c3 := fun v u W h g => begins_any a b v u W h g sa sb
      rw [hz] at c3
      have C3 := Lib.hid c3
      have HZ := Lib.hid hz
      clear c3 hz
      cases z
      · go_wp2_with (first | (go_at_call 11; (with_reducible refine (C3.out _ _ _ (ocAt_mk hr.ra ha2) (ocAt_mk hr.rb hb2)).mono ?_); rintro e w2 ⟨rfl, hb9⟩; have hr2 := hr.keep hb9; have e0 := hr.cellA (by assumption : World.cell? _ ⟨w.heap.size, 0, none⟩ = some (.slice pa a.out.length ca)) hb9; have e1 := hr.cellA (by assumption : World.cell? _ ⟨w.heap.size, 1, none⟩ = some (.int .i64 a.st)) hb9; have e2 := hr.cellA (by assumption : World.cell? _ ⟨w.heap.size, 2, none⟩ = some (.string ⟨a.exn.toArray⟩)) hb9; have e3 := hr.cellA (by assumption : World.cell? _ ⟨w.heap.size, 3, none⟩ = some (.int .i64 a.steps)) hb9; have f0 := hr.cellB (by assumption : World.cell? _ ⟨w.heap.size + 1, 0, none⟩ = some (.slice pb b.out.length cb)) hb9; have f1 := hr.cellB (by assumption : World.cell? _ ⟨w.heap.size + 1, 1, none⟩ = some (.int .i64 b.st)) hb9; have f2 := hr.cellB (by assumption : World.cell? _ ⟨w.heap.size + 1, 2, none⟩ = some (.string ⟨b.exn.toArray⟩)) hb9; have f3 := hr.cellB (by assumption : World.cell? _ ⟨w.heap.size + 1, 3, none⟩ = some (.int .i64 b.steps)) hb9) | (go_at_call 11; refine (begins_any b a _ _ _ (ocAt_mk hr2.rb hb2) (ocAt_mk hr2.ra ha2) sb sa).mono ?_; rintro e w3 ⟨rfl, hb8⟩))
        go_ret
        exact ⟨ret_bool (by rw [HL2.out, HZ.out]; rfl), hr2.be.trans (hb8.mono hr2.be.size)⟩
      · go_wp2_with (go_at_call 11; refine (C3.out _ _ _ (ocAt_mk hr.ra ha2) (ocAt_mk hr.rb hb2)).mono ?_; rintro e w2 ⟨rfl, hb9⟩)
        go_ret
        exact ⟨ret_bool (by rw [HL2.out, HZ.out]; rfl), hr.be.trans (hb9.mono hr.be.size)⟩
    · have HL2 := Lib.hid (show Pt.alikeB a b = Pt.begB a.out.flatten b.out.flatten from HL.out)
      go_wp2_with (go_at_call 11; refine (begins_any a b _ _ _ (ocAt_mk hr.ra ha2) (ocAt_mk hr.rb hb2) sa sb).mono ?_; rintro e w2 ⟨rfl, hb9⟩)
      go_ret
      exact ⟨ret_bool HL2.out.symm, hr.be.trans (hb9.mono hr.be.size)⟩
  · cases eb
    · have HL2 := Lib.hid (show Pt.alikeB a b = Pt.begB b.out.flatten a.out.flatten from HL.out)
      go_wp2_with (go_at_call 11; refine (begins_any b a _ _ _ (ocAt_mk hr.rb hb2) (ocAt_mk hr.ra ha2) sb sa).mono ?_; rintro e w2 ⟨rfl, hb9⟩)
      go_ret
      exact ⟨ret_bool HL2.out.symm, hr.be.trans (hb9.mono hr.be.size)⟩
    · have HL2 := Lib.hid (show Pt.alikeB a b = (decide (a.st = b.st) && decide (a.exn = b.exn) && decide (a.out.flatten = b.out.flatten)) from HL.out)
      by_cases hs : a.st = b.st
      · have ks : (a.st == b.st) = true := by simp; exact hs
        have HS := Lib.hid hs
        clear hs
        by_cases hx : a.exn = b.exn
        · have kx : (a.exn == b.exn) = true := by simp; exact hx
          have HX := Lib.hid hx
          clear hx
          go_wp2_with fail
          go_region_held3 (fun w' => w'.cell? ⟨w.heap.size, 0, none⟩ = some (.slice pa a.out.length ca) ∧ w'.cell? ⟨w.heap.size, 1, none⟩ = some (.int .i64 a.st) ∧ w'.cell? ⟨w.heap.size, 2, none⟩ = some (.string ⟨a.exn.toArray⟩) ∧ w'.cell? ⟨w.heap.size, 3, none⟩ = some (.int .i64 a.steps) ∧ w'.cell? ⟨w.heap.size + 1, 0, none⟩ = some (.slice pb b.out.length cb) ∧ w'.cell? ⟨w.heap.size + 1, 1, none⟩ = some (.int .i64 b.st) ∧ w'.cell? ⟨w.heap.size + 1, 2, none⟩ = some (.string ⟨b.exn.toArray⟩) ∧ w'.cell? ⟨w.heap.size + 1, 3, none⟩ = some (.int .i64 b.steps) ∧ Rows2 w w.heap.size pa pb a.out b.out w')
            (first
              | (go_keep; done)
              | (refine ⟨?_, ?_, ?_, ?_, ?_, ?_, ?_, ?_, start2 ha1 hb1⟩ <;> (go_keep; done))
              | (go_split_ands; exact ⟨Rows2.cellA (by assumption) (by assumption) hbx, Rows2.cellA (by assumption) (by assumption) hbx, Rows2.cellA (by assumption) (by assumption) hbx, Rows2.cellA (by assumption) (by assumption) hbx, Rows2.cellB (by assumption) (by assumption) hbx, Rows2.cellB (by assumption) (by assumption) hbx, Rows2.cellB (by assumption) (by assumption) hbx, Rows2.cellB (by assumption) (by assumption) hbx, Rows2.keep (by assumption) hbx⟩)
              | (go_split_ands; exact ⟨Rows2.cellA (by assumption) (by assumption) ((Below.refl _ _).drew), Rows2.cellA (by assumption) (by assumption) ((Below.refl _ _).drew), Rows2.cellA (by assumption) (by assumption) ((Below.refl _ _).drew), Rows2.cellA (by assumption) (by assumption) ((Below.refl _ _).drew), Rows2.cellB (by assumption) (by assumption) ((Below.refl _ _).drew), Rows2.cellB (by assumption) (by assumption) ((Below.refl _ _).drew), Rows2.cellB (by assumption) (by assumption) ((Below.refl _ _).drew), Rows2.cellB (by assumption) (by assumption) ((Below.refl _ _).drew), Rows2.keep (by assumption) ((Below.refl _ _).drew)⟩))
            (first| (go_at_call 16; (with_reducible refine (sjoined_any pa a.out ca _ ?_ ha2 sa).mono ?_); (go_split_ands; exact Rows2.ra (by assumption)); rintro e w1 ⟨rfl, hbx⟩) | (go_at_call 16; (with_reducible refine (sjoined_any pb b.out cb _ ?_ hb2 sb).mono ?_); (go_split_ands; exact Rows2.rb (by assumption)); rintro e w1 ⟨rfl, hbx⟩))
          go_wp2
          go_ret
          exact ⟨ret_bool (by rw [HL2.out, decide_eq_true HS.out, decide_eq_true HX.out, listBeq]; rfl), (by go_split_ands; exact Rows2.be (by assumption))⟩
        · have kx : (a.exn == b.exn) = false := by simp; exact hx
          have HX := Lib.hid hx
          go_wp2_with fail
          go_quiet (fail)
          go_wp2
          go_ret
          exact ⟨ret_bool (by rw [HL2.out, decide_eq_false HX.out]; simp), below_drewN hr.be _⟩
      · have ks : (a.st == b.st) = false := by simp; exact hs
        have HS := Lib.hid hs
        clear hs
        go_wp2_with fail
        go_quiet (fail)
        go_wp2
        go_ret
        exact ⟨ret_bool (by rw [HL2.out, decide_eq_false HS.out]; simp), below_drewN hr.be _⟩

theorem start2n {w : World} {o1 o2 : Obj} {pa pb : Option Addr} {la lb : List (List UInt8)} (ha : StrsAt w pa la) (hb : StrsAt w pb lb) : Rows2 w w.heap.size pa pb la lb ((w.alloc o1).alloc o2) := by
  have g0 : Below w.heap.size w ((w.alloc o1).alloc o2) := ((Below.refl _ _).alloc (Nat.le_refl _) _).alloc (by simp) _
  exact ⟨by simp, strsAt_below ha g0, strsAt_below hb g0, g0⟩

set_option maxHeartbeats 1600000 in
set_option maxRecDepth 100000 in
theorem ralike_any (a b : Oc) (va vb : Value) (w : World) (ha : OcAt w va a) (hb : OcAt w vb b) (sa : a.out.flatten.length ≤ 140737488351232) (sb : b.out.flatten.length ≤ 140737488351232) :
    Calls Tryd.prog 14 #[va, vb] w fun e w' => e = .returned (.bool (Pt.alikeB a b)) ∧ Below w.heap.size w w' := by
  obtain ⟨pa, ca, rfl, ha1, ha2⟩ := ha
  obtain ⟨pb, cb, rfl, hb1, hb2⟩ := hb
  obtain ⟨ea, hea⟩ : ∃ ea, Pt.endedB a.st = ea := ⟨_, rfl⟩
  obtain ⟨eb, heb⟩ : ∃ eb, Pt.endedB b.st = eb := ⟨_, rfl⟩
  obtain ⟨za, hza⟩ : ∃ z, Pt.begB a.out.flatten b.out.flatten = z := ⟨_, rfl⟩
  obtain ⟨zb, hzb⟩ : ∃ z, Pt.begB b.out.flatten a.out.flatten = z := ⟨_, rfl⟩
  have c1 := fun v W h => rended_any a v W h
  have c2 := fun v W h => rended_any b v W h
  have c3 := fun v u W h g => rbegins_any a b v u W h g sa sb
  have c4 := fun v u W h g => rbegins_any b a v u W h g sb sa
  rw [hea] at c1
  rw [heb] at c2
  rw [hza] at c3
  rw [hzb] at c4
  have C1 := Lib.hid c1
  have C2 := Lib.hid c2
  have C3 := Lib.hid c3
  have C4 := Lib.hid c4
  have HL := Lib.hid (show Pt.alikeB a b = if ea && eb then decide (a.st = b.st) && decide (a.exn = b.exn) && decide (a.out.flatten = b.out.flatten)
    else if ea then zb else if eb then za else za || zb by unfold Pt.alikeB; rw [hea, heb, hza, hzb])
  have hr := start2n (o1 := .cells #[.slice pa a.out.length ca, .int .i64 a.st, .string ⟨a.exn.toArray⟩, .int .i64 a.steps] 25) (o2 := .cells #[.slice pb b.out.length cb, .int .i64 b.st, .string ⟨b.exn.toArray⟩, .int .i64 b.steps] 25) ha1 hb1
  have e0 : World.cell? ((w.alloc (.cells #[.slice pa a.out.length ca, .int .i64 a.st, .string ⟨a.exn.toArray⟩, .int .i64 a.steps] 25)).alloc (.cells #[.slice pb b.out.length cb, .int .i64 b.st, .string ⟨b.exn.toArray⟩, .int .i64 b.steps] 25)) ⟨w.heap.size, 0, none⟩ = some (.slice pa a.out.length ca) := by simp
  have e1 : World.cell? ((w.alloc (.cells #[.slice pa a.out.length ca, .int .i64 a.st, .string ⟨a.exn.toArray⟩, .int .i64 a.steps] 25)).alloc (.cells #[.slice pb b.out.length cb, .int .i64 b.st, .string ⟨b.exn.toArray⟩, .int .i64 b.steps] 25)) ⟨w.heap.size, 1, none⟩ = some (.int .i64 a.st) := by simp
  have e2 : World.cell? ((w.alloc (.cells #[.slice pa a.out.length ca, .int .i64 a.st, .string ⟨a.exn.toArray⟩, .int .i64 a.steps] 25)).alloc (.cells #[.slice pb b.out.length cb, .int .i64 b.st, .string ⟨b.exn.toArray⟩, .int .i64 b.steps] 25)) ⟨w.heap.size, 2, none⟩ = some (.string ⟨a.exn.toArray⟩) := by simp
  have e3 : World.cell? ((w.alloc (.cells #[.slice pa a.out.length ca, .int .i64 a.st, .string ⟨a.exn.toArray⟩, .int .i64 a.steps] 25)).alloc (.cells #[.slice pb b.out.length cb, .int .i64 b.st, .string ⟨b.exn.toArray⟩, .int .i64 b.steps] 25)) ⟨w.heap.size, 3, none⟩ = some (.int .i64 a.steps) := by simp
  have f0 : World.cell? ((w.alloc (.cells #[.slice pa a.out.length ca, .int .i64 a.st, .string ⟨a.exn.toArray⟩, .int .i64 a.steps] 25)).alloc (.cells #[.slice pb b.out.length cb, .int .i64 b.st, .string ⟨b.exn.toArray⟩, .int .i64 b.steps] 25)) ⟨w.heap.size + 1, 0, none⟩ = some (.slice pb b.out.length cb) := by simp
  have f1 : World.cell? ((w.alloc (.cells #[.slice pa a.out.length ca, .int .i64 a.st, .string ⟨a.exn.toArray⟩, .int .i64 a.steps] 25)).alloc (.cells #[.slice pb b.out.length cb, .int .i64 b.st, .string ⟨b.exn.toArray⟩, .int .i64 b.steps] 25)) ⟨w.heap.size + 1, 1, none⟩ = some (.int .i64 b.st) := by simp
  have f2 : World.cell? ((w.alloc (.cells #[.slice pa a.out.length ca, .int .i64 a.st, .string ⟨a.exn.toArray⟩, .int .i64 a.steps] 25)).alloc (.cells #[.slice pb b.out.length cb, .int .i64 b.st, .string ⟨b.exn.toArray⟩, .int .i64 b.steps] 25)) ⟨w.heap.size + 1, 2, none⟩ = some (.string ⟨b.exn.toArray⟩) := by simp
  have f3 : World.cell? ((w.alloc (.cells #[.slice pa a.out.length ca, .int .i64 a.st, .string ⟨a.exn.toArray⟩, .int .i64 a.steps] 25)).alloc (.cells #[.slice pb b.out.length cb, .int .i64 b.st, .string ⟨b.exn.toArray⟩, .int .i64 b.steps] 25)) ⟨w.heap.size + 1, 3, none⟩ = some (.int .i64 b.steps) := by simp
  clear c1 c2 c3 c4 hea heb hza hzb
  cases ea
  · cases eb
    · cases za
      · go_enter Tryd.func14, Tryd.ntmps14
        go_wp2_with (first | (go_at_call 15; refine (C1.out _ _ ?_).mono ?_; (exact ocAt_mk hr.ra ha2); rintro e w1 ⟨rfl, hby⟩; replace e0 := hr.cellA e0 hby; replace e1 := hr.cellA e1 hby; replace e2 := hr.cellA e2 hby; replace e3 := hr.cellA e3 hby; replace f0 := hr.cellB f0 hby; replace f1 := hr.cellB f1 hby; replace f2 := hr.cellB f2 hby; replace f3 := hr.cellB f3 hby; replace hr := hr.keep hby; clear hby) | (go_at_call 15; refine (C2.out _ _ ?_).mono ?_; (exact ocAt_mk hr.rb hb2); rintro e w1 ⟨rfl, hby⟩; replace e0 := hr.cellA e0 hby; replace e1 := hr.cellA e1 hby; replace e2 := hr.cellA e2 hby; replace e3 := hr.cellA e3 hby; replace f0 := hr.cellB f0 hby; replace f1 := hr.cellB f1 hby; replace f2 := hr.cellB f2 hby; replace f3 := hr.cellB f3 hby; replace hr := hr.keep hby; clear hby) | (go_at_call 12; (with_reducible refine (C3.out _ _ _ (ocAt_mk hr.ra ha2) (ocAt_mk hr.rb hb2)).mono ?_); rintro e w1 ⟨rfl, hby⟩; replace e0 := hr.cellA e0 hby; replace e1 := hr.cellA e1 hby; replace e2 := hr.cellA e2 hby; replace e3 := hr.cellA e3 hby; replace f0 := hr.cellB f0 hby; replace f1 := hr.cellB f1 hby; replace f2 := hr.cellB f2 hby; replace f3 := hr.cellB f3 hby; replace hr := hr.keep hby; clear hby) | (go_at_call 12; (with_reducible refine (C4.out _ _ _ (ocAt_mk hr.rb hb2) (ocAt_mk hr.ra ha2)).mono ?_); rintro e w1 ⟨rfl, hby⟩; replace e0 := hr.cellA e0 hby; replace e1 := hr.cellA e1 hby; replace e2 := hr.cellA e2 hby; replace e3 := hr.cellA e3 hby; replace f0 := hr.cellB f0 hby; replace f1 := hr.cellB f1 hby; replace f2 := hr.cellB f2 hby; replace f3 := hr.cellB f3 hby; replace hr := hr.keep hby; clear hby))
        go_ret
        exact ⟨ret_bool HL.out.symm, hr.be⟩
      · go_enter Tryd.func14, Tryd.ntmps14
        go_wp2_with (first | (go_at_call 15; refine (C1.out _ _ ?_).mono ?_; (exact ocAt_mk hr.ra ha2); rintro e w1 ⟨rfl, hby⟩; replace e0 := hr.cellA e0 hby; replace e1 := hr.cellA e1 hby; replace e2 := hr.cellA e2 hby; replace e3 := hr.cellA e3 hby; replace f0 := hr.cellB f0 hby; replace f1 := hr.cellB f1 hby; replace f2 := hr.cellB f2 hby; replace f3 := hr.cellB f3 hby; replace hr := hr.keep hby; clear hby) | (go_at_call 15; refine (C2.out _ _ ?_).mono ?_; (exact ocAt_mk hr.rb hb2); rintro e w1 ⟨rfl, hby⟩; replace e0 := hr.cellA e0 hby; replace e1 := hr.cellA e1 hby; replace e2 := hr.cellA e2 hby; replace e3 := hr.cellA e3 hby; replace f0 := hr.cellB f0 hby; replace f1 := hr.cellB f1 hby; replace f2 := hr.cellB f2 hby; replace f3 := hr.cellB f3 hby; replace hr := hr.keep hby; clear hby) | (go_at_call 12; (with_reducible refine (C3.out _ _ _ (ocAt_mk hr.ra ha2) (ocAt_mk hr.rb hb2)).mono ?_); rintro e w1 ⟨rfl, hby⟩; replace e0 := hr.cellA e0 hby; replace e1 := hr.cellA e1 hby; replace e2 := hr.cellA e2 hby; replace e3 := hr.cellA e3 hby; replace f0 := hr.cellB f0 hby; replace f1 := hr.cellB f1 hby; replace f2 := hr.cellB f2 hby; replace f3 := hr.cellB f3 hby; replace hr := hr.keep hby; clear hby) | (go_at_call 12; (with_reducible refine (C4.out _ _ _ (ocAt_mk hr.rb hb2) (ocAt_mk hr.ra ha2)).mono ?_); rintro e w1 ⟨rfl, hby⟩; replace e0 := hr.cellA e0 hby; replace e1 := hr.cellA e1 hby; replace e2 := hr.cellA e2 hby; replace e3 := hr.cellA e3 hby; replace f0 := hr.cellB f0 hby; replace f1 := hr.cellB f1 hby; replace f2 := hr.cellB f2 hby; replace f3 := hr.cellB f3 hby; replace hr := hr.keep hby; clear hby))
        go_ret
        exact ⟨ret_bool HL.out.symm, hr.be⟩
    · go_enter Tryd.func14, Tryd.ntmps14
      go_wp2_with (first | (go_at_call 15; refine (C1.out _ _ ?_).mono ?_; (exact ocAt_mk hr.ra ha2); rintro e w1 ⟨rfl, hby⟩; replace e0 := hr.cellA e0 hby; replace e1 := hr.cellA e1 hby; replace e2 := hr.cellA e2 hby; replace e3 := hr.cellA e3 hby; replace f0 := hr.cellB f0 hby; replace f1 := hr.cellB f1 hby; replace f2 := hr.cellB f2 hby; replace f3 := hr.cellB f3 hby; replace hr := hr.keep hby; clear hby) | (go_at_call 15; refine (C2.out _ _ ?_).mono ?_; (exact ocAt_mk hr.rb hb2); rintro e w1 ⟨rfl, hby⟩; replace e0 := hr.cellA e0 hby; replace e1 := hr.cellA e1 hby; replace e2 := hr.cellA e2 hby; replace e3 := hr.cellA e3 hby; replace f0 := hr.cellB f0 hby; replace f1 := hr.cellB f1 hby; replace f2 := hr.cellB f2 hby; replace f3 := hr.cellB f3 hby; replace hr := hr.keep hby; clear hby) | (go_at_call 12; (with_reducible refine (C3.out _ _ _ (ocAt_mk hr.ra ha2) (ocAt_mk hr.rb hb2)).mono ?_); rintro e w1 ⟨rfl, hby⟩; replace e0 := hr.cellA e0 hby; replace e1 := hr.cellA e1 hby; replace e2 := hr.cellA e2 hby; replace e3 := hr.cellA e3 hby; replace f0 := hr.cellB f0 hby; replace f1 := hr.cellB f1 hby; replace f2 := hr.cellB f2 hby; replace f3 := hr.cellB f3 hby; replace hr := hr.keep hby; clear hby) | (go_at_call 12; (with_reducible refine (C4.out _ _ _ (ocAt_mk hr.rb hb2) (ocAt_mk hr.ra ha2)).mono ?_); rintro e w1 ⟨rfl, hby⟩; replace e0 := hr.cellA e0 hby; replace e1 := hr.cellA e1 hby; replace e2 := hr.cellA e2 hby; replace e3 := hr.cellA e3 hby; replace f0 := hr.cellB f0 hby; replace f1 := hr.cellB f1 hby; replace f2 := hr.cellB f2 hby; replace f3 := hr.cellB f3 hby; replace hr := hr.keep hby; clear hby))
      go_ret
      exact ⟨ret_bool HL.out.symm, hr.be⟩
  · cases eb
    · go_enter Tryd.func14, Tryd.ntmps14
      go_wp2_with (first | (go_at_call 15; refine (C1.out _ _ ?_).mono ?_; (exact ocAt_mk hr.ra ha2); rintro e w1 ⟨rfl, hby⟩; replace e0 := hr.cellA e0 hby; replace e1 := hr.cellA e1 hby; replace e2 := hr.cellA e2 hby; replace e3 := hr.cellA e3 hby; replace f0 := hr.cellB f0 hby; replace f1 := hr.cellB f1 hby; replace f2 := hr.cellB f2 hby; replace f3 := hr.cellB f3 hby; replace hr := hr.keep hby; clear hby) | (go_at_call 15; refine (C2.out _ _ ?_).mono ?_; (exact ocAt_mk hr.rb hb2); rintro e w1 ⟨rfl, hby⟩; replace e0 := hr.cellA e0 hby; replace e1 := hr.cellA e1 hby; replace e2 := hr.cellA e2 hby; replace e3 := hr.cellA e3 hby; replace f0 := hr.cellB f0 hby; replace f1 := hr.cellB f1 hby; replace f2 := hr.cellB f2 hby; replace f3 := hr.cellB f3 hby; replace hr := hr.keep hby; clear hby) | (go_at_call 12; (with_reducible refine (C3.out _ _ _ (ocAt_mk hr.ra ha2) (ocAt_mk hr.rb hb2)).mono ?_); rintro e w1 ⟨rfl, hby⟩; replace e0 := hr.cellA e0 hby; replace e1 := hr.cellA e1 hby; replace e2 := hr.cellA e2 hby; replace e3 := hr.cellA e3 hby; replace f0 := hr.cellB f0 hby; replace f1 := hr.cellB f1 hby; replace f2 := hr.cellB f2 hby; replace f3 := hr.cellB f3 hby; replace hr := hr.keep hby; clear hby) | (go_at_call 12; (with_reducible refine (C4.out _ _ _ (ocAt_mk hr.rb hb2) (ocAt_mk hr.ra ha2)).mono ?_); rintro e w1 ⟨rfl, hby⟩; replace e0 := hr.cellA e0 hby; replace e1 := hr.cellA e1 hby; replace e2 := hr.cellA e2 hby; replace e3 := hr.cellA e3 hby; replace f0 := hr.cellB f0 hby; replace f1 := hr.cellB f1 hby; replace f2 := hr.cellB f2 hby; replace f3 := hr.cellB f3 hby; replace hr := hr.keep hby; clear hby))
      go_ret
      exact ⟨ret_bool HL.out.symm, hr.be⟩
    · have HL2 := Lib.hid (show Pt.alikeB a b = (decide (a.st = b.st) && decide (a.exn = b.exn) && decide (a.out.flatten = b.out.flatten)) from HL.out)
      by_cases hs : a.st = b.st
      · have ks : (a.st == b.st) = true := by simp; exact hs
        have HS := Lib.hid hs
        clear hs
        by_cases hx : a.exn = b.exn
        · have kx : (a.exn == b.exn) = true := by simp; exact hx
          have HX := Lib.hid hx
          clear hx
          go_enter Tryd.func14, Tryd.ntmps14
          go_wp2_with (first | (go_at_call 15; refine (C1.out _ _ ?_).mono ?_; (exact ocAt_mk hr.ra ha2); rintro e w1 ⟨rfl, hby⟩; replace e0 := hr.cellA e0 hby; replace e1 := hr.cellA e1 hby; replace e2 := hr.cellA e2 hby; replace e3 := hr.cellA e3 hby; replace f0 := hr.cellB f0 hby; replace f1 := hr.cellB f1 hby; replace f2 := hr.cellB f2 hby; replace f3 := hr.cellB f3 hby; replace hr := hr.keep hby; clear hby) | (go_at_call 15; refine (C2.out _ _ ?_).mono ?_; (exact ocAt_mk hr.rb hb2); rintro e w1 ⟨rfl, hby⟩; replace e0 := hr.cellA e0 hby; replace e1 := hr.cellA e1 hby; replace e2 := hr.cellA e2 hby; replace e3 := hr.cellA e3 hby; replace f0 := hr.cellB f0 hby; replace f1 := hr.cellB f1 hby; replace f2 := hr.cellB f2 hby; replace f3 := hr.cellB f3 hby; replace hr := hr.keep hby; clear hby) | (go_at_call 12; (with_reducible refine (C3.out _ _ _ (ocAt_mk hr.ra ha2) (ocAt_mk hr.rb hb2)).mono ?_); rintro e w1 ⟨rfl, hby⟩; replace e0 := hr.cellA e0 hby; replace e1 := hr.cellA e1 hby; replace e2 := hr.cellA e2 hby; replace e3 := hr.cellA e3 hby; replace f0 := hr.cellB f0 hby; replace f1 := hr.cellB f1 hby; replace f2 := hr.cellB f2 hby; replace f3 := hr.cellB f3 hby; replace hr := hr.keep hby; clear hby) | (go_at_call 12; (with_reducible refine (C4.out _ _ _ (ocAt_mk hr.rb hb2) (ocAt_mk hr.ra ha2)).mono ?_); rintro e w1 ⟨rfl, hby⟩; replace e0 := hr.cellA e0 hby; replace e1 := hr.cellA e1 hby; replace e2 := hr.cellA e2 hby; replace e3 := hr.cellA e3 hby; replace f0 := hr.cellB f0 hby; replace f1 := hr.cellB f1 hby; replace f2 := hr.cellB f2 hby; replace f3 := hr.cellB f3 hby; replace hr := hr.keep hby; clear hby))
          go_region_held3 (fun w' => w'.cell? ⟨w.heap.size, 0, none⟩ = some (.slice pa a.out.length ca) ∧ w'.cell? ⟨w.heap.size, 1, none⟩ = some (.int .i64 a.st) ∧ w'.cell? ⟨w.heap.size, 2, none⟩ = some (.string ⟨a.exn.toArray⟩) ∧ w'.cell? ⟨w.heap.size, 3, none⟩ = some (.int .i64 a.steps) ∧ w'.cell? ⟨w.heap.size + 1, 0, none⟩ = some (.slice pb b.out.length cb) ∧ w'.cell? ⟨w.heap.size + 1, 1, none⟩ = some (.int .i64 b.st) ∧ w'.cell? ⟨w.heap.size + 1, 2, none⟩ = some (.string ⟨b.exn.toArray⟩) ∧ w'.cell? ⟨w.heap.size + 1, 3, none⟩ = some (.int .i64 b.steps) ∧ Rows2 w w.heap.size pa pb a.out b.out w')
            (first
              | exact ⟨hr.cellA e0 ((Below.refl _ _).drew), hr.cellA e1 ((Below.refl _ _).drew), hr.cellA e2 ((Below.refl _ _).drew), hr.cellA e3 ((Below.refl _ _).drew), hr.cellB f0 ((Below.refl _ _).drew), hr.cellB f1 ((Below.refl _ _).drew), hr.cellB f2 ((Below.refl _ _).drew), hr.cellB f3 ((Below.refl _ _).drew), hr.keep ((Below.refl _ _).drew)⟩
              | (go_split_ands; exact ⟨Rows2.cellA (by assumption) (by assumption) hbx, Rows2.cellA (by assumption) (by assumption) hbx, Rows2.cellA (by assumption) (by assumption) hbx, Rows2.cellA (by assumption) (by assumption) hbx, Rows2.cellB (by assumption) (by assumption) hbx, Rows2.cellB (by assumption) (by assumption) hbx, Rows2.cellB (by assumption) (by assumption) hbx, Rows2.cellB (by assumption) (by assumption) hbx, Rows2.keep (by assumption) hbx⟩)
              | (go_split_ands; exact ⟨Rows2.cellA (by assumption) (by assumption) ((Below.refl _ _).drew), Rows2.cellA (by assumption) (by assumption) ((Below.refl _ _).drew), Rows2.cellA (by assumption) (by assumption) ((Below.refl _ _).drew), Rows2.cellA (by assumption) (by assumption) ((Below.refl _ _).drew), Rows2.cellB (by assumption) (by assumption) ((Below.refl _ _).drew), Rows2.cellB (by assumption) (by assumption) ((Below.refl _ _).drew), Rows2.cellB (by assumption) (by assumption) ((Below.refl _ _).drew), Rows2.cellB (by assumption) (by assumption) ((Below.refl _ _).drew), Rows2.keep (by assumption) ((Below.refl _ _).drew)⟩))
            (first| (go_at_call 22; (with_reducible refine (rjoined_any pa a.out ca _ ?_ sa).mono ?_); (go_split_ands; exact Rows2.ra (by assumption)); rintro e w1 ⟨rfl, hbx⟩) | (go_at_call 22; (with_reducible refine (rjoined_any pb b.out cb _ ?_ sb).mono ?_); (go_split_ands; exact Rows2.rb (by assumption)); rintro e w1 ⟨rfl, hbx⟩))
          go_wp2
          go_ret
          exact ⟨ret_bool (by rw [HL2.out, decide_eq_true HS.out, decide_eq_true HX.out, listBeq]; rfl), (by go_split_ands; exact Rows2.be (by assumption))⟩
        · have kx : (a.exn == b.exn) = false := by simp; exact hx
          have HX := Lib.hid hx
          go_enter Tryd.func14, Tryd.ntmps14
          go_wp2_with (first | (go_at_call 15; refine (C1.out _ _ ?_).mono ?_; (exact ocAt_mk hr.ra ha2); rintro e w1 ⟨rfl, hby⟩; replace e0 := hr.cellA e0 hby; replace e1 := hr.cellA e1 hby; replace e2 := hr.cellA e2 hby; replace e3 := hr.cellA e3 hby; replace f0 := hr.cellB f0 hby; replace f1 := hr.cellB f1 hby; replace f2 := hr.cellB f2 hby; replace f3 := hr.cellB f3 hby; replace hr := hr.keep hby; clear hby) | (go_at_call 15; refine (C2.out _ _ ?_).mono ?_; (exact ocAt_mk hr.rb hb2); rintro e w1 ⟨rfl, hby⟩; replace e0 := hr.cellA e0 hby; replace e1 := hr.cellA e1 hby; replace e2 := hr.cellA e2 hby; replace e3 := hr.cellA e3 hby; replace f0 := hr.cellB f0 hby; replace f1 := hr.cellB f1 hby; replace f2 := hr.cellB f2 hby; replace f3 := hr.cellB f3 hby; replace hr := hr.keep hby; clear hby) | (go_at_call 12; (with_reducible refine (C3.out _ _ _ (ocAt_mk hr.ra ha2) (ocAt_mk hr.rb hb2)).mono ?_); rintro e w1 ⟨rfl, hby⟩; replace e0 := hr.cellA e0 hby; replace e1 := hr.cellA e1 hby; replace e2 := hr.cellA e2 hby; replace e3 := hr.cellA e3 hby; replace f0 := hr.cellB f0 hby; replace f1 := hr.cellB f1 hby; replace f2 := hr.cellB f2 hby; replace f3 := hr.cellB f3 hby; replace hr := hr.keep hby; clear hby) | (go_at_call 12; (with_reducible refine (C4.out _ _ _ (ocAt_mk hr.rb hb2) (ocAt_mk hr.ra ha2)).mono ?_); rintro e w1 ⟨rfl, hby⟩; replace e0 := hr.cellA e0 hby; replace e1 := hr.cellA e1 hby; replace e2 := hr.cellA e2 hby; replace e3 := hr.cellA e3 hby; replace f0 := hr.cellB f0 hby; replace f1 := hr.cellB f1 hby; replace f2 := hr.cellB f2 hby; replace f3 := hr.cellB f3 hby; replace hr := hr.keep hby; clear hby))
          go_quiet (fail)
          go_wp2
          go_ret
          exact ⟨ret_bool (by rw [HL2.out, decide_eq_false HX.out]; simp), below_drewN hr.be _⟩
      · have ks : (a.st == b.st) = false := by simp; exact hs
        have HS := Lib.hid hs
        clear hs
        go_enter Tryd.func14, Tryd.ntmps14
        go_wp2_with (first | (go_at_call 15; refine (C1.out _ _ ?_).mono ?_; (exact ocAt_mk hr.ra ha2); rintro e w1 ⟨rfl, hby⟩; replace e0 := hr.cellA e0 hby; replace e1 := hr.cellA e1 hby; replace e2 := hr.cellA e2 hby; replace e3 := hr.cellA e3 hby; replace f0 := hr.cellB f0 hby; replace f1 := hr.cellB f1 hby; replace f2 := hr.cellB f2 hby; replace f3 := hr.cellB f3 hby; replace hr := hr.keep hby; clear hby) | (go_at_call 15; refine (C2.out _ _ ?_).mono ?_; (exact ocAt_mk hr.rb hb2); rintro e w1 ⟨rfl, hby⟩; replace e0 := hr.cellA e0 hby; replace e1 := hr.cellA e1 hby; replace e2 := hr.cellA e2 hby; replace e3 := hr.cellA e3 hby; replace f0 := hr.cellB f0 hby; replace f1 := hr.cellB f1 hby; replace f2 := hr.cellB f2 hby; replace f3 := hr.cellB f3 hby; replace hr := hr.keep hby; clear hby) | (go_at_call 12; (with_reducible refine (C3.out _ _ _ (ocAt_mk hr.ra ha2) (ocAt_mk hr.rb hb2)).mono ?_); rintro e w1 ⟨rfl, hby⟩; replace e0 := hr.cellA e0 hby; replace e1 := hr.cellA e1 hby; replace e2 := hr.cellA e2 hby; replace e3 := hr.cellA e3 hby; replace f0 := hr.cellB f0 hby; replace f1 := hr.cellB f1 hby; replace f2 := hr.cellB f2 hby; replace f3 := hr.cellB f3 hby; replace hr := hr.keep hby; clear hby) | (go_at_call 12; (with_reducible refine (C4.out _ _ _ (ocAt_mk hr.rb hb2) (ocAt_mk hr.ra ha2)).mono ?_); rintro e w1 ⟨rfl, hby⟩; replace e0 := hr.cellA e0 hby; replace e1 := hr.cellA e1 hby; replace e2 := hr.cellA e2 hby; replace e3 := hr.cellA e3 hby; replace f0 := hr.cellB f0 hby; replace f1 := hr.cellB f1 hby; replace f2 := hr.cellB f2 hby; replace f3 := hr.cellB f3 hby; replace hr := hr.keep hby; clear hby))
        go_quiet (fail)
        go_wp2
        go_ret
        exact ⟨ret_bool (by rw [HL2.out, decide_eq_false HS.out]; simp), below_drewN hr.be _⟩
end Go.Proofs.YtkjdigojajcgkaaDoor
