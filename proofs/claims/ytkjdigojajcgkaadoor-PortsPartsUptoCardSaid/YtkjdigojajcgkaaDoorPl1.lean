/- Laws of layer 21, walked: which runs are alike. -/
import Derived.Test.YtkjdigojajcgkaaDoorPw2
import Derived.Test.YtkjdigojajcgkaaDoorPw5
namespace Go.Proofs.YtkjdigojajcgkaaDoor
open Go.RowKit
open Pt (Oc)
set_option linter.unusedVariables false
attribute [local go_sem] ext_mk size_mk toList_mk get_mk take_drop_len take_tail_len ByteArray.mk_append_mk List.append_toArray

set_option maxHeartbeats 1600000 in
set_option maxRecDepth 100000 in
theorem portsAlike_walk (a b : Oc) (va vb : Value) (w : World) (hv : PortVars w) (ha : OcAt w va a) (hb : OcAt w vb b) (sa : a.out.flatten.length ≤ 140737488351232) (sb : b.out.flatten.length ≤ 140737488351232) :
    Calls Tryd.prog 4 #[va, vb] w fun e w' => e = .returned (.bool true) ∧ Below w.heap.size w w' := by
  obtain ⟨pa, ca, rfl, ha1, ha2⟩ := ha
  obtain ⟨pb, cb, rfl, hb1, hb2⟩ := hb
  have HV := Lib.hid hv
  obtain ⟨z1, hz1⟩ : ∃ z, Pt.begB a.out.flatten b.out.flatten = z := ⟨_, rfl⟩
  obtain ⟨z2, hz2⟩ : ∃ z, Pt.alikeB a b = z := ⟨_, rfl⟩
  have c1 := fun v u W h g => begins_any a b v u W h g sa sb
  have c2 := fun v u W h g => rbegins_any a b v u W h g sa sb
  have c3 := fun v u W h g => alike_any a b v u W h g sa sb
  have c4 := fun v u W h g => ralike_any a b v u W h g sa sb
  rw [hz1] at c1 c2
  rw [hz2] at c3 c4
  have C1 := Lib.hid c1
  have C2 := Lib.hid c2
  have C3 := Lib.hid c3
  have C4 := Lib.hid c4
  clear hv c1 c2 c3 c4 hz1 hz2
  go_enter Tryd.func4, Tryd.ntmps4
  go_wp2_with fail
  go_region_held3 (fun w' => w'.cell? ⟨w.heap.size, 0, none⟩ = some (.slice pa a.out.length ca) ∧ w'.cell? ⟨w.heap.size, 1, none⟩ = some (.int .i64 a.st) ∧ w'.cell? ⟨w.heap.size, 2, none⟩ = some (.string ⟨a.exn.toArray⟩) ∧ w'.cell? ⟨w.heap.size, 3, none⟩ = some (.int .i64 a.steps) ∧ w'.cell? ⟨w.heap.size + 1, 0, none⟩ = some (.slice pb b.out.length cb) ∧ w'.cell? ⟨w.heap.size + 1, 1, none⟩ = some (.int .i64 b.st) ∧ w'.cell? ⟨w.heap.size + 1, 2, none⟩ = some (.string ⟨b.exn.toArray⟩) ∧ w'.cell? ⟨w.heap.size + 1, 3, none⟩ = some (.int .i64 b.steps) ∧ Rows2 w w.heap.size pa pb a.out b.out w')
    (first
      | (go_keep; done)
      | (refine ⟨?_, ?_, ?_, ?_, ?_, ?_, ?_, ?_, start2 ha1 hb1⟩ <;> (go_keep; done))
      | (go_split_ands; exact ⟨Rows2.cellA (by assumption) (by assumption) hbx, Rows2.cellA (by assumption) (by assumption) hbx, Rows2.cellA (by assumption) (by assumption) hbx, Rows2.cellA (by assumption) (by assumption) hbx, Rows2.cellB (by assumption) (by assumption) hbx, Rows2.cellB (by assumption) (by assumption) hbx, Rows2.cellB (by assumption) (by assumption) hbx, Rows2.cellB (by assumption) (by assumption) hbx, Rows2.keep (by assumption) hbx⟩)
      | (go_split_ands; exact ⟨Rows2.cellA (by assumption) (by assumption) ((Below.refl _ _).drew), Rows2.cellA (by assumption) (by assumption) ((Below.refl _ _).drew), Rows2.cellA (by assumption) (by assumption) ((Below.refl _ _).drew), Rows2.cellA (by assumption) (by assumption) ((Below.refl _ _).drew), Rows2.cellB (by assumption) (by assumption) ((Below.refl _ _).drew), Rows2.cellB (by assumption) (by assumption) ((Below.refl _ _).drew), Rows2.cellB (by assumption) (by assumption) ((Below.refl _ _).drew), Rows2.cellB (by assumption) (by assumption) ((Below.refl _ _).drew), Rows2.keep (by assumption) ((Below.refl _ _).drew)⟩))
    (first | (go_at_call 11; refine (C1.out _ _ _ (by go_split_ands; exact ocAt_mk (Rows2.ra (by assumption)) ha2) (by go_split_ands; exact ocAt_mk (Rows2.rb (by assumption)) hb2)).mono ?_; rintro e w1 ⟨rfl, hbx⟩) | (go_at_call 12; refine (C2.out _ _ _ (by go_split_ands; exact ocAt_mk (Rows2.ra (by assumption)) ha2) (by go_split_ands; exact ocAt_mk (Rows2.rb (by assumption)) hb2)).mono ?_; rintro e w1 ⟨rfl, hbx⟩) | (go_at_call 13; refine (C3.out _ _ _ (by go_split_ands; exact ocAt_mk (Rows2.ra (by assumption)) ha2) (by go_split_ands; exact ocAt_mk (Rows2.rb (by assumption)) hb2)).mono ?_; rintro e w1 ⟨rfl, hbx⟩) | (go_at_call 14; refine (C4.out _ _ _ (by go_split_ands; exact ocAt_mk (Rows2.ra (by assumption)) ha2) (by go_split_ands; exact ocAt_mk (Rows2.rb (by assumption)) hb2)).mono ?_; rintro e w1 ⟨rfl, hbx⟩) | (go_at_call 10; refine (alive_any _ (HV.out.below (by go_split_ands; exact Rows2.be (by assumption)))).mono ?_; rintro e w1 ⟨rfl, hbx⟩))
  go_wp2
  go_ret
  exact ⟨rfl, (by go_split_ands; exact Rows2.be (by assumption))⟩

/-- what a region with calls that make memory holds beside three boxed outcomes' cells -/
structure Rows3 (w : World) (n : Nat) (pa pb pc : Option Addr) (la lb lc : List (List UInt8)) (W : World) : Prop where
  lt : n + 2 < W.heap.size
  ra : StrsAt W pa la
  rb : StrsAt W pb lb
  rc : StrsAt W pc lc
  be : Below w.heap.size w W

theorem Rows3.keep {w W W' : World} {n : Nat} {pa pb pc : Option Addr} {la lb lc : List (List UInt8)} (h : Rows3 w n pa pb pc la lb lc W) (hb : Below W.heap.size W W') : Rows3 w n pa pb pc la lb lc W' :=
  ⟨Nat.lt_of_lt_of_le h.lt hb.size, strsAt_below h.ra hb, strsAt_below h.rb hb, strsAt_below h.rc hb, h.be.trans (hb.mono h.be.size)⟩

theorem Rows3.cellA {w W W' : World} {n k : Nat} {va : Value} {pa pb pc : Option Addr} {la lb lc : List (List UInt8)} (h : Rows3 w n pa pb pc la lb lc W) (h1 : W.cell? ⟨n, k, none⟩ = some va) (hb : Below W.heap.size W W') : W'.cell? ⟨n, k, none⟩ = some va := by
  rw [hb.cell (p := ⟨n, k, none⟩) (show n < _ by have := h.lt; omega)]; exact h1

theorem Rows3.cellB {w W W' : World} {n k : Nat} {va : Value} {pa pb pc : Option Addr} {la lb lc : List (List UInt8)} (h : Rows3 w n pa pb pc la lb lc W) (h1 : W.cell? ⟨n + 1, k, none⟩ = some va) (hb : Below W.heap.size W W') : W'.cell? ⟨n + 1, k, none⟩ = some va := by
  rw [hb.cell (p := ⟨n + 1, k, none⟩) (show n + 1 < _ by have := h.lt; omega)]; exact h1

theorem Rows3.cellC {w W W' : World} {n k : Nat} {va : Value} {pa pb pc : Option Addr} {la lb lc : List (List UInt8)} (h : Rows3 w n pa pb pc la lb lc W) (h1 : W.cell? ⟨n + 2, k, none⟩ = some va) (hb : Below W.heap.size W W') : W'.cell? ⟨n + 2, k, none⟩ = some va := by
  rw [hb.cell (p := ⟨n + 2, k, none⟩) h.lt]; exact h1

theorem start3 {w : World} {o1 o2 o3 : Obj} {pa pb pc : Option Addr} {la lb lc : List (List UInt8)} (ha : StrsAt w pa la) (hb : StrsAt w pb lb) (hc : StrsAt w pc lc) : Rows3 w w.heap.size pa pb pc la lb lc (((w.alloc o1).alloc o2).alloc o3).drew := by
  have g0 : Below w.heap.size w (((w.alloc o1).alloc o2).alloc o3).drew := ((((Below.refl _ _).alloc (Nat.le_refl _) _).alloc (by simp) _).alloc (by simp; omega) _).drew
  exact ⟨by simp, strsAt_below ha g0, strsAt_below hb g0, strsAt_below hc g0, g0⟩

theorem box0 {w : World} {cs : Array Value} {t : TypeId} {o2 o3 : Obj} {i : Nat} {v : Value} (h : cs[i]? = some v) : World.cell? (((w.alloc (.cells cs t)).alloc o2).alloc o3).drew ⟨w.heap.size, i, none⟩ = some v := by
  have hb : Below (w.alloc (.cells cs t)).heap.size (w.alloc (.cells cs t)) (((w.alloc (.cells cs t)).alloc o2).alloc o3).drew := (((Below.refl _ _).alloc (Nat.le_refl _) _).alloc (by simp) _).drew
  rw [hb.cell (p := ⟨w.heap.size, i, none⟩) (by simp)]
  simp [h]

theorem box1 {w : World} {cs : Array Value} {t : TypeId} {o1 o3 : Obj} {i : Nat} {v : Value} (h : cs[i]? = some v) : World.cell? (((w.alloc o1).alloc (.cells cs t)).alloc o3).drew ⟨w.heap.size + 1, i, none⟩ = some v := by
  have hb : Below ((w.alloc o1).alloc (.cells cs t)).heap.size ((w.alloc o1).alloc (.cells cs t)) (((w.alloc o1).alloc (.cells cs t)).alloc o3).drew := ((Below.refl _ _).alloc (Nat.le_refl _) _).drew
  rw [hb.cell (p := ⟨w.heap.size + 1, i, none⟩) (by simp)]
  simp [h]

theorem box2 {w : World} {cs : Array Value} {t : TypeId} {o1 o2 : Obj} {i : Nat} {v : Value} (h : cs[i]? = some v) : World.cell? (((w.alloc o1).alloc o2).alloc (.cells cs t)).drew ⟨w.heap.size + 2, i, none⟩ = some v := by
  have e : ((w.alloc o1).alloc o2).heap.size = w.heap.size + 2 := by simp
  have gen : ∀ W : World, World.cell? (W.alloc (.cells cs t)) ⟨W.heap.size, i, none⟩ = some v := fun W => by simp [h]
  have g := gen ((w.alloc o1).alloc o2)
  rw [e] at g
  exact g

set_option maxHeartbeats 4000000 in
set_option maxRecDepth 100000 in
theorem portsOne_walk (a b c : Oc) (va vb vc : Value) (w : World) (hv : PortVars w) (ha : OcAt w va a) (hb : OcAt w vb b) (hc : OcAt w vc c) (sa : a.out.flatten.length ≤ 140737488351232) (sb : b.out.flatten.length ≤ 140737488351232) (sc : c.out.flatten.length ≤ 140737488351232) :
    Calls Tryd.prog 5 #[va, vb, vc] w fun e w' => e = .returned (.bool true) ∧ Below w.heap.size w w' := by
  obtain ⟨pa, ca, rfl, ha1, ha2⟩ := ha
  obtain ⟨pb, cb, rfl, hb1, hb2⟩ := hb
  obtain ⟨pc, cc, rfl, hc1, hc2⟩ := hc
  have HV := Lib.hid hv
  obtain ⟨z, hz⟩ : ∃ z, Pt.alikeB a b = z := ⟨_, rfl⟩
  obtain ⟨y, hy⟩ : ∃ z, Pt.alikeB c b = z := ⟨_, rfl⟩
  obtain ⟨x, hx⟩ : ∃ z, Pt.alikeB a c = z := ⟨_, rfl⟩
  obtain ⟨eb, heb⟩ : ∃ z, Pt.endedB b.st = z := ⟨_, rfl⟩
  have c1 := fun v u W h g => alike_any a a v u W h g sa sa
  have c2 := fun v u W h g => alike_any a b v u W h g sa sb
  have c3 := fun v u W h g => alike_any b a v u W h g sb sa
  have c4 := fun v u W h g => alike_any c b v u W h g sc sb
  have c5 := fun v u W h g => alike_any a c v u W h g sa sc
  have ce := fun v W h => rended_any b v W h
  rw [Pt.alike_self] at c1
  rw [hz] at c2
  rw [Pt.alike_comm b a, hz] at c3
  rw [hy] at c4
  rw [hx] at c5
  rw [heb] at ce
  have third : eb = true → z = true → y = true → x = true := fun h1 h2 h3 => by rw [← hx]; exact Pt.alike_third (heb.trans h1) (hz.trans h2) (hy.trans h3)
  have C1 := Lib.hid c1
  have C2 := Lib.hid c2
  have C3 := Lib.hid c3
  have C4 := Lib.hid c4
  have C5 := Lib.hid c5
  have CE := Lib.hid ce
  have HT := Lib.hid third
  have he0 : World.cell? (((w.alloc (.cells #[.slice pa a.out.length ca, .int .i64 a.st, .string ⟨a.exn.toArray⟩, .int .i64 a.steps] 25)).alloc (.cells #[.slice pb b.out.length cb, .int .i64 b.st, .string ⟨b.exn.toArray⟩, .int .i64 b.steps] 25)).alloc (.cells #[.slice pc c.out.length cc, .int .i64 c.st, .string ⟨c.exn.toArray⟩, .int .i64 c.steps] 25)).drew ⟨w.heap.size, 0, none⟩ = some (.slice pa a.out.length ca) := box0 rfl
  have he1 : World.cell? (((w.alloc (.cells #[.slice pa a.out.length ca, .int .i64 a.st, .string ⟨a.exn.toArray⟩, .int .i64 a.steps] 25)).alloc (.cells #[.slice pb b.out.length cb, .int .i64 b.st, .string ⟨b.exn.toArray⟩, .int .i64 b.steps] 25)).alloc (.cells #[.slice pc c.out.length cc, .int .i64 c.st, .string ⟨c.exn.toArray⟩, .int .i64 c.steps] 25)).drew ⟨w.heap.size, 1, none⟩ = some (.int .i64 a.st) := box0 rfl
  have he2 : World.cell? (((w.alloc (.cells #[.slice pa a.out.length ca, .int .i64 a.st, .string ⟨a.exn.toArray⟩, .int .i64 a.steps] 25)).alloc (.cells #[.slice pb b.out.length cb, .int .i64 b.st, .string ⟨b.exn.toArray⟩, .int .i64 b.steps] 25)).alloc (.cells #[.slice pc c.out.length cc, .int .i64 c.st, .string ⟨c.exn.toArray⟩, .int .i64 c.steps] 25)).drew ⟨w.heap.size, 2, none⟩ = some (.string ⟨a.exn.toArray⟩) := box0 rfl
  have he3 : World.cell? (((w.alloc (.cells #[.slice pa a.out.length ca, .int .i64 a.st, .string ⟨a.exn.toArray⟩, .int .i64 a.steps] 25)).alloc (.cells #[.slice pb b.out.length cb, .int .i64 b.st, .string ⟨b.exn.toArray⟩, .int .i64 b.steps] 25)).alloc (.cells #[.slice pc c.out.length cc, .int .i64 c.st, .string ⟨c.exn.toArray⟩, .int .i64 c.steps] 25)).drew ⟨w.heap.size, 3, none⟩ = some (.int .i64 a.steps) := box0 rfl
  have hf0 : World.cell? (((w.alloc (.cells #[.slice pa a.out.length ca, .int .i64 a.st, .string ⟨a.exn.toArray⟩, .int .i64 a.steps] 25)).alloc (.cells #[.slice pb b.out.length cb, .int .i64 b.st, .string ⟨b.exn.toArray⟩, .int .i64 b.steps] 25)).alloc (.cells #[.slice pc c.out.length cc, .int .i64 c.st, .string ⟨c.exn.toArray⟩, .int .i64 c.steps] 25)).drew ⟨w.heap.size + 1, 0, none⟩ = some (.slice pb b.out.length cb) := box1 rfl
  have hf1 : World.cell? (((w.alloc (.cells #[.slice pa a.out.length ca, .int .i64 a.st, .string ⟨a.exn.toArray⟩, .int .i64 a.steps] 25)).alloc (.cells #[.slice pb b.out.length cb, .int .i64 b.st, .string ⟨b.exn.toArray⟩, .int .i64 b.steps] 25)).alloc (.cells #[.slice pc c.out.length cc, .int .i64 c.st, .string ⟨c.exn.toArray⟩, .int .i64 c.steps] 25)).drew ⟨w.heap.size + 1, 1, none⟩ = some (.int .i64 b.st) := box1 rfl
  have hf2 : World.cell? (((w.alloc (.cells #[.slice pa a.out.length ca, .int .i64 a.st, .string ⟨a.exn.toArray⟩, .int .i64 a.steps] 25)).alloc (.cells #[.slice pb b.out.length cb, .int .i64 b.st, .string ⟨b.exn.toArray⟩, .int .i64 b.steps] 25)).alloc (.cells #[.slice pc c.out.length cc, .int .i64 c.st, .string ⟨c.exn.toArray⟩, .int .i64 c.steps] 25)).drew ⟨w.heap.size + 1, 2, none⟩ = some (.string ⟨b.exn.toArray⟩) := box1 rfl
  have hf3 : World.cell? (((w.alloc (.cells #[.slice pa a.out.length ca, .int .i64 a.st, .string ⟨a.exn.toArray⟩, .int .i64 a.steps] 25)).alloc (.cells #[.slice pb b.out.length cb, .int .i64 b.st, .string ⟨b.exn.toArray⟩, .int .i64 b.steps] 25)).alloc (.cells #[.slice pc c.out.length cc, .int .i64 c.st, .string ⟨c.exn.toArray⟩, .int .i64 c.steps] 25)).drew ⟨w.heap.size + 1, 3, none⟩ = some (.int .i64 b.steps) := box1 rfl
  have hg0 : World.cell? (((w.alloc (.cells #[.slice pa a.out.length ca, .int .i64 a.st, .string ⟨a.exn.toArray⟩, .int .i64 a.steps] 25)).alloc (.cells #[.slice pb b.out.length cb, .int .i64 b.st, .string ⟨b.exn.toArray⟩, .int .i64 b.steps] 25)).alloc (.cells #[.slice pc c.out.length cc, .int .i64 c.st, .string ⟨c.exn.toArray⟩, .int .i64 c.steps] 25)).drew ⟨w.heap.size + 2, 0, none⟩ = some (.slice pc c.out.length cc) := box2 rfl
  have hg1 : World.cell? (((w.alloc (.cells #[.slice pa a.out.length ca, .int .i64 a.st, .string ⟨a.exn.toArray⟩, .int .i64 a.steps] 25)).alloc (.cells #[.slice pb b.out.length cb, .int .i64 b.st, .string ⟨b.exn.toArray⟩, .int .i64 b.steps] 25)).alloc (.cells #[.slice pc c.out.length cc, .int .i64 c.st, .string ⟨c.exn.toArray⟩, .int .i64 c.steps] 25)).drew ⟨w.heap.size + 2, 1, none⟩ = some (.int .i64 c.st) := box2 rfl
  have hg2 : World.cell? (((w.alloc (.cells #[.slice pa a.out.length ca, .int .i64 a.st, .string ⟨a.exn.toArray⟩, .int .i64 a.steps] 25)).alloc (.cells #[.slice pb b.out.length cb, .int .i64 b.st, .string ⟨b.exn.toArray⟩, .int .i64 b.steps] 25)).alloc (.cells #[.slice pc c.out.length cc, .int .i64 c.st, .string ⟨c.exn.toArray⟩, .int .i64 c.steps] 25)).drew ⟨w.heap.size + 2, 2, none⟩ = some (.string ⟨c.exn.toArray⟩) := box2 rfl
  have hg3 : World.cell? (((w.alloc (.cells #[.slice pa a.out.length ca, .int .i64 a.st, .string ⟨a.exn.toArray⟩, .int .i64 a.steps] 25)).alloc (.cells #[.slice pb b.out.length cb, .int .i64 b.st, .string ⟨b.exn.toArray⟩, .int .i64 b.steps] 25)).alloc (.cells #[.slice pc c.out.length cc, .int .i64 c.st, .string ⟨c.exn.toArray⟩, .int .i64 c.steps] 25)).drew ⟨w.heap.size + 2, 3, none⟩ = some (.int .i64 c.steps) := box2 rfl
  have hr0 := start3 (o1 := (.cells #[.slice pa a.out.length ca, .int .i64 a.st, .string ⟨a.exn.toArray⟩, .int .i64 a.steps] 25)) (o2 := (.cells #[.slice pb b.out.length cb, .int .i64 b.st, .string ⟨b.exn.toArray⟩, .int .i64 b.steps] 25)) (o3 := (.cells #[.slice pc c.out.length cc, .int .i64 c.st, .string ⟨c.exn.toArray⟩, .int .i64 c.steps] 25)) ha1 hb1 hc1
  clear hv c1 c2 c3 c4 c5 ce third hz hy hx heb
  go_enter Tryd.func5, Tryd.ntmps5
  go_wp2_with fail
  go_region_held3 (fun w' => w'.cell? ⟨w.heap.size, 0, none⟩ = some (.slice pa a.out.length ca) ∧ w'.cell? ⟨w.heap.size, 1, none⟩ = some (.int .i64 a.st) ∧ w'.cell? ⟨w.heap.size, 2, none⟩ = some (.string ⟨a.exn.toArray⟩) ∧ w'.cell? ⟨w.heap.size, 3, none⟩ = some (.int .i64 a.steps) ∧ w'.cell? ⟨w.heap.size + 1, 0, none⟩ = some (.slice pb b.out.length cb) ∧ w'.cell? ⟨w.heap.size + 1, 1, none⟩ = some (.int .i64 b.st) ∧ w'.cell? ⟨w.heap.size + 1, 2, none⟩ = some (.string ⟨b.exn.toArray⟩) ∧ w'.cell? ⟨w.heap.size + 1, 3, none⟩ = some (.int .i64 b.steps) ∧ w'.cell? ⟨w.heap.size + 2, 0, none⟩ = some (.slice pc c.out.length cc) ∧ w'.cell? ⟨w.heap.size + 2, 1, none⟩ = some (.int .i64 c.st) ∧ w'.cell? ⟨w.heap.size + 2, 2, none⟩ = some (.string ⟨c.exn.toArray⟩) ∧ w'.cell? ⟨w.heap.size + 2, 3, none⟩ = some (.int .i64 c.steps) ∧ Rows3 w w.heap.size pa pb pc a.out b.out c.out w')
    (first
      | exact ⟨he0, he1, he2, he3, hf0, hf1, hf2, hf3, hg0, hg1, hg2, hg3, hr0⟩
      | (go_split_ands; exact ⟨Rows3.cellA (by assumption) (by assumption) hbx, Rows3.cellA (by assumption) (by assumption) hbx, Rows3.cellA (by assumption) (by assumption) hbx, Rows3.cellA (by assumption) (by assumption) hbx, Rows3.cellB (by assumption) (by assumption) hbx, Rows3.cellB (by assumption) (by assumption) hbx, Rows3.cellB (by assumption) (by assumption) hbx, Rows3.cellB (by assumption) (by assumption) hbx, Rows3.cellC (by assumption) (by assumption) hbx, Rows3.cellC (by assumption) (by assumption) hbx, Rows3.cellC (by assumption) (by assumption) hbx, Rows3.cellC (by assumption) (by assumption) hbx, Rows3.keep (by assumption) hbx⟩))
    (first | (go_at_call 13; refine (C1.out _ _ _ (by go_split_ands; exact ocAt_mk (Rows3.ra (by assumption)) ha2) (by go_split_ands; exact ocAt_mk (Rows3.ra (by assumption)) ha2)).mono ?_; rintro e w1 ⟨rfl, hbx⟩) | (go_at_call 13; refine (C2.out _ _ _ (by go_split_ands; exact ocAt_mk (Rows3.ra (by assumption)) ha2) (by go_split_ands; exact ocAt_mk (Rows3.rb (by assumption)) hb2)).mono ?_; rintro e w1 ⟨rfl, hbx⟩) | (go_at_call 13; refine (C3.out _ _ _ (by go_split_ands; exact ocAt_mk (Rows3.rb (by assumption)) hb2) (by go_split_ands; exact ocAt_mk (Rows3.ra (by assumption)) ha2)).mono ?_; rintro e w1 ⟨rfl, hbx⟩))
  go_split_ands
  have hr := (by assumption : Rows3 w w.heap.size pa pb pc a.out b.out c.out _)
  have e0 := (by assumption : World.cell? _ ⟨w.heap.size, 0, none⟩ = some (.slice pa a.out.length ca))
  have e1 := (by assumption : World.cell? _ ⟨w.heap.size, 1, none⟩ = some (.int .i64 a.st))
  have e2 := (by assumption : World.cell? _ ⟨w.heap.size, 2, none⟩ = some (.string ⟨a.exn.toArray⟩))
  have e3 := (by assumption : World.cell? _ ⟨w.heap.size, 3, none⟩ = some (.int .i64 a.steps))
  have f0 := (by assumption : World.cell? _ ⟨w.heap.size + 1, 0, none⟩ = some (.slice pb b.out.length cb))
  have f1 := (by assumption : World.cell? _ ⟨w.heap.size + 1, 1, none⟩ = some (.int .i64 b.st))
  have f2 := (by assumption : World.cell? _ ⟨w.heap.size + 1, 2, none⟩ = some (.string ⟨b.exn.toArray⟩))
  have f3 := (by assumption : World.cell? _ ⟨w.heap.size + 1, 3, none⟩ = some (.int .i64 b.steps))
  have g0 := (by assumption : World.cell? _ ⟨w.heap.size + 2, 0, none⟩ = some (.slice pc c.out.length cc))
  have g1 := (by assumption : World.cell? _ ⟨w.heap.size + 2, 1, none⟩ = some (.int .i64 c.st))
  have g2 := (by assumption : World.cell? _ ⟨w.heap.size + 2, 2, none⟩ = some (.string ⟨c.exn.toArray⟩))
  have g3 := (by assumption : World.cell? _ ⟨w.heap.size + 2, 3, none⟩ = some (.int .i64 c.steps))
  cases eb
  · cases z
    all_goals
      go_wp2_with (first | (go_at_call 15; refine (CE.out _ _ ?_).mono ?_; (exact ocAt_mk hr.rb hb2); rintro e w1 ⟨rfl, hby⟩; replace e0 := hr.cellA e0 hby; replace e1 := hr.cellA e1 hby; replace e2 := hr.cellA e2 hby; replace e3 := hr.cellA e3 hby; replace f0 := hr.cellB f0 hby; replace f1 := hr.cellB f1 hby; replace f2 := hr.cellB f2 hby; replace f3 := hr.cellB f3 hby; replace g0 := hr.cellC g0 hby; replace g1 := hr.cellC g1 hby; replace g2 := hr.cellC g2 hby; replace g3 := hr.cellC g3 hby; replace hr := hr.keep hby; clear hby) | (go_at_call 13; refine (C2.out _ _ _ ?_ ?_).mono ?_; (exact ocAt_mk hr.ra ha2); (exact ocAt_mk hr.rb hb2); rintro e w1 ⟨rfl, hby⟩; replace e0 := hr.cellA e0 hby; replace e1 := hr.cellA e1 hby; replace e2 := hr.cellA e2 hby; replace e3 := hr.cellA e3 hby; replace f0 := hr.cellB f0 hby; replace f1 := hr.cellB f1 hby; replace f2 := hr.cellB f2 hby; replace f3 := hr.cellB f3 hby; replace g0 := hr.cellC g0 hby; replace g1 := hr.cellC g1 hby; replace g2 := hr.cellC g2 hby; replace g3 := hr.cellC g3 hby; replace hr := hr.keep hby; clear hby) | (go_at_call 13; refine (C4.out _ _ _ ?_ ?_).mono ?_; (exact ocAt_mk hr.rc hc2); (exact ocAt_mk hr.rb hb2); rintro e w1 ⟨rfl, hby⟩; replace e0 := hr.cellA e0 hby; replace e1 := hr.cellA e1 hby; replace e2 := hr.cellA e2 hby; replace e3 := hr.cellA e3 hby; replace f0 := hr.cellB f0 hby; replace f1 := hr.cellB f1 hby; replace f2 := hr.cellB f2 hby; replace f3 := hr.cellB f3 hby; replace g0 := hr.cellC g0 hby; replace g1 := hr.cellC g1 hby; replace g2 := hr.cellC g2 hby; replace g3 := hr.cellC g3 hby; replace hr := hr.keep hby; clear hby) | (go_at_call 13; refine (C5.out _ _ _ ?_ ?_).mono ?_; (exact ocAt_mk hr.ra ha2); (exact ocAt_mk hr.rc hc2); rintro e w1 ⟨rfl, hby⟩; replace e0 := hr.cellA e0 hby; replace e1 := hr.cellA e1 hby; replace e2 := hr.cellA e2 hby; replace e3 := hr.cellA e3 hby; replace f0 := hr.cellB f0 hby; replace f1 := hr.cellB f1 hby; replace f2 := hr.cellB f2 hby; replace f3 := hr.cellB f3 hby; replace g0 := hr.cellC g0 hby; replace g1 := hr.cellC g1 hby; replace g2 := hr.cellC g2 hby; replace g3 := hr.cellC g3 hby; replace hr := hr.keep hby; clear hby) | (go_at_call 10; refine (alive_any _ (HV.out.below hr.be)).mono ?_; rintro e w9 ⟨rfl, hb9⟩))
      go_ret
      exact ⟨rfl, hr.be.trans (hb9.mono hr.be.size)⟩
  · cases z
    ·
      go_wp2_with (first | (go_at_call 15; refine (CE.out _ _ ?_).mono ?_; (exact ocAt_mk hr.rb hb2); rintro e w1 ⟨rfl, hby⟩; replace e0 := hr.cellA e0 hby; replace e1 := hr.cellA e1 hby; replace e2 := hr.cellA e2 hby; replace e3 := hr.cellA e3 hby; replace f0 := hr.cellB f0 hby; replace f1 := hr.cellB f1 hby; replace f2 := hr.cellB f2 hby; replace f3 := hr.cellB f3 hby; replace g0 := hr.cellC g0 hby; replace g1 := hr.cellC g1 hby; replace g2 := hr.cellC g2 hby; replace g3 := hr.cellC g3 hby; replace hr := hr.keep hby; clear hby) | (go_at_call 13; refine (C2.out _ _ _ ?_ ?_).mono ?_; (exact ocAt_mk hr.ra ha2); (exact ocAt_mk hr.rb hb2); rintro e w1 ⟨rfl, hby⟩; replace e0 := hr.cellA e0 hby; replace e1 := hr.cellA e1 hby; replace e2 := hr.cellA e2 hby; replace e3 := hr.cellA e3 hby; replace f0 := hr.cellB f0 hby; replace f1 := hr.cellB f1 hby; replace f2 := hr.cellB f2 hby; replace f3 := hr.cellB f3 hby; replace g0 := hr.cellC g0 hby; replace g1 := hr.cellC g1 hby; replace g2 := hr.cellC g2 hby; replace g3 := hr.cellC g3 hby; replace hr := hr.keep hby; clear hby) | (go_at_call 13; refine (C4.out _ _ _ ?_ ?_).mono ?_; (exact ocAt_mk hr.rc hc2); (exact ocAt_mk hr.rb hb2); rintro e w1 ⟨rfl, hby⟩; replace e0 := hr.cellA e0 hby; replace e1 := hr.cellA e1 hby; replace e2 := hr.cellA e2 hby; replace e3 := hr.cellA e3 hby; replace f0 := hr.cellB f0 hby; replace f1 := hr.cellB f1 hby; replace f2 := hr.cellB f2 hby; replace f3 := hr.cellB f3 hby; replace g0 := hr.cellC g0 hby; replace g1 := hr.cellC g1 hby; replace g2 := hr.cellC g2 hby; replace g3 := hr.cellC g3 hby; replace hr := hr.keep hby; clear hby) | (go_at_call 13; refine (C5.out _ _ _ ?_ ?_).mono ?_; (exact ocAt_mk hr.ra ha2); (exact ocAt_mk hr.rc hc2); rintro e w1 ⟨rfl, hby⟩; replace e0 := hr.cellA e0 hby; replace e1 := hr.cellA e1 hby; replace e2 := hr.cellA e2 hby; replace e3 := hr.cellA e3 hby; replace f0 := hr.cellB f0 hby; replace f1 := hr.cellB f1 hby; replace f2 := hr.cellB f2 hby; replace f3 := hr.cellB f3 hby; replace g0 := hr.cellC g0 hby; replace g1 := hr.cellC g1 hby; replace g2 := hr.cellC g2 hby; replace g3 := hr.cellC g3 hby; replace hr := hr.keep hby; clear hby) | (go_at_call 10; refine (alive_any _ (HV.out.below hr.be)).mono ?_; rintro e w9 ⟨rfl, hb9⟩))
      go_ret
      exact ⟨rfl, hr.be.trans (hb9.mono hr.be.size)⟩
    · cases y
      ·
        go_wp2_with (first | (go_at_call 15; refine (CE.out _ _ ?_).mono ?_; (exact ocAt_mk hr.rb hb2); rintro e w1 ⟨rfl, hby⟩; replace e0 := hr.cellA e0 hby; replace e1 := hr.cellA e1 hby; replace e2 := hr.cellA e2 hby; replace e3 := hr.cellA e3 hby; replace f0 := hr.cellB f0 hby; replace f1 := hr.cellB f1 hby; replace f2 := hr.cellB f2 hby; replace f3 := hr.cellB f3 hby; replace g0 := hr.cellC g0 hby; replace g1 := hr.cellC g1 hby; replace g2 := hr.cellC g2 hby; replace g3 := hr.cellC g3 hby; replace hr := hr.keep hby; clear hby) | (go_at_call 13; refine (C2.out _ _ _ ?_ ?_).mono ?_; (exact ocAt_mk hr.ra ha2); (exact ocAt_mk hr.rb hb2); rintro e w1 ⟨rfl, hby⟩; replace e0 := hr.cellA e0 hby; replace e1 := hr.cellA e1 hby; replace e2 := hr.cellA e2 hby; replace e3 := hr.cellA e3 hby; replace f0 := hr.cellB f0 hby; replace f1 := hr.cellB f1 hby; replace f2 := hr.cellB f2 hby; replace f3 := hr.cellB f3 hby; replace g0 := hr.cellC g0 hby; replace g1 := hr.cellC g1 hby; replace g2 := hr.cellC g2 hby; replace g3 := hr.cellC g3 hby; replace hr := hr.keep hby; clear hby) | (go_at_call 13; refine (C4.out _ _ _ ?_ ?_).mono ?_; (exact ocAt_mk hr.rc hc2); (exact ocAt_mk hr.rb hb2); rintro e w1 ⟨rfl, hby⟩; replace e0 := hr.cellA e0 hby; replace e1 := hr.cellA e1 hby; replace e2 := hr.cellA e2 hby; replace e3 := hr.cellA e3 hby; replace f0 := hr.cellB f0 hby; replace f1 := hr.cellB f1 hby; replace f2 := hr.cellB f2 hby; replace f3 := hr.cellB f3 hby; replace g0 := hr.cellC g0 hby; replace g1 := hr.cellC g1 hby; replace g2 := hr.cellC g2 hby; replace g3 := hr.cellC g3 hby; replace hr := hr.keep hby; clear hby) | (go_at_call 13; refine (C5.out _ _ _ ?_ ?_).mono ?_; (exact ocAt_mk hr.ra ha2); (exact ocAt_mk hr.rc hc2); rintro e w1 ⟨rfl, hby⟩; replace e0 := hr.cellA e0 hby; replace e1 := hr.cellA e1 hby; replace e2 := hr.cellA e2 hby; replace e3 := hr.cellA e3 hby; replace f0 := hr.cellB f0 hby; replace f1 := hr.cellB f1 hby; replace f2 := hr.cellB f2 hby; replace f3 := hr.cellB f3 hby; replace g0 := hr.cellC g0 hby; replace g1 := hr.cellC g1 hby; replace g2 := hr.cellC g2 hby; replace g3 := hr.cellC g3 hby; replace hr := hr.keep hby; clear hby) | (go_at_call 10; refine (alive_any _ (HV.out.below hr.be)).mono ?_; rintro e w9 ⟨rfl, hb9⟩))
        go_ret
        exact ⟨rfl, hr.be.trans (hb9.mono hr.be.size)⟩
      · have h := HT.out rfl rfl rfl
        subst h
        go_wp2_with (first | (go_at_call 15; refine (CE.out _ _ ?_).mono ?_; (exact ocAt_mk hr.rb hb2); rintro e w1 ⟨rfl, hby⟩; replace e0 := hr.cellA e0 hby; replace e1 := hr.cellA e1 hby; replace e2 := hr.cellA e2 hby; replace e3 := hr.cellA e3 hby; replace f0 := hr.cellB f0 hby; replace f1 := hr.cellB f1 hby; replace f2 := hr.cellB f2 hby; replace f3 := hr.cellB f3 hby; replace g0 := hr.cellC g0 hby; replace g1 := hr.cellC g1 hby; replace g2 := hr.cellC g2 hby; replace g3 := hr.cellC g3 hby; replace hr := hr.keep hby; clear hby) | (go_at_call 13; refine (C2.out _ _ _ ?_ ?_).mono ?_; (exact ocAt_mk hr.ra ha2); (exact ocAt_mk hr.rb hb2); rintro e w1 ⟨rfl, hby⟩; replace e0 := hr.cellA e0 hby; replace e1 := hr.cellA e1 hby; replace e2 := hr.cellA e2 hby; replace e3 := hr.cellA e3 hby; replace f0 := hr.cellB f0 hby; replace f1 := hr.cellB f1 hby; replace f2 := hr.cellB f2 hby; replace f3 := hr.cellB f3 hby; replace g0 := hr.cellC g0 hby; replace g1 := hr.cellC g1 hby; replace g2 := hr.cellC g2 hby; replace g3 := hr.cellC g3 hby; replace hr := hr.keep hby; clear hby) | (go_at_call 13; refine (C4.out _ _ _ ?_ ?_).mono ?_; (exact ocAt_mk hr.rc hc2); (exact ocAt_mk hr.rb hb2); rintro e w1 ⟨rfl, hby⟩; replace e0 := hr.cellA e0 hby; replace e1 := hr.cellA e1 hby; replace e2 := hr.cellA e2 hby; replace e3 := hr.cellA e3 hby; replace f0 := hr.cellB f0 hby; replace f1 := hr.cellB f1 hby; replace f2 := hr.cellB f2 hby; replace f3 := hr.cellB f3 hby; replace g0 := hr.cellC g0 hby; replace g1 := hr.cellC g1 hby; replace g2 := hr.cellC g2 hby; replace g3 := hr.cellC g3 hby; replace hr := hr.keep hby; clear hby) | (go_at_call 13; refine (C5.out _ _ _ ?_ ?_).mono ?_; (exact ocAt_mk hr.ra ha2); (exact ocAt_mk hr.rc hc2); rintro e w1 ⟨rfl, hby⟩; replace e0 := hr.cellA e0 hby; replace e1 := hr.cellA e1 hby; replace e2 := hr.cellA e2 hby; replace e3 := hr.cellA e3 hby; replace f0 := hr.cellB f0 hby; replace f1 := hr.cellB f1 hby; replace f2 := hr.cellB f2 hby; replace f3 := hr.cellB f3 hby; replace g0 := hr.cellC g0 hby; replace g1 := hr.cellC g1 hby; replace g2 := hr.cellC g2 hby; replace g3 := hr.cellC g3 hby; replace hr := hr.keep hby; clear hby) | (go_at_call 10; refine (alive_any _ (HV.out.below hr.be)).mono ?_; rintro e w9 ⟨rfl, hb9⟩))
        go_ret
        exact ⟨rfl, hr.be.trans (hb9.mono hr.be.size)⟩
end Go.Proofs.YtkjdigojajcgkaaDoor
