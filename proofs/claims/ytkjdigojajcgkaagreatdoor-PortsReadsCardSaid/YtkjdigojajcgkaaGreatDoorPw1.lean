/- Walks of layer 21: what was printed, one behind the other; beginnings. -/
import Derived.Test.YtkjdigojajcgkaaGreatDoorSw2
import Derived.Test.YtkjdigojajcgkaaGreatDoorBy
import Derived.Test.YtkjdigojajcgkaaGreatDoorPr
import Derived.Deep.RegionHeld3
namespace Go.Proofs.YtkjdigojajcgkaaGreatDoor
open Go.RowKit
open Pt (Oc)
set_option linter.unusedVariables false
attribute [local go_sem] ext_mk size_mk toList_mk get_mk take_drop_len take_tail_len ByteArray.mk_append_mk List.append_toArray

theorem sjoined_any (a : Option Addr) (ls : List (List UInt8)) (cap : Nat) (w : World) (h : StrsAt w a ls) (hcap : ls.length ≤ cap) (hl : ls.flatten.length ≤ 140737488351232) :
    Calls Tryz.prog 33 #[.slice a ls.length cap] w fun e w' => e = .returned (.string ⟨ls.flatten.toArray⟩) ∧ Below w.heap.size w w' := by
  obtain ⟨hm, rfl | ⟨b, off, rfl, hb, hc⟩⟩ := h
  · have hj : ∀ W : World, Calls Tryz.prog 21 #[.slice a 0 cap, .string ⟨#[]⟩] W fun e w' => e = .returned (.string ⟨#[]⟩) ∧ W = w' := fun W => (Tryz.strings_Join_none a cap ⟨#[]⟩ W).mono fun e w' ⟨he, hw⟩ => ⟨he, hw.symm⟩
    have HJ := Lib.hid hj
    clear hj
    go_enter Tryz.func33, Tryz.ntmps33
    go_wp2_with (go_at_call 21; refine (HJ.out _).mono ?_; rintro e w' ⟨rfl, rfl⟩)
    go_ret
    exact ⟨rfl, Below.refl _ _⟩
  · have HJ := Lib.hid (join_l b off ls cap w hc hb hm hcap hl)
    clear hc
    go_enter Tryz.func33, Tryz.ntmps33
    go_wp2_with (go_at_call 21; refine (HJ.out).mono ?_; rintro e w1 ⟨rfl, hb1⟩)
    go_ret
    exact ⟨rfl, hb1⟩

theorem flat_snoc {ls : List (List UInt8)} {k : Nat} {x : List UInt8} (h : k < ls.length) (hx : ls.getD k [] = x) : (ls.take (k + 1)).flatten = (ls.take k).flatten ++ x := St.flat_next h hx

theorem flat_part (ls : List (List UInt8)) (k : Nat) : (ls.take k).flatten.length ≤ ls.flatten.length := St.flat_le ls k

/-- the value of an outcome -/
def OcAt (w : World) (v : Value) (o : Oc) : Prop := ∃ a cap, v = .agg #[.slice a o.out.length cap, .int .i64 o.st, .string ⟨o.exn.toArray⟩, .int .i64 o.steps] ∧ StrsAt w a o.out ∧ o.out.length ≤ cap

theorem strsAt_below {w w' : World} {a : Option Addr} {ls : List (List UInt8)} (h : StrsAt w a ls) (hb : Below w.heap.size w w') : StrsAt w' a ls := by
  obtain ⟨hm, h | ⟨b, off, ha, hlt, hc⟩⟩ := h
  · exact ⟨hm, .inl h⟩
  · exact ⟨hm, .inr ⟨b, off, ha, Nat.lt_of_lt_of_le hlt hb.size, fun i hi => by rw [hb.cell (p := ⟨b, off + i, none⟩) hlt]; exact hc i hi⟩⟩

theorem OcAt.below {w w' : World} {v : Value} {o : Oc} (h : OcAt w v o) (hb : Below w.heap.size w w') : OcAt w' v o := by
  obtain ⟨a, cap, h1, h2, h3⟩ := h
  exact ⟨a, cap, h1, strsAt_below h2 hb, h3⟩

/-- what a region with calls that make memory holds beside two boxed values' cells: the rows that they lead to -/
structure Rows2 (w : World) (n : Nat) (pa pb : Option Addr) (la lb : List (List UInt8)) (W : World) : Prop where
  lt : n + 1 < W.heap.size
  ra : StrsAt W pa la
  rb : StrsAt W pb lb
  be : Below w.heap.size w W

theorem Rows2.keep {w W W' : World} {n : Nat} {pa pb : Option Addr} {la lb : List (List UInt8)} (h : Rows2 w n pa pb la lb W) (hb : Below W.heap.size W W') : Rows2 w n pa pb la lb W' :=
  ⟨Nat.lt_of_lt_of_le h.lt hb.size, strsAt_below h.ra hb, strsAt_below h.rb hb, h.be.trans (hb.mono h.be.size)⟩

theorem Rows2.cell0 {w W W' : World} {n : Nat} {va : Value} {pa pb : Option Addr} {la lb : List (List UInt8)} (h : Rows2 w n pa pb la lb W) (h1 : W.cell? ⟨n, 0, none⟩ = some va) (hb : Below W.heap.size W W') : W'.cell? ⟨n, 0, none⟩ = some va := by
  rw [hb.cell (p := ⟨n, 0, none⟩) (show n < _ by have := h.lt; omega)]; exact h1

theorem Rows2.cell1 {w W W' : World} {n : Nat} {va : Value} {pa pb : Option Addr} {la lb : List (List UInt8)} (h : Rows2 w n pa pb la lb W) (h1 : W.cell? ⟨n + 1, 0, none⟩ = some va) (hb : Below W.heap.size W W') : W'.cell? ⟨n + 1, 0, none⟩ = some va := by
  rw [hb.cell (p := ⟨n + 1, 0, none⟩) h.lt]; exact h1

theorem Rows2.cellA {w W W' : World} {n k : Nat} {va : Value} {pa pb : Option Addr} {la lb : List (List UInt8)} (h : Rows2 w n pa pb la lb W) (h1 : W.cell? ⟨n, k, none⟩ = some va) (hb : Below W.heap.size W W') : W'.cell? ⟨n, k, none⟩ = some va := by
  rw [hb.cell (p := ⟨n, k, none⟩) (show n < _ by have := h.lt; omega)]; exact h1

theorem Rows2.cellB {w W W' : World} {n k : Nat} {va : Value} {pa pb : Option Addr} {la lb : List (List UInt8)} (h : Rows2 w n pa pb la lb W) (h1 : W.cell? ⟨n + 1, k, none⟩ = some va) (hb : Below W.heap.size W W') : W'.cell? ⟨n + 1, k, none⟩ = some va := by
  rw [hb.cell (p := ⟨n + 1, k, none⟩) h.lt]; exact h1

theorem start2 {w : World} {o1 o2 : Obj} {pa pb : Option Addr} {la lb : List (List UInt8)} (ha : StrsAt w pa la) (hb : StrsAt w pb lb) : Rows2 w w.heap.size pa pb la lb ((w.alloc o1).alloc o2).drew := by
  have g0 : Below w.heap.size w ((w.alloc o1).alloc o2).drew := (((Below.refl _ _).alloc (Nat.le_refl _) _).alloc (by simp) _).drew
  exact ⟨by simp, strsAt_below ha g0, strsAt_below hb g0, g0⟩

theorem hasPrefix_l (s p : List UInt8) (w : World) : Calls Tryz.prog 32 #[.string ⟨s.toArray⟩, .string ⟨p.toArray⟩] w fun e w' => e = .returned (.bool (Pt.begB p s)) ∧ w = w' :=
  (Tryz.strings_HasPrefix ⟨s.toArray⟩ ⟨p.toArray⟩ w).mono fun e w' ⟨he, hw⟩ => ⟨he, hw.symm⟩

set_option maxHeartbeats 800000 in
theorem begins_any (a b : Oc) (va vb : Value) (w : World) (ha : OcAt w va a) (hb : OcAt w vb b) (sa : a.out.flatten.length ≤ 140737488351232) (sb : b.out.flatten.length ≤ 140737488351232) :
    Calls Tryz.prog 19 #[va, vb] w fun e w' => e = .returned (.bool (Pt.begB a.out.flatten b.out.flatten)) ∧ Below w.heap.size w w' := by
  obtain ⟨pa, ca, rfl, ha1, ha2⟩ := ha
  obtain ⟨pb, cb, rfl, hb1, hb2⟩ := hb
  go_enter Tryz.func19, Tryz.ntmps19
  go_wp2_with fail
  go_region_held3 (fun w' => w'.cell? ⟨w.heap.size, 0, none⟩ = some (.slice pa a.out.length ca) ∧ w'.cell? ⟨w.heap.size + 1, 0, none⟩ = some (.slice pb b.out.length cb) ∧ Rows2 w w.heap.size pa pb a.out b.out w')
    (first
      | (go_keep; done)
      | (refine ⟨?_, ?_, start2 ha1 hb1⟩ <;> (go_keep; done))
      | (go_split_ands; exact ⟨Rows2.cell0 (by assumption) (by assumption) hbx, Rows2.cell1 (by assumption) (by assumption) hbx, Rows2.keep (by assumption) hbx⟩))
    (first
      | (go_at_call_of 33 (Value.slice pa a.out.length ca); refine (sjoined_any pa a.out ca _ ?_ ha2 sa).mono ?_; (go_split_ands; exact Rows2.ra (by assumption)); rintro e w1 ⟨rfl, hbx⟩)
      | (go_at_call_of 33 (Value.slice pb b.out.length cb); refine (sjoined_any pb b.out cb _ ?_ hb2 sb).mono ?_; (go_split_ands; exact Rows2.rb (by assumption)); rintro e w1 ⟨rfl, hbx⟩)
      | (go_at_call 32; refine (hasPrefix_l _ _ _).mono ?_; rintro e w' ⟨rfl, rfl⟩))
  go_wp2
  go_ret
  exact ⟨rfl, (by go_split_ands; exact Rows2.be (by assumption))⟩
end Go.Proofs.YtkjdigojajcgkaaGreatDoor
