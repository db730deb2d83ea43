/- Walks of layer 21: what was printed, one behind the other; beginnings. -/
import Derived.Test.YtkjdigojajcgkaaDoorSw2
import Derived.Test.YtkjdigojajcgkaaDoorBy
import Derived.Test.YtkjdigojajcgkaaDoorPr
import Derived.Deep.RegionHeld3
namespace Go.Proofs.YtkjdigojajcgkaaDoor
open Go.RowKit
open Pt (Oc)
set_option linter.unusedVariables false
attribute [local go_sem] ext_mk size_mk toList_mk get_mk take_drop_len take_tail_len ByteArray.mk_append_mk List.append_toArray

theorem sjoined_any (a : Option Addr) (ls : List (List UInt8)) (cap : Nat) (w : World) (h : StrsAt w a ls) (hcap : ls.length ≤ cap) (hl : ls.flatten.length ≤ 140737488351232) :
    Calls Tryd.prog 16 #[.slice a ls.length cap] w fun e w' => e = .returned (.string ⟨ls.flatten.toArray⟩) ∧ Below w.heap.size w w' := by
  obtain ⟨hm, rfl | ⟨b, off, rfl, hb, hc⟩⟩ := h
  · have hj : ∀ W : World, Calls Tryd.prog 29 #[.slice a 0 cap, .string ⟨#[]⟩] W fun e w' => e = .returned (.string ⟨#[]⟩) ∧ W = w' := fun W => (Tryd.strings_Join_none a cap ⟨#[]⟩ W).mono fun e w' ⟨he, hw⟩ => ⟨he, hw.symm⟩
    have HJ := Lib.hid hj
    clear hj
    go_enter Tryd.func16, Tryd.ntmps16
    go_wp2_with (go_at_call 29; refine (HJ.out _).mono ?_; rintro e w' ⟨rfl, rfl⟩)
    go_ret
    exact ⟨rfl, Below.refl _ _⟩
  · have HJ := Lib.hid (join_l b off ls cap w hc hb hm hcap hl)
    clear hc
    go_enter Tryd.func16, Tryd.ntmps16
    go_wp2_with (go_at_call 29; refine (HJ.out).mono ?_; rintro e w1 ⟨rfl, hb1⟩)
    go_ret
    exact ⟨rfl, hb1⟩

theorem flat_snoc {ls : List (List UInt8)} {k : Nat} {x : List UInt8} (h : k < ls.length) (hx : ls.getD k [] = x) : (ls.take (k + 1)).flatten = (ls.take k).flatten ++ x := St.flat_next h hx

theorem flat_part (ls : List (List UInt8)) (k : Nat) : (ls.take k).flatten.length ≤ ls.flatten.length := St.flat_le ls k

set_option maxHeartbeats 800000 in
theorem rjoined_any (a : Option Addr) (ls : List (List UInt8)) (cap : Nat) (w : World) (h : StrsAt w a ls) (hl : ls.flatten.length ≤ 140737488351232) :
    Calls Tryd.prog 22 #[.slice a ls.length cap] w fun e w' => e = .returned (.string ⟨ls.flatten.toArray⟩) ∧ Below w.heap.size w w' := by
  have HA := Lib.hid h
  have hm := h.1
  clear h
  go_enter Tryd.func22, Tryd.ntmps22
  go_wp2_with fail
  go_loopw [3, 4] (fun v i wr => ∃ k : Nat, k ≤ ls.length ∧ i = .int .i64 k ∧ OwnB wr w.heap.size v (ls.take k).flatten ∧ Below w.heap.size w wr) (fun _ i _ => ls.length - (intOf i).toNat)
  case atStart => exact ⟨0, Nat.zero_le _, rfl, OwnB.nil _ _, Below.refl _ _⟩
  case round =>
    obtain ⟨k, hk, rfl, hown, hbw⟩ := hrel
    have hsz := hbw.size
    by_cases hlt : k < ls.length
    · obtain ⟨x, hx⟩ : ∃ x, ls.getD k [] = x := ⟨_, rfl⟩
      obtain ⟨b, off, rfl, hb, hc⟩ : ∃ b off, a = some ⟨b, off, none⟩ ∧ b < w.heap.size ∧ ∀ i, i < ls.length → w.cell? ⟨b, off + i, none⟩ = some (.string ⟨(ls.getD i []).toArray⟩) := by
        rcases HA.out.2 with h | h
        · rw [h] at hlt; simp at hlt
        · exact h
      have hcell : wr.cell? ⟨b, off + k, none⟩ = some (.string ⟨x.toArray⟩) := by rw [hbw.cell (p := ⟨b, off + k, none⟩) hb, hc k hlt, hx]
      have hf := flat_snoc hlt hx
      have hle := flat_part ls (k + 1)
      rw [hf, List.length_append] at hle
      have HF := Lib.hid hf
      clear hc hx hf
      go_wp2_with (at_builtin; refine app_str rfl _ _ rfl w.heap.size _ (ls.take k).flatten x rfl hown rfl (by omega) hsz ?_; intro v' w1 hown1 hb1 _)
      go_roundw
      case rel => exact ⟨k + 1, by omega, by go_num, by rw [HF.out]; exact hown1, hbw.trans hb1⟩
      case measure => simp [intOf]; omega
    · obtain rfl : k = ls.length := by omega
      rw [List.take_length] at hown
      have hcv := conv_own hown
      go_wp2_with fail
      go_ret
      exact ⟨rfl, hbw⟩

/-- the value of an outcome -/
def OcAt (w : World) (v : Value) (o : Oc) : Prop := ∃ a cap, v = .agg #[.slice a o.out.length cap, .int .i64 o.st, .string ⟨o.exn.toArray⟩, .int .i64 o.steps] ∧ StrsAt w a o.out ∧ o.out.length ≤ cap

theorem strsAt_below {w w' : World} {a : Option Addr} {ls : List (List UInt8)} (h : StrsAt w a ls) (hb : Below w.heap.size w w') : StrsAt w' a ls := by
  obtain ⟨hm, h | ⟨b, off, ha, hlt, hc⟩⟩ := h
  · exact ⟨hm, .inl h⟩
  · exact ⟨hm, .inr ⟨b, off, ha, Nat.lt_of_lt_of_le hlt hb.size, fun i hi => by rw [hb.cell (p := ⟨b, off + i, none⟩) hlt]; exact hc i hi⟩⟩

theorem OcAt.below {w w' : World} {v : Value} {o : Oc} (h : OcAt w v o) (hb : Below w.heap.size w w') : OcAt w' v o := by
  obtain ⟨a, cap, h1, h2, h3⟩ := h
  exact ⟨a, cap, h1, strsAt_below h2 hb, h3⟩

/-- what a region with calls that make memory holds beside two boxed values' cells: the rows that they lead to -/
structure Rows2 (w : World) (n : Nat) (pa pb : Option Addr) (la lb : List (List UInt8)) (W : World) : Prop where
  lt : n + 1 < W.heap.size
  ra : StrsAt W pa la
  rb : StrsAt W pb lb
  be : Below w.heap.size w W

theorem Rows2.keep {w W W' : World} {n : Nat} {pa pb : Option Addr} {la lb : List (List UInt8)} (h : Rows2 w n pa pb la lb W) (hb : Below W.heap.size W W') : Rows2 w n pa pb la lb W' :=
  ⟨Nat.lt_of_lt_of_le h.lt hb.size, strsAt_below h.ra hb, strsAt_below h.rb hb, h.be.trans (hb.mono h.be.size)⟩

theorem Rows2.cell0 {w W W' : World} {n : Nat} {va : Value} {pa pb : Option Addr} {la lb : List (List UInt8)} (h : Rows2 w n pa pb la lb W) (h1 : W.cell? ⟨n, 0, none⟩ = some va) (hb : Below W.heap.size W W') : W'.cell? ⟨n, 0, none⟩ = some va := by
  rw [hb.cell (p := ⟨n, 0, none⟩) (show n < _ by have := h.lt; omega)]; exact h1

theorem Rows2.cell1 {w W W' : World} {n : Nat} {va : Value} {pa pb : Option Addr} {la lb : List (List UInt8)} (h : Rows2 w n pa pb la lb W) (h1 : W.cell? ⟨n + 1, 0, none⟩ = some va) (hb : Below W.heap.size W W') : W'.cell? ⟨n + 1, 0, none⟩ = some va := by
  rw [hb.cell (p := ⟨n + 1, 0, none⟩) h.lt]; exact h1

theorem Rows2.cellA {w W W' : World} {n k : Nat} {va : Value} {pa pb : Option Addr} {la lb : List (List UInt8)} (h : Rows2 w n pa pb la lb W) (h1 : W.cell? ⟨n, k, none⟩ = some va) (hb : Below W.heap.size W W') : W'.cell? ⟨n, k, none⟩ = some va := by
  rw [hb.cell (p := ⟨n, k, none⟩) (show n < _ by have := h.lt; omega)]; exact h1

theorem Rows2.cellB {w W W' : World} {n k : Nat} {va : Value} {pa pb : Option Addr} {la lb : List (List UInt8)} (h : Rows2 w n pa pb la lb W) (h1 : W.cell? ⟨n + 1, k, none⟩ = some va) (hb : Below W.heap.size W W') : W'.cell? ⟨n + 1, k, none⟩ = some va := by
  rw [hb.cell (p := ⟨n + 1, k, none⟩) h.lt]; exact h1

theorem start2 {w : World} {o1 o2 : Obj} {pa pb : Option Addr} {la lb : List (List UInt8)} (ha : StrsAt w pa la) (hb : StrsAt w pb lb) : Rows2 w w.heap.size pa pb la lb ((w.alloc o1).alloc o2).drew := by
  have g0 : Below w.heap.size w ((w.alloc o1).alloc o2).drew := (((Below.refl _ _).alloc (Nat.le_refl _) _).alloc (by simp) _).drew
  exact ⟨by simp, strsAt_below ha g0, strsAt_below hb g0, g0⟩

theorem hasPrefix_l (s p : List UInt8) (w : World) : Calls Tryd.prog 27 #[.string ⟨s.toArray⟩, .string ⟨p.toArray⟩] w fun e w' => e = .returned (.bool (Pt.begB p s)) ∧ w = w' :=
  (Tryd.strings_HasPrefix ⟨s.toArray⟩ ⟨p.toArray⟩ w).mono fun e w' ⟨he, hw⟩ => ⟨he, hw.symm⟩

set_option maxHeartbeats 800000 in
theorem begins_any (a b : Oc) (va vb : Value) (w : World) (ha : OcAt w va a) (hb : OcAt w vb b) (sa : a.out.flatten.length ≤ 140737488351232) (sb : b.out.flatten.length ≤ 140737488351232) :
    Calls Tryd.prog 11 #[va, vb] w fun e w' => e = .returned (.bool (Pt.begB a.out.flatten b.out.flatten)) ∧ Below w.heap.size w w' := by
  obtain ⟨pa, ca, rfl, ha1, ha2⟩ := ha
  obtain ⟨pb, cb, rfl, hb1, hb2⟩ := hb
  go_enter Tryd.func11, Tryd.ntmps11
  go_wp2_with fail
  go_region_held3 (fun w' => w'.cell? ⟨w.heap.size, 0, none⟩ = some (.slice pa a.out.length ca) ∧ w'.cell? ⟨w.heap.size + 1, 0, none⟩ = some (.slice pb b.out.length cb) ∧ Rows2 w w.heap.size pa pb a.out b.out w')
    (first
      | (go_keep; done)
      | (refine ⟨?_, ?_, start2 ha1 hb1⟩ <;> (go_keep; done))
      | (go_split_ands; exact ⟨Rows2.cell0 (by assumption) (by assumption) hbx, Rows2.cell1 (by assumption) (by assumption) hbx, Rows2.keep (by assumption) hbx⟩))
    (first
      | (go_at_call_of 16 (Value.slice pa a.out.length ca); refine (sjoined_any pa a.out ca _ ?_ ha2 sa).mono ?_; (go_split_ands; exact Rows2.ra (by assumption)); rintro e w1 ⟨rfl, hbx⟩)
      | (go_at_call_of 16 (Value.slice pb b.out.length cb); refine (sjoined_any pb b.out cb _ ?_ hb2 sb).mono ?_; (go_split_ands; exact Rows2.rb (by assumption)); rintro e w1 ⟨rfl, hbx⟩)
      | (go_at_call 27; refine (hasPrefix_l _ _ _).mono ?_; rintro e w' ⟨rfl, rfl⟩))
  go_wp2
  go_ret
  exact ⟨rfl, (by go_split_ands; exact Rows2.be (by assumption))⟩

set_option maxHeartbeats 800000 in
theorem rbegins_any (a b : Oc) (va vb : Value) (w : World) (ha : OcAt w va a) (hb : OcAt w vb b) (sa : a.out.flatten.length ≤ 140737488351232) (sb : b.out.flatten.length ≤ 140737488351232) :
    Calls Tryd.prog 12 #[va, vb] w fun e w' => e = .returned (.bool (Pt.begB a.out.flatten b.out.flatten)) ∧ Below w.heap.size w w' := by
  obtain ⟨pa, ca, rfl, ha1, ha2⟩ := ha
  obtain ⟨pb, cb, rfl, hb1, hb2⟩ := hb
  have hbt := Pt.begB_take a.out.flatten b.out.flatten
  obtain ⟨x, hx⟩ : ∃ x, a.out.flatten = x := ⟨_, rfl⟩
  obtain ⟨y, hy⟩ : ∃ y, b.out.flatten = y := ⟨_, rfl⟩
  have c1 := fun W h => rjoined_any pa a.out ca W h sa
  have c2 := fun W h => rjoined_any pb b.out cb W h sb
  rw [hx] at hbt sa c1 ⊢
  rw [hy] at hbt sb c2 ⊢
  have HB := Lib.hid hbt
  have C1 := Lib.hid c1
  have C2 := Lib.hid c2
  clear hx hy hbt c1 c2
  go_enter Tryd.func12, Tryd.ntmps12
  go_wp2_with fail
  go_region_held3 (fun w' => w'.cell? ⟨w.heap.size, 0, none⟩ = some (.slice pa a.out.length ca) ∧ w'.cell? ⟨w.heap.size + 1, 0, none⟩ = some (.slice pb b.out.length cb) ∧ Rows2 w w.heap.size pa pb a.out b.out w')
    (first
      | (go_keep; done)
      | (refine ⟨?_, ?_, start2 ha1 hb1⟩ <;> (go_keep; done))
      | (go_split_ands; exact ⟨Rows2.cell0 (by assumption) (by assumption) hbx, Rows2.cell1 (by assumption) (by assumption) hbx, Rows2.keep (by assumption) hbx⟩))
    (first
      | (go_at_call_of 22 (Value.slice pa a.out.length ca); refine (C1.out _ ?_).mono ?_; (go_split_ands; exact Rows2.ra (by assumption)); rintro e w1 ⟨rfl, hbx⟩)
      | (go_at_call_of 22 (Value.slice pb b.out.length cb); refine (C2.out _ ?_).mono ?_; (go_split_ands; exact Rows2.rb (by assumption)); rintro e w1 ⟨rfl, hbx⟩)
      )
  by_cases hl : x.length ≤ y.length
  · have kl : decide ((x.length : Int) ≤ (y.length : Int)) = true := decide_eq_true (by omega)
    go_wp2
    go_ret
    exact ⟨ret_bool (by rw [HB.out, decide_eq_true hl, Bool.true_and, Bool.eq_iff_iff]; simp), (by go_split_ands; exact Rows2.be (by assumption))⟩
  · have kl : decide ((x.length : Int) ≤ (y.length : Int)) = false := decide_eq_false (by omega)
    go_wp2
    go_ret
    exact ⟨ret_bool (by rw [HB.out, decide_eq_false hl]; simp), (by go_split_ands; exact Rows2.be (by assumption))⟩

set_option maxHeartbeats 400000 in
theorem ended_any (o : Oc) (v : Value) (w : World) (h : OcAt w v o) : Calls Tryd.prog 28 #[v] w fun e w' => e = .returned (.bool (Pt.endedB o.st)) ∧ Below w.heap.size w w' := by
  obtain ⟨pa, ca, rfl, _, _⟩ := h
  by_cases h1 : o.st = 1
  · have HE := Lib.hid (show Pt.endedB o.st = true from decide_eq_true (.inl h1))
    have k1 : (o.st == 1) = true := by simp; exact h1
    clear h1
    go_enter Tryd.func28, Tryd.ntmps28
    go_wp2
    go_ret
    exact ⟨ret_bool HE.out.symm, (Below.refl _ _).alloc (Nat.le_refl _) _⟩
  · have k1 : (o.st == 1) = false := by simp; exact h1
    by_cases h2 : o.st = 2
    · have HE := Lib.hid (show Pt.endedB o.st = true from decide_eq_true (.inr h2))
      have k2 : (o.st == 2) = true := by simp; exact h2
      clear h1 h2
      go_enter Tryd.func28, Tryd.ntmps28
      go_wp2
      go_ret
      exact ⟨ret_bool HE.out.symm, (Below.refl _ _).alloc (Nat.le_refl _) _⟩
    · have HE := Lib.hid (show Pt.endedB o.st = false from decide_eq_false (by omega))
      have k2 : (o.st == 2) = false := by simp; exact h2
      clear h1 h2
      go_enter Tryd.func28, Tryd.ntmps28
      go_wp2
      go_ret
      exact ⟨ret_bool HE.out.symm, (Below.refl _ _).alloc (Nat.le_refl _) _⟩

set_option maxHeartbeats 400000 in
theorem rended_any (o : Oc) (v : Value) (w : World) (h : OcAt w v o) : Calls Tryd.prog 15 #[v] w fun e w' => e = .returned (.bool (Pt.endedB o.st)) ∧ Below w.heap.size w w' := by
  obtain ⟨pa, ca, rfl, _, _⟩ := h
  by_cases h1 : o.st = 1
  · have HE := Lib.hid (show Pt.endedB o.st = true from decide_eq_true (.inl h1))
    have k1 : (o.st == 1) = true := by simp; exact h1
    clear h1
    go_enter Tryd.func15, Tryd.ntmps15
    go_wp2
    go_ret
    exact ⟨ret_bool HE.out.symm, (Below.refl _ _).alloc (Nat.le_refl _) _⟩
  · have k1 : (o.st == 1) = false := by simp; exact h1
    by_cases h2 : o.st = 2
    · have HE := Lib.hid (show Pt.endedB o.st = true from decide_eq_true (.inr h2))
      have k2 : (o.st == 2) = true := by simp; exact h2
      clear h1 h2
      go_enter Tryd.func15, Tryd.ntmps15
      go_wp2
      go_ret
      exact ⟨ret_bool HE.out.symm, (Below.refl _ _).alloc (Nat.le_refl _) _⟩
    · have HE := Lib.hid (show Pt.endedB o.st = false from decide_eq_false (by omega))
      have k2 : (o.st == 2) = false := by simp; exact h2
      clear h1 h2
      go_enter Tryd.func15, Tryd.ntmps15
      go_wp2
      go_ret
      exact ⟨ret_bool HE.out.symm, (Below.refl _ _).alloc (Nat.le_refl _) _⟩
end Go.Proofs.YtkjdigojajcgkaaDoor
