/- Walks of layer 21: lines and texts, on both sides. -/
import Derived.Test.YtkjdigojajcgkaaGreatDoorPw5
import Derived.Laws.RangeAny
import Derived.Deep.QuietTactic
import Derived.BigQuiet
namespace Go.Proofs.YtkjdigojajcgkaaGreatDoor
open Go.RowKit
open Pt (Oc)
set_option linter.unusedVariables false
attribute [local go_sem] ext_mk size_mk toList_mk get_mk take_drop_len take_tail_len ByteArray.mk_append_mk List.append_toArray

/-- what lines are, of a row whose strings they are -/
def SplitAt (l : List UInt8) (k from_ : Nat) (done : List (List UInt8)) : Prop := from_ ≤ k ∧ Pt.pieces (l.take k) = done ++ [(l.take k).drop from_]

theorem SplitAt.start (l : List UInt8) : SplitAt l 0 0 [] := ⟨Nat.le_refl _, rfl⟩

theorem SplitAt.nl {l : List UInt8} {k f : Nat} {d : List (List UInt8)} (h : SplitAt l k f d) (hx : l[k]? = some 10) : SplitAt l (k + 1) (k + 1) (d ++ [(l.take k).drop f]) := by
  refine ⟨Nat.le_refl _, ?_⟩
  rw [St.take_snoc hx, Pt.pieces_snoc_nl, h.2]
  have : (l.take k ++ [10]).drop (k + 1) = [] := by
    have hlt := (List.getElem?_eq_some_iff.1 hx).1
    apply List.drop_eq_nil_of_le; simp; omega
  rw [this]

theorem SplitAt.no {l : List UInt8} {k f : Nat} {d : List (List UInt8)} {x : UInt8} (h : SplitAt l k f d) (hx : l[k]? = some x) (hne : x ≠ 10) : SplitAt l (k + 1) f d := by
  have hlt := (List.getElem?_eq_some_iff.1 hx).1
  refine ⟨by have := h.1; omega, ?_⟩
  rw [St.take_snoc hx, Pt.pieces_snoc hne _ h.2]
  rw [List.drop_append_of_le_length (by have := h.1; simp; omega)]

theorem SplitAt.len {l : List UInt8} {k f : Nat} {d : List (List UInt8)} (h : SplitAt l k f d) : d.length ≤ k := by
  have h1 := Pt.pieces_len (l.take k)
  rw [h.2] at h1; simp at h1; omega

theorem eq_of_takes {la lb : List (List UInt8)} (h : la.length = lb.length) (ht : la.take la.length = lb.take la.length) : la = lb := by
  rw [List.take_length] at ht
  rw [ht, h, List.take_length]

theorem ne_at {la lb : List (List UInt8)} {k : Nat} {x y : List UInt8} (hx : la.getD k [] = x) (hy : lb.getD k [] = y) (h : x ≠ y) : la ≠ lb := fun e => h (by rw [← hx, ← hy, e])

theorem strs_cell {w : World} {a : Option Addr} {ls : List (List UInt8)} (h : StrsAt w a ls) {k : Nat} (hk : k < ls.length) : ∃ b off, a = some ⟨b, off, none⟩ ∧ b < w.heap.size ∧ w.cell? ⟨b, off + k, none⟩ = some (.string ⟨(ls.getD k []).toArray⟩) := by
  rcases h.2 with h | ⟨b, off, ha, hb, hc⟩
  · rw [h] at hk; simp at hk
  · exact ⟨b, off, ha, hb, hc k hk⟩

set_option maxHeartbeats 1600000 in
set_option maxRecDepth 100000 in
theorem texts_any (pa pb : Option Addr) (la lb : List (List UInt8)) (ca cb : Nat) (w : World) (ha : StrsAt w pa la) (hb : StrsAt w pb lb) (hca : la.length ≤ ca) (hcb : lb.length ≤ cb) :
    Calls Tryz.prog 12 #[.slice pa la.length ca, .slice pb lb.length cb] w fun e w' => e = .returned (.bool (decide (la = lb))) ∧ Drew w w' := by
  have hma := ha.1
  have hmb := hb.1
  have HA := Lib.hid ha
  have HB := Lib.hid hb
  clear ha hb
  by_cases hlen : la.length = lb.length
  · have k1 : ((la.length : Int) == (lb.length : Int)) = true := by simp; omega
    have k2 : ((la.length : Int) != (lb.length : Int)) = false := by simp; omega
    have HL := Lib.hid hlen
    have hle : la.length ≤ lb.length := by omega
    clear hlen
    go_enter Tryz.func12, Tryz.ntmps12
    go_wp2
    go_loopw [5] (fun vi wr => ∃ k : Nat, vi = .int .i64 k ∧ k ≤ la.length ∧ Drew w wr ∧ Hid (la.take k = lb.take k)) (fun vi _ => la.length - (intOf vi).toNat)
    case atStart => exact ⟨0, rfl, by omega, Drew.refl _, Lib.hid rfl⟩
    case round =>
      obtain ⟨k, rfl, hk, hd, HT⟩ := hrel
      by_cases hlt : k < la.length
      · obtain ⟨b1, o1, rfl, _, h1⟩ := strs_cell HA.out hlt
        obtain ⟨b2, o2, rfl, _, h2⟩ := strs_cell HB.out (show k < lb.length by omega)
        obtain ⟨x, hx⟩ : ∃ x, la.getD k [] = x := ⟨_, rfl⟩
        obtain ⟨y, hy⟩ : ∃ x, lb.getD k [] = x := ⟨_, rfl⟩
        rw [hx] at h1
        rw [hy] at h2
        have c1 : wr.cell? ⟨b1, o1 + k, none⟩ = some (.string ⟨x.toArray⟩) := by obtain ⟨n, rfl⟩ := hd; exact h1
        have c2 : wr.cell? ⟨b2, o2 + k, none⟩ = some (.string ⟨y.toArray⟩) := by obtain ⟨n, rfl⟩ := hd; exact h2
        have HX := Lib.hid hx
        have HY := Lib.hid hy
        have kb : (k : Int) < (lb.length : Int) := by omega
        clear h1 h2 hx hy
        by_cases hxy : x = y
        · subst hxy
          have HN := Lib.hid (show la.take (k + 1) = lb.take (k + 1) by rw [St.lsnoc hlt HX.out, St.lsnoc (show k < lb.length by omega) HY.out, HT.out])
          go_wp2_with fail
          go_quiet (fail)
          go_wp2_with fail
          go_roundw
          case rel => exact ⟨k + 1, by go_num, by omega, hd.more _, HN⟩
          case measure => simp [intOf]; omega
        · have k3 : (x == y) = false := by simp [hxy]
          have k4 : (x != y) = true := by simp [hxy]
          have HE := Lib.hid (show decide (la = lb) = false from decide_eq_false (ne_at HX.out HY.out hxy))
          go_wp2_with fail
          go_quiet (fail)
          go_wp2_with fail
          go_ret
          exact ⟨ret_bool HE.out.symm, hd.more _⟩
      · obtain rfl : k = la.length := by omega
        have HE := Lib.hid (show decide (la = lb) = true from decide_eq_true (eq_of_takes HL.out HT.out))
        go_wp2_with fail
        go_ret
        exact ⟨ret_bool HE.out.symm, hd⟩
  · have k1 : ((la.length : Int) == (lb.length : Int)) = false := by simp; omega
    have k2 : ((la.length : Int) != (lb.length : Int)) = true := by simp; omega
    have HE := Lib.hid (show decide (la = lb) = false from decide_eq_false (fun e => hlen (by rw [e])))
    go_enter Tryz.func12, Tryz.ntmps12
    go_wp2
    go_ret
    exact ⟨ret_bool HE.out.symm, Drew.refl _⟩

/-! the runes of a text: none is a line's end that is not one byte -/

theorem decode_tail (s : ByteArray) (i : Nat) (j : Nat) (h1 : 1 ≤ j) (h2 : j < (Utf8.decode s i).2) : i + j < s.size ∧ 128 ≤ (s.get! (i + j)).toNat := by
  simp only [Utf8.decode] at h2
  (repeat' split at h2) <;> simp only [Bool.and_eq_true, decide_eq_true_eq, beq_iff_eq] at * <;> first | omega | skip
  · obtain rfl : j = 1 := by omega
    omega
  · rcases (by omega : j = 1 ∨ j = 2) with rfl | rfl <;> omega
  · rcases (by omega : j = 1 ∨ j = 2 ∨ j = 3) with rfl | rfl | rfl <;> omega

theorem get_list (l : List UInt8) (i : Nat) (h : i < l.length) : (⟨l.toArray⟩ : ByteArray).get! i = l[i] := by
  have := get_at (⟨l.toArray⟩ : ByteArray) i (by rw [size_mk]; exact h)
  rw [Nat.add_zero] at this
  rw [this]; rfl

theorem nl_next {l : List UInt8} {k : Nat} {x : UInt8} (h : l[k]? = some x) : Pt.hasNl (l.take (k + 1)) = (Pt.hasNl (l.take k) || (x == 10)) := by
  rw [St.take_snoc h]; unfold Pt.hasNl; simp

theorem nl_skip {l : List UInt8} {k : Nat} (h : k < l.length) (h8 : 128 ≤ (l[k]).toNat) : Pt.hasNl (l.take (k + (Utf8.decode ⟨l.toArray⟩ k).2)) = Pt.hasNl (l.take k) ∧ k + (Utf8.decode ⟨l.toArray⟩ k).2 ≤ l.length := by
  have hd := decode_high ⟨l.toArray⟩ k (by rw [size_mk]; exact h) (by rw [get_mk]; exact h8)
  have ht := decode_tail ⟨l.toArray⟩ k
  obtain ⟨d, hdd⟩ : ∃ d, (Utf8.decode ⟨l.toArray⟩ k).2 = d := ⟨_, rfl⟩
  rw [hdd] at hd ht ⊢
  have hle : k + d ≤ l.length := by
    by_cases h1 : d = 1
    · omega
    · have := (ht (d - 1) (by omega) (by omega)).1
      rw [size_mk] at this; omega
  refine ⟨?_, hle⟩
  rw [List.take_add]
  unfold Pt.hasNl
  rw [List.any_append]
  have : ((l.drop k).take d).any (· == 10) = false := by
    rw [List.any_eq_false]
    intro y hy
    obtain ⟨j, hj, rfl⟩ := List.getElem_of_mem hy
    simp at hj
    have e : ((l.drop k).take d)[j] = l[k + j] := by simp
    rw [e]
    have h10 : 128 ≤ (l[k + j]).toNat := by
      rcases Nat.eq_zero_or_pos j with rfl | hp
      · exact h8
      · have := (ht j hp (by omega)).2
        rw [get_list l (k + j) (by omega)] at this; exact this
    intro he
    have : l[k + j] = 10 := by simpa using he
    rw [this] at h10; simp at h10
  rw [this, Bool.or_false]
end Go.Proofs.YtkjdigojajcgkaaGreatDoor
