/- Walks of layer 3: blanks, and what stands behind a backslash. -/
import Derived.Test.YtkjdigojajcgkaaGreatDoorSw5
namespace Go.Proofs.YtkjdigojajcgkaaGreatDoor
open Go.RowKit
open St
set_option linter.unusedVariables false
attribute [local go_sem] ext_mk size_mk toList_mk get_mk take_drop_len take_tail_len ByteArray.mk_append_mk

set_option maxHeartbeats 800000 in
theorem blank_c (c : Int) (w : World) : Calls Tryz.prog 104 #[.int .u8 c] w fun e w' => e = .returned (.bool (decide (c = 9 ∨ c = 10 ∨ c = 12 ∨ c = 13 ∨ c = 32))) ∧ w = w' := by
  by_cases h9 : c = 9
  · subst h9
    go_enter Tryz.func104, Tryz.ntmps104
    go_wp2
    go_ret
    exact ⟨rfl, rfl⟩
  by_cases h10 : c = 10
  · subst h10
    go_enter Tryz.func104, Tryz.ntmps104
    go_wp2
    go_ret
    exact ⟨rfl, rfl⟩
  by_cases h12 : c = 12
  · subst h12
    go_enter Tryz.func104, Tryz.ntmps104
    go_wp2
    go_ret
    exact ⟨rfl, rfl⟩
  by_cases h13 : c = 13
  · subst h13
    go_enter Tryz.func104, Tryz.ntmps104
    go_wp2
    go_ret
    exact ⟨rfl, rfl⟩
  by_cases h32 : c = 32
  · subst h32
    go_enter Tryz.func104, Tryz.ntmps104
    go_wp2
    go_ret
    exact ⟨rfl, rfl⟩
  have HE := Lib.hid (show decide (c = 9 ∨ c = 10 ∨ c = 12 ∨ c = 13 ∨ c = 32) = false from decide_eq_false (by omega))
  have n9 : (c == 9) = false := by simp; omega
  have n10 : (c == 10) = false := by simp; omega
  have n12 : (c == 12) = false := by simp; omega
  have n13 : (c == 13) = false := by simp; omega
  have n32 : (c == 32) = false := by simp; omega
  go_enter Tryz.func104, Tryz.ntmps104
  go_wp2
  go_ret
  exact ⟨ret_bool HE.out.symm, rfl⟩

set_option maxHeartbeats 800000 in
theorem rblank_c (c : Int) (w : World) : Calls Tryz.prog 78 #[.int .u8 c] w fun e w' => e = .returned (.bool (decide (c = 9 ∨ c = 10 ∨ c = 12 ∨ c = 13 ∨ c = 32))) ∧ w = w' := by
  by_cases h9 : c = 9
  · subst h9
    go_enter Tryz.func78, Tryz.ntmps78
    go_wp2
    go_ret
    exact ⟨rfl, rfl⟩
  by_cases h10 : c = 10
  · subst h10
    go_enter Tryz.func78, Tryz.ntmps78
    go_wp2
    go_ret
    exact ⟨rfl, rfl⟩
  by_cases h12 : c = 12
  · subst h12
    go_enter Tryz.func78, Tryz.ntmps78
    go_wp2
    go_ret
    exact ⟨rfl, rfl⟩
  by_cases h13 : c = 13
  · subst h13
    go_enter Tryz.func78, Tryz.ntmps78
    go_wp2
    go_ret
    exact ⟨rfl, rfl⟩
  by_cases h32 : c = 32
  · subst h32
    go_enter Tryz.func78, Tryz.ntmps78
    go_wp2
    go_ret
    exact ⟨rfl, rfl⟩
  have HE := Lib.hid (show decide (c = 9 ∨ c = 10 ∨ c = 12 ∨ c = 13 ∨ c = 32) = false from decide_eq_false (by omega))
  have n9 : (c == 9) = false := by simp; omega
  have n10 : (c == 10) = false := by simp; omega
  have n12 : (c == 12) = false := by simp; omega
  have n13 : (c == 13) = false := by simp; omega
  have n32 : (c == 32) = false := by simp; omega
  go_enter Tryz.func78, Tryz.ntmps78
  go_wp2
  go_ret
  exact ⟨ret_bool HE.out.symm, rfl⟩

theorem bl_any (x : UInt8) (w : World) : Calls Tryz.prog 104 #[.int .u8 (x.toNat : Int)] w fun e w' => e = .returned (.bool (isBl x)) ∧ w = w' := blank_c _ w

theorem rbl_any (x : UInt8) (w : World) : Calls Tryz.prog 78 #[.int .u8 (x.toNat : Int)] w fun e w' => e = .returned (.bool (isBl x)) ∧ w = w' := rblank_c _ w

theorem named_fin : ∀ n : Fin 256, (Lib.indexByte named (UInt8.ofNat n.val) = -1) ∨ (0 ≤ Lib.indexByte named (UInt8.ofNat n.val) ∧ Lib.indexByte named (UInt8.ofNat n.val) ≤ 6) := by decide +kernel

theorem named_bd (c : UInt8) : namedAt c = -1 ∨ (0 ≤ namedAt c ∧ namedAt c ≤ 6) := by
  have := named_fin ⟨c.toNat, c.toNat_lt⟩
  simp only [ofNat_toNat'] at this; exact this

theorem index_any (x : UInt8) (w : World) : Calls Tryz.prog 102 #[.string ⟨#[97, 98, 116, 110, 118, 102, 114]⟩, .int .u8 (x.toNat : Int)] w fun e w' => e = .returned (.int .i64 (namedAt x)) ∧ w = w' :=
  (Tryz.strings_IndexByte ⟨#[97, 98, 116, 110, 118, 102, 114]⟩ (x.toNat : Int) w).mono fun e w' ⟨he, hw⟩ => ⟨by rw [he]; unfold namedAt named; rw [show ((x.toNat : Int).toNat.toUInt8) = x from ofNat_toNat' x], hw.symm⟩

theorem numN_le {B : Int} {n : Nat} {r : List UInt8} {v : Nat} (h : numN B n r = some v) : v ≤ 255 := by
  unfold numN at h
  split at h
  next g => cases h; omega
  next => cases h

theorem num_to_some {v : Nat} {e : Ending} (h : NumR (some v) e) : e = .returned (.tuple #[.int .u8 (v : Int), .bool true]) := by
  obtain ⟨b, rfl, hb⟩ := h; rw [hb v rfl]; rfl

theorem num_to_none {e : Ending} (h : NumR none e) : ∃ b, e = .returned (.tuple #[.int .u8 b, .bool false]) := by
  obtain ⟨b, rfl, hb⟩ := h; exact ⟨b, rfl⟩

/-- what a backslash's text says: its bytes, and how long all that is -/
def saidT (l : List UInt8) : List UInt8 := match esc l.tail with | none => [] | some p => p.1

def saidN (l : List UInt8) : Int := match esc l.tail with | none => 0 | some p => (p.2 : Int) + 1

theorem said_none {l : List UInt8} (h : esc l.tail = none) : saidT l = [] ∧ saidN l = 0 := by unfold saidT saidN; rw [h]; exact ⟨rfl, rfl⟩

theorem said_some {l : List UInt8} {t : List UInt8} {n : Nat} (h : esc l.tail = some (t, n)) : saidT l = t ∧ saidN l = (n : Int) + 1 := by unfold saidT saidN; rw [h]; exact ⟨rfl, rfl⟩

theorem ret_said {l t : List UInt8} {n : Int} (h : saidT l = t ∧ saidN l = n) : Ending.returned (.tuple #[.string ⟨t.toArray⟩, .int .i64 n]) = .returned (.tuple #[.string ⟨(saidT l).toArray⟩, .int .i64 (saidN l)]) := by rw [h.1, h.2]

theorem tail_cons {l : List UInt8} (h : 1 < l.length) : l.tail = l[1] :: l.drop 2 := by
  cases l with
  | nil => simp at h
  | cons a l => cases l with
    | nil => simp at h
    | cons b l => rfl

theorem while_split {p : UInt8 → Bool} {r : List UInt8} {j : Nat} (h : (r.take j).all p = true) (hx : ∀ x, r[j]? = some x → p x = false) : r.takeWhile p = r.take j ∧ r.dropWhile p = r.drop j := by
  induction r generalizing j with
  | nil => simp
  | cons y r ih =>
    cases j with
    | zero =>
      have := hx y rfl
      rw [List.takeWhile_cons, List.dropWhile_cons, this]; exact ⟨rfl, rfl⟩
    | succ j =>
      rw [List.take_succ_cons, List.all_cons, Bool.and_eq_true] at h
      have := ih h.2 (fun x hx' => hx x hx')
      rw [List.takeWhile_cons, List.dropWhile_cons, if_pos h.1, if_pos h.1, this.1, this.2]; exact ⟨rfl, rfl⟩

theorem gap_yes {r : List UInt8} {j : Nat} (h : (r.take j).all isBl = true) (hx : r[j]? = some 92) : escGap r = some ([], j + 1) := by
  have hw := while_split h (fun x hx' => by rw [hx] at hx'; cases hx'; exact isBl_no92)
  obtain ⟨h1, h2⟩ := List.getElem?_eq_some_iff.1 hx
  unfold escGap
  rw [hw.1, hw.2, List.head?_drop, hx, if_pos rfl, List.length_take, Nat.min_eq_left (by omega)]

theorem gap_no {r : List UInt8} {j : Nat} (h : (r.take j).all isBl = true) (hx : ∀ x, r[j]? = some x → isBl x = false ∧ x ≠ 92) : escGap r = none := by
  have hw := while_split h (fun x hx' => (hx x hx').1)
  unfold escGap
  rw [hw.2, List.head?_drop]
  cases hg : r[j]? with
  | none => rfl
  | some x => rw [if_neg]; intro he; cases he; exact (hx 92 hg).2 rfl

theorem all_snoc {p : UInt8 → Bool} {r : List UInt8} {j : Nat} {x : UInt8} (h : (r.take j).all p = true) (hx : r[j]? = some x) (hp : p x = true) : (r.take (j + 1)).all p = true := by
  rw [take_snoc hx, List.all_append, h]; simp [hp]
end Go.Proofs.YtkjdigojajcgkaaGreatDoor
