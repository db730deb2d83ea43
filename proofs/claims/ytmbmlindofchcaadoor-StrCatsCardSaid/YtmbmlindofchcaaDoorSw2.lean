/- Walks of layer 3: strings one behind the other. -/
import Derived.Test.YtmbmlindofchcaaDoorSw1
import Derived.Test.YtmbmlindofchcaaDoorSc
import Derived.Lib.AppendStr
namespace Go.Proofs.YtmbmlindofchcaaDoor
open Go.RowKit
open St
set_option linter.unusedVariables false
attribute [local go_sem] ext_mk size_mk toList_mk get_mk take_drop_len take_tail_len ByteArray.mk_append_mk

/-- At this address lie these strings, one behind the other. -/
def StrsAt (w : World) (a : Option Addr) (ls : List (List UInt8)) : Prop :=
  ls.length ≤ 140737488355328 ∧ (ls = [] ∨ ∃ b off, a = some ⟨b, off, none⟩ ∧ b < w.heap.size ∧ ∀ i, i < ls.length → w.cell? ⟨b, off + i, none⟩ = some (.string ⟨(ls.getD i []).toArray⟩))

theorem join_l (b off : Nat) (ls : List (List UInt8)) (cap : Nat) (w : World) (hc : ∀ i, i < ls.length → w.cell? ⟨b, off + i, none⟩ = some (.string ⟨(ls.getD i []).toArray⟩)) (hb : b < w.heap.size) (hn : ls.length ≤ 140737488355328) (hcap : ls.length ≤ cap) (hl : ls.flatten.length ≤ 65536) :
    Calls Tryd.prog 27 #[.slice (some ⟨b, off, none⟩) ls.length cap, .string ⟨#[]⟩] w fun e w' => e = .returned (.string ⟨ls.flatten.toArray⟩) ∧ Below w.heap.size w w' := by
  have hm : (ls.map fun l => (⟨l.toArray⟩ : ByteArray)).map (·.data.toList) = ls := by rw [List.map_map]; simp [Function.comp_def]
  have h := Tryd.strings_Join b off cap (ls.map fun l => (⟨l.toArray⟩ : ByteArray)) ⟨#[]⟩ w (by
    intro j x hx
    rw [List.getElem?_map] at hx
    cases hg : ls[j]? with
    | none => rw [hg] at hx; cases hx
    | some l =>
      rw [hg] at hx; cases hx
      obtain ⟨h1, h2⟩ := List.getElem?_eq_some_iff.1 hg
      have := hc j h1
      rw [this]; simp [List.getD, hg]) hb (by rw [List.length_map]; exact hn) (by rw [List.length_map]; exact hcap) (by rw [hm]; show (Lib.join ls []).length ≤ _; rw [join_nil]; omega)
  rw [List.length_map, hm] at h
  rw [show Lib.join ls (⟨#[]⟩ : ByteArray).data.toList = ls.flatten from join_nil ls] at h
  exact h

set_option maxHeartbeats 400000 in
theorem cat_nil (a : Option Addr) (cap : Nat) (w : World) :
    Calls Tryd.prog 10 #[.slice a 0 cap] w fun e w' => e = .returned (.tuple #[.string ⟨#[]⟩, .int .i64 0]) ∧ w = w' := by
  have hj : ∀ W : World, Calls Tryd.prog 27 #[.slice a 0 cap, .string ⟨#[]⟩] W fun e w' => e = .returned (.string ⟨#[]⟩) ∧ W = w' := fun W => (Tryd.strings_Join_none a cap ⟨#[]⟩ W).mono fun e w' ⟨he, hw⟩ => ⟨he, hw.symm⟩
  have HJ := Lib.hid hj
  clear hj
  go_enter Tryd.func10, Tryd.ntmps10
  go_wp2_with fail
  go_loop [11] (fun i => i = .int .i64 0) (fun _ => 0)
  case atStart => rfl
  case round =>
    obtain rfl := hrel
    go_wp2_with fail
    go_loop [4, 21] (fun s i => s = .int .i64 0 ∧ i = .int .i64 0) (fun _ _ => 0)
    case atStart => exact ⟨rfl, rfl⟩
    case round =>
      obtain ⟨rfl, rfl⟩ := hrel
      go_wp2_with (go_at_call 27; refine (HJ.out _).mono ?_; rintro e w' ⟨rfl, rfl⟩)
      go_ret2
      exact ⟨rfl, rfl⟩

set_option maxHeartbeats 800000 in
theorem cat_full (b off : Nat) (ls : List (List UInt8)) (cap : Nat) (w : World) (hm : ls.length ≤ 140737488355328) (hcap : ls.length ≤ cap) (hb : b < w.heap.size) (hc : ∀ i, i < ls.length → w.cell? ⟨b, off + i, none⟩ = some (.string ⟨(ls.getD i []).toArray⟩)) :
    Calls Tryd.prog 10 #[.slice (some ⟨b, off, none⟩) ls.length cap] w fun e w' => e = .returned (.tuple #[.string ⟨(catB ls).toArray⟩, .int .i64 (catE ls)]) ∧ Below w.heap.size w w' := by
  have HC := Lib.hid hc
  clear hc
  go_enter Tryd.func10, Tryd.ntmps10
  go_wp2_with fail
  go_loop [11] (fun i => ∃ k : Nat, k ≤ ls.length ∧ i = .int .i64 k ∧ (ls.take k).all rightB = true) (fun i => ls.length - (intOf i).toNat)
  case atStart => exact ⟨0, Nat.zero_le _, rfl, rfl⟩
  case round =>
    obtain ⟨k, hk, rfl, ha⟩ := hrel
    by_cases hlt : k < ls.length
    · obtain ⟨x, hx⟩ : ∃ x, ls.getD k [] = x := ⟨_, rfl⟩
      have hcell := HC.out k hlt
      rw [hx] at hcell
      have HX := Lib.hid hx
      have HA := Lib.hid ha
      clear ha hx
      cases hr : rightB x
      · have HE := Lib.hid (cat_no hlt HX.out hr)
        go_wp2_with (go_at_call 25; refine (sright_any _ _).mono ?_; rintro e w' ⟨rfl, rfl⟩)
        go_ret2
        exact ⟨ret_text HE.out.1.symm HE.out.2.symm, Below.refl _ _⟩
      · have HA2 := Lib.hid (all_next hlt HX.out HA.out hr)
        go_wp2_with (go_at_call 25; refine (sright_any _ _).mono ?_; rintro e w' ⟨rfl, rfl⟩)
        go_round
        case rel => exact ⟨k + 1, by omega, by go_num, HA2.out⟩
        case measure => simp [intOf]; omega
    · obtain rfl : k = ls.length := by omega
      rw [List.take_length] at ha
      have HA := Lib.hid ha
      clear ha
      go_wp2_with fail
      go_loop [4, 21] (fun n i => ∃ k t : Nat, k ≤ ls.length ∧ i = .int .i64 k ∧ n = .int .i64 t ∧ t ≤ 65536 ∧ (ls.take k).flatten.length = t) (fun _ i => ls.length - (intOf i).toNat)
      case atStart => exact ⟨0, 0, Nat.zero_le _, rfl, rfl, by omega, rfl⟩
      case round =>
        obtain ⟨k, t, hk, rfl, rfl, ht, hs⟩ := hrel
        have HS := Lib.hid hs
        clear hs
        by_cases hlt : k < ls.length
        · obtain ⟨x, hx⟩ : ∃ x, ls.getD k [] = x := ⟨_, rfl⟩
          have hcell := HC.out k hlt
          rw [hx] at hcell
          have hx6 : x.length ≤ 65536 := right_le (List.all_eq_true.1 HA.out x (by rw [← hx]; simp [List.getD, hlt]))
          have HX := Lib.hid hx
          clear hx
          by_cases ho : 65536 < t + x.length
          · have HE := Lib.hid (cat_over hlt HX.out HA.out (by rw [HS.out]; exact ho))
            go_wp2_with fail
            go_ret2
            exact ⟨ret_text HE.out.1.symm HE.out.2.symm, Below.refl _ _⟩
          · have HF := Lib.hid (flat_next hlt HX.out)
            go_wp2_with fail
            go_round
            case rel => exact ⟨k + 1, t + x.length, by omega, by go_num, by go_num, by omega, by rw [HF.out, List.length_append, HS.out]⟩
            case measure => simp [intOf]; omega
        · obtain rfl : k = ls.length := by omega
          have hs := HS.out
          rw [List.take_length] at hs
          have HE := Lib.hid (cat_end HA.out (by omega))
          have HJ := Lib.hid (join_l b off ls cap w HC.out hb hm hcap (by omega))
          clear hs
          go_wp2_with (go_at_call 27; refine (HJ.out).mono ?_; rintro e w1 ⟨rfl, hb1⟩)
          go_ret2
          exact ⟨ret_text HE.out.1.symm HE.out.2.symm, hb1⟩

theorem cat_any (a : Option Addr) (ls : List (List UInt8)) (cap : Nat) (w : World) (h : StrsAt w a ls) (hcap : ls.length ≤ cap) :
    Calls Tryd.prog 10 #[.slice a ls.length cap] w fun e w' => e = .returned (.tuple #[.string ⟨(catB ls).toArray⟩, .int .i64 (catE ls)]) ∧ Below w.heap.size w w' := by
  obtain ⟨hm, rfl | ⟨b, off, rfl, hb, hc⟩⟩ := h
  · exact (cat_nil a cap w).mono fun e w' ⟨he, hw⟩ => ⟨he, hw ▸ Below.refl _ _⟩
  · exact cat_full b off ls cap w hm hcap hb hc
end Go.Proofs.YtmbmlindofchcaaDoor
