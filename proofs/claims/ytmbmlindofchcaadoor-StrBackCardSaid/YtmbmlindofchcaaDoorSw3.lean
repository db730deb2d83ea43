/- Walks of layer 3: strings one behind the other, in the reference. -/
import Derived.Test.YtmbmlindofchcaaDoorSw2
import Derived.Test.YtmbmlindofchcaaDoorBy
namespace Go.Proofs.YtmbmlindofchcaaDoor
open Go.RowKit
open St
set_option linter.unusedVariables false
attribute [local go_sem] ext_mk size_mk toList_mk get_mk take_drop_len take_tail_len ByteArray.mk_append_mk

set_option maxHeartbeats 400000 in
theorem rcat_nil (a : Option Addr) (cap : Nat) (w : World) :
    Calls Tryd.prog 11 #[.slice a 0 cap] w fun e w' => e = .returned (.tuple #[.string ⟨#[]⟩, .int .i64 0]) ∧ w = w' := by
  have hcv := conv_own (OwnB.nil w w.heap.size)
  go_enter Tryd.func11, Tryd.ntmps11
  go_wp2_with fail
  go_loop [5] (fun i => i = .int .i64 0) (fun _ => 0)
  case atStart => rfl
  case round =>
    obtain rfl := hrel
    go_wp2_with fail
    go_loop [4, 6, 7] (fun s b i => s = .int .i64 0 ∧ b = .slice none 0 0 ∧ i = .int .i64 0) (fun _ _ _ => 0)
    case atStart => exact ⟨rfl, rfl, rfl⟩
    case round =>
      obtain ⟨rfl, rfl, rfl⟩ := hrel
      go_wp2_with fail
      go_ret2
      exact ⟨rfl, rfl⟩

set_option maxHeartbeats 800000 in
theorem rcat_full (b off : Nat) (ls : List (List UInt8)) (cap : Nat) (w : World) (hm : ls.length ≤ 140737488355328) (hb : b < w.heap.size) (hc : ∀ i, i < ls.length → w.cell? ⟨b, off + i, none⟩ = some (.string ⟨(ls.getD i []).toArray⟩)) :
    Calls Tryd.prog 11 #[.slice (some ⟨b, off, none⟩) ls.length cap] w fun e w' => e = .returned (.tuple #[.string ⟨(catB ls).toArray⟩, .int .i64 (catE ls)]) ∧ Below w.heap.size w w' := by
  have HC := Lib.hid hc
  clear hc
  go_enter Tryd.func11, Tryd.ntmps11
  go_wp2_with fail
  go_loop [5] (fun i => ∃ k : Nat, k ≤ ls.length ∧ i = .int .i64 k ∧ (ls.take k).all rightB = true) (fun i => ls.length - (intOf i).toNat)
  case atStart => exact ⟨0, Nat.zero_le _, rfl, rfl⟩
  case round =>
    obtain ⟨k, hk, rfl, ha⟩ := hrel
    by_cases hlt : k < ls.length
    · obtain ⟨x, hx⟩ : ∃ x, ls.getD k [] = x := ⟨_, rfl⟩
      have hcell := HC.out k hlt
      rw [hx] at hcell
      have HX := Lib.hid hx
      have HA := Lib.hid ha
      clear ha hx
      cases hr : rightB x
      · have HE := Lib.hid (cat_no hlt HX.out hr)
        go_wp2_with (go_at_call 26; refine (srright_any _ _).mono ?_; rintro e w' ⟨rfl, rfl⟩)
        go_ret2
        exact ⟨ret_text HE.out.1.symm HE.out.2.symm, Below.refl _ _⟩
      · have HA2 := Lib.hid (all_next hlt HX.out HA.out hr)
        go_wp2_with (go_at_call 26; refine (srright_any _ _).mono ?_; rintro e w' ⟨rfl, rfl⟩)
        go_round
        case rel => exact ⟨k + 1, by omega, by go_num, HA2.out⟩
        case measure => simp [intOf]; omega
    · obtain rfl : k = ls.length := by omega
      rw [List.take_length] at ha
      have HA := Lib.hid ha
      clear ha
      go_wp2_with fail
      go_loopw [4, 6, 7] (fun n v i wr => ∃ k t : Nat, k ≤ ls.length ∧ i = .int .i64 k ∧ n = .int .i64 t ∧ t ≤ 65536 ∧ (ls.take k).flatten.length = t ∧ OwnB wr w.heap.size v (ls.take k).flatten ∧ Below w.heap.size w wr) (fun _ _ i _ => ls.length - (intOf i).toNat)
      case atStart => exact ⟨0, 0, Nat.zero_le _, rfl, rfl, by omega, rfl, OwnB.nil _ _, Below.refl _ _⟩
      case round =>
        rename_i v _ _
        obtain ⟨k, t, hk, rfl, rfl, ht, hs, hown, hbw⟩ := hrel
        have HS := Lib.hid hs
        have HO := Lib.hid hown
        clear hs hown
        by_cases hlt : k < ls.length
        · obtain ⟨x, hx⟩ : ∃ x, ls.getD k [] = x := ⟨_, rfl⟩
          have hcell : wr.cell? ⟨b, off + k, none⟩ = some (.string ⟨x.toArray⟩) := by rw [hbw.cell (p := ⟨b, off + k, none⟩) hb, HC.out k hlt, hx]
          have hx6 : x.length ≤ 65536 := right_le (List.all_eq_true.1 HA.out x (by rw [← hx]; simp [List.getD, hlt]))
          have HX := Lib.hid hx
          clear hx
          have hsz := hbw.size
          by_cases ho : 65536 < t + x.length
          · have HE := Lib.hid (cat_over hlt HX.out HA.out (by rw [HS.out]; exact ho))
            go_wp2_with fail
            go_ret2
            exact ⟨ret_text HE.out.1.symm HE.out.2.symm, hbw⟩
          · have HF := Lib.hid (flat_next hlt HX.out)
            have HL := Lib.hid (show (ls.take k).flatten.length + x.length ≤ 140737488355328 by rw [HS.out]; omega)
            go_wp2_with (at_builtin; refine app_str rfl _ _ rfl w.heap.size _ _ x rfl HO.out rfl HL.out hsz ?_; intro v' w1 hown1 hb1 _)
            have HO1 := Lib.hid hown1
            clear hown1
            go_wp2_with fail
            go_roundw
            case rel => exact ⟨k + 1, t + x.length, by omega, by go_num, by go_num, by omega, by rw [HF.out, List.length_append, HS.out], by rw [HF.out]; exact HO1.out, hbw.trans hb1⟩
            case measure => simp [intOf]; omega
        · obtain rfl : k = ls.length := by omega
          have hs := HS.out
          have ho := HO.out
          rw [List.take_length] at hs ho
          have HE := Lib.hid (cat_end HA.out (by omega))
          have hcv := conv_own ho
          clear hs ho
          go_wp2_with fail
          go_ret2
          exact ⟨ret_text HE.out.1.symm HE.out.2.symm, hbw⟩

theorem rcat_any (a : Option Addr) (ls : List (List UInt8)) (cap : Nat) (w : World) (h : StrsAt w a ls) :
    Calls Tryd.prog 11 #[.slice a ls.length cap] w fun e w' => e = .returned (.tuple #[.string ⟨(catB ls).toArray⟩, .int .i64 (catE ls)]) ∧ Below w.heap.size w w' := by
  obtain ⟨hm, rfl | ⟨b, off, rfl, hb, hc⟩⟩ := h
  · exact (rcat_nil a cap w).mono fun e w' ⟨he, hw⟩ => ⟨he, hw ▸ Below.refl _ _⟩
  · exact rcat_full b off ls cap w hm hb hc
end Go.Proofs.YtmbmlindofchcaaDoor
