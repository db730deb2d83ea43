/- Walks of layer 21: lines as a text, in the program. -/
import Derived.Test.YtkjdigojajcgkaaGreatDoorPw9
namespace Go.Proofs.YtkjdigojajcgkaaGreatDoor
open Go.RowKit
open Pt (Oc)
set_option linter.unusedVariables false
attribute [local go_sem] ext_mk size_mk toList_mk get_mk take_drop_len take_tail_len ByteArray.mk_append_mk List.append_toArray

theorem join_nl (b off : Nat) (ls : List (List UInt8)) (cap : Nat) (w : World) (hc : ∀ i, i < ls.length → w.cell? ⟨b, off + i, none⟩ = some (.string ⟨(ls.getD i []).toArray⟩)) (hb : b < w.heap.size) (hn : ls.length ≤ 140737488355328) (hcap : ls.length ≤ cap) (hl : (Lib.join ls [10]).length ≤ 140737488351232) :
    Calls Tryz.prog 21 #[.slice (some ⟨b, off, none⟩) ls.length cap, .string ⟨#[10]⟩] w fun e w' => e = .returned (.string ⟨(Lib.join ls [10]).toArray⟩) ∧ Below w.heap.size w w' := by
  have hm : (ls.map fun l => (⟨l.toArray⟩ : ByteArray)).map (·.data.toList) = ls := by rw [List.map_map]; simp [Function.comp_def]
  have h := Tryz.strings_Join b off cap (ls.map fun l => (⟨l.toArray⟩ : ByteArray)) ⟨#[10]⟩ w (by
    intro j x hx
    rw [List.getElem?_map] at hx
    cases hg : ls[j]? with
    | none => rw [hg] at hx; cases hx
    | some l =>
      rw [hg] at hx; cases hx
      obtain ⟨h1, h2⟩ := List.getElem?_eq_some_iff.1 hg
      have := hc j h1
      rw [this]; simp [List.getD, hg]) hb (by rw [List.length_map]; exact hn) (by rw [List.length_map]; exact hcap) (by rw [hm]; show (Lib.join ls [10]).length ≤ _; omega)
  rw [List.length_map, hm] at h
  exact h

theorem join_none (a : Option Addr) (cap : Nat) (w : World) : Calls Tryz.prog 21 #[.slice a 0 cap, .string ⟨#[10]⟩] w fun e w' => e = .returned (.string ⟨#[]⟩) ∧ w = w' :=
  (Tryz.strings_Join_none a cap ⟨#[10]⟩ w).mono fun e w' ⟨he, hw⟩ => ⟨he, hw.symm⟩

theorem rep_zero (w : World) : Calls Tryz.prog 22 #[.string ⟨#[10]⟩, .int .i64 0] w fun e w' => e = .returned (.string ⟨#[]⟩) ∧ w = w' :=
  (Tryz.strings_Repeat_zero ⟨#[10]⟩ w).mono fun e w' ⟨he, hw⟩ => ⟨he, hw.symm⟩

theorem rep_one (w : World) : Calls Tryz.prog 22 #[.string ⟨#[10]⟩, .int .i64 1] w fun e w' => e = .returned (.string ⟨#[10]⟩) ∧ w = w' :=
  (Tryz.strings_Repeat_one ⟨#[10]⟩ w).mono fun e w' ⟨he, hw⟩ => ⟨he, hw.symm⟩

theorem rep_min (n : Nat) (h : 0 < n) (w : World) : Calls Tryz.prog 22 #[.string ⟨#[10]⟩, .int .i64 (min (n : Int) 1)] w fun e w' => e = .returned (.string ⟨#[10]⟩) ∧ w = w' := by
  rw [show min (n : Int) 1 = 1 by omega]; exact rep_one w

set_option maxHeartbeats 4000000 in
set_option maxRecDepth 8000 in
theorem stext_any (pa : Option Addr) (ls : List (List UInt8)) (cap : Nat) (w : World) (h : StrsAt w pa ls) (hcap : ls.length ≤ cap) (hs0 : ∀ l ∈ ls, l.length ≤ 140737488351232) :
    Calls Tryz.prog 10 #[.slice pa ls.length cap] w fun e w' => e = .returned (.tuple #[.string ⟨(Pt.textB ls).toArray⟩, .int .i64 (Pt.textE ls)]) ∧ Below w.heap.size w w' := by
  have HA := Lib.hid h
  have HS0 := Lib.hid hs0
  have hm := h.1
  clear h hs0
  go_enter Tryz.func10, Tryz.ntmps10
  go_wp2_with fail
  go_loopw [13] (fun vi wr => ∃ k : Nat, vi = .int .i64 k ∧ k ≤ ls.length ∧ Below w.heap.size w wr ∧ Hid ((ls.take k).any Pt.hasNl = false)) (fun vi _ => ls.length - (intOf vi).toNat)
  case atStart => exact ⟨0, rfl, by omega, Below.refl _ _, Lib.hid rfl⟩
  case round =>
    obtain ⟨k, rfl, hk, hbw, HR⟩ := hrel
    by_cases hlt : k < ls.length
    · obtain ⟨b, off, rfl, hb, hc⟩ := strs_cell HA.out hlt
      obtain ⟨x, hx⟩ : ∃ x, ls.getD k [] = x := ⟨_, rfl⟩
      rw [hx] at hc
      have hcell : wr.cell? ⟨b, off + k, none⟩ = some (.string ⟨x.toArray⟩) := by rw [hbw.cell (p := ⟨b, off + k, none⟩) hb]; exact hc
      have hxl := HS0.out x (mem_getD hlt hx)
      have HX := Lib.hid hx
      clear hx hc
      obtain ⟨W, hW⟩ : ∃ W, wr = W := ⟨_, rfl⟩
      subst hW
      go_wp2_with fail
      go_loopw [8] (fun _ wq => ∃ j : Nat, j ≤ x.length ∧ wq = wr.iter ⟨x.toArray⟩ j ∧ Hid (Pt.hasNl (x.take j) = false)) (fun _ wq => x.length - wq.iterPos wr.heap.size)
      case atStart => exact ⟨0, by omega, rfl, Lib.hid rfl⟩
      case round =>
        obtain ⟨j, hj, rfl, HJ⟩ := hrel
        by_cases hjl : j < x.length
        · obtain ⟨y, hyl⟩ : ∃ y, x[j] = y := ⟨_, rfl⟩
          have hy : x[j]? = some y := by rw [List.getElem?_eq_getElem hjl, hyl]
          have hn := nl_next hy
          by_cases hy8 : y.toNat < 128
          · have hnx : ∀ ty, (Instr.next (.pointer (some ⟨wr.heap.size, 0, none⟩)) true ty).run Tryz.prog (wr.iter ⟨x.toArray⟩ j) = .ok (.tuple #[.bool true, .int .i64 j, .int .i32 y.toNat]) (wr.iter ⟨x.toArray⟩ (j + 1)) := fun ty => by
              have := run_next_ascii (P := Tryz.prog) wr ⟨x.toArray⟩ j ty (by rw [size_mk]; exact hjl) (by rw [get_mk, hyl]; exact hy8)
              rw [get_mk, hyl] at this; exact this
            by_cases h10 : y = 10
            · subst h10
              have hnx2 : ∀ ty, (Instr.next (.pointer (some ⟨wr.heap.size, 0, none⟩)) true ty).run Tryz.prog (wr.iter ⟨x.toArray⟩ j) = .ok (.tuple #[.bool true, .int .i64 j, .int .i32 10]) (wr.iter ⟨x.toArray⟩ (j + 1)) := fun ty => hnx ty
              have HE := Lib.hid (text_nl hlt HX.out (has_of_take (k := j + 1) (by rw [hn]; simp)))
              clear hn hy hyl hnx hy8
              go_wp2_with fail
              go_ret2
              exact ⟨ret_text HE.out.1.symm HE.out.2.symm, hbw.alloc hbw.size _⟩
            · have HN := Lib.hid (show Pt.hasNl (x.take (j + 1)) = false by rw [hn, HJ.out]; simp [h10])
              have k1 : ((y.toNat : Int) == 10) = false := St.nbeq (y := 10) h10
              clear hn hy h10 hyl hy8
              go_wp2_with fail
              go_roundw
              case rel => exact ⟨j + 1, by omega, rfl, HN⟩
              case measure => simp; omega
          · have hsk := nl_skip hjl (by rw [hyl]; omega)
            have hg := decode_high ⟨x.toArray⟩ j (by rw [size_mk]; exact hjl) (by rw [get_mk, hyl]; omega)
            have hg2 := decode_le ⟨x.toArray⟩ j
            have hnx : ∀ ty, (Instr.next (.pointer (some ⟨wr.heap.size, 0, none⟩)) true ty).run Tryz.prog (wr.iter ⟨x.toArray⟩ j) = .ok (.tuple #[.bool true, .int .i64 j, .int .i32 (Utf8.decode ⟨x.toArray⟩ j).1]) (wr.iter ⟨x.toArray⟩ (j + (Utf8.decode ⟨x.toArray⟩ j).2)) := fun ty => run_next_any wr ⟨x.toArray⟩ j ty (by rw [size_mk]; exact hjl)
            generalize (Utf8.decode ⟨x.toArray⟩ j).1 = c at hnx hg hg2
            generalize (Utf8.decode ⟨x.toArray⟩ j).2 = d at hnx hg hsk
            obtain ⟨hg, hg1⟩ := hg
            have HN := Lib.hid (show Pt.hasNl (x.take (j + d)) = false by rw [hsk.1, HJ.out])
            have hle := hsk.2
            have k1 : ((c : Int) == 10) = false := by simp; omega
            clear hn hy hyl hy8 hsk hg2
            go_wp2_with fail
            go_roundw
            case rel => exact ⟨j + d, hle, rfl, HN⟩
            case measure => simp; omega
        · obtain rfl : j = x.length := by omega
          have hj2 := HJ.out
          rw [List.take_length] at hj2
          have HN := Lib.hid (any_snoc hlt HX.out HR.out hj2)
          have hnx : ∀ ty, (Instr.next (.pointer (some ⟨wr.heap.size, 0, none⟩)) true ty).run Tryz.prog (wr.iter ⟨x.toArray⟩ x.length) = _ := fun ty => run_next_end wr ⟨x.toArray⟩ x.length ty (by rw [size_mk]; omega)
          clear hj2
          go_wp2_with fail
          go_roundw
          case rel => exact ⟨k + 1, by go_num, by omega, hbw.alloc hbw.size _, HN⟩
          case measure => simp [intOf]; omega
    · obtain rfl : k = ls.length := by omega
      have ha := HR.out
      rw [List.take_length] at ha
      have HALL := Lib.hid ha
      clear ha
      by_cases hmany : 65536 < ls.length
      · have HE := Lib.hid (text_many HALL.out hmany)
        go_wp2_with fail
        go_ret2
        exact ⟨ret_text HE.out.1.symm HE.out.2.symm, hbw⟩
      · go_wp2_with fail
        go_loopw [4, 30] (fun vn vi wq => ∃ (k t : Nat), vi = .int .i64 k ∧ vn = .int .i64 t ∧ k ≤ ls.length ∧ t ≤ 1048576 ∧ wq = wr ∧ Hid (Pt.textLen (ls.take k) = t)) (fun _ vi _ => ls.length - (intOf vi).toNat)
        case atStart => exact ⟨0, 0, rfl, rfl, by omega, by omega, rfl, Lib.hid rfl⟩
        case round =>
          obtain ⟨k, t, rfl, rfl, hk, ht, rfl, HT⟩ := hrel
          by_cases hlt : k < ls.length
          · obtain ⟨b, off, rfl, hb, hc⟩ := strs_cell HA.out hlt
            obtain ⟨x, hx⟩ : ∃ x, ls.getD k [] = x := ⟨_, rfl⟩
            rw [hx] at hc
            have hxl := HS0.out x (mem_getD hlt hx)
            have hnx := textLen_next hlt hx
            rw [HT.out] at hnx
            have hle := textLen_take ls (k + 1)
            have HX := Lib.hid hx
            have HN := Lib.hid hnx
            have hcell : wr.cell? ⟨b, off + k, none⟩ = some (.string ⟨x.toArray⟩) := by rw [hbw.cell (p := ⟨b, off + k, none⟩) hb]; exact hc
            clear hx hc
            by_cases hlong : 1048576 < t + x.length + 1
            · have HE := Lib.hid (text_long HALL.out (by omega) (by omega))
              have kl : decide ((1048576 : Int) < (t : Int) + ((x.length : Int) + 1)) = true := decide_eq_true (by omega)
              clear hle hnx hlong
              go_wp2_with fail
              go_ret2
              exact ⟨ret_text HE.out.1.symm HE.out.2.symm, hbw⟩
            · have kl : decide ((1048576 : Int) < (t : Int) + ((x.length : Int) + 1)) = false := decide_eq_false (by omega)
              have HL2 := Lib.hid (show t + x.length < 1048576 by omega)
              clear hle hnx hlong
              go_wp2_with fail
              go_roundw
              case rel => exact ⟨k + 1, t + x.length + 1, by go_num, by go_num, by omega, by have := HL2.out; omega, trivial, Lib.hid (HN.out.trans (by rw [Nat.add_assoc]))⟩
              case measure => simp [intOf]; omega
          · obtain rfl : k = ls.length := by omega
            have htl := HT.out
            rw [List.take_length] at htl
            have HE := Lib.hid (text_fine HALL.out (by omega) (by omega))
            rcases Nat.eq_zero_or_pos ls.length with h0 | h0
            · obtain rfl : ls = [] := List.eq_nil_of_length_eq_zero h0
              have HT0 : Hid (Pt.textL [] = []) := Lib.hid rfl
              go_wp2_with (first | (go_at_call 21; refine (join_none pa cap _).mono ?_; rintro e w' ⟨rfl, rfl⟩) | (go_at_call 22; refine (rep_zero _).mono ?_; rintro e w' ⟨rfl, rfl⟩))
              go_ret2
              exact ⟨ret_text HE.out.1.symm HE.out.2.symm, hbw⟩
            · have hne : ls ≠ [] := by rintro rfl; cases h0
              have hj := Pt.join_text hne
              have hl2 : (Lib.join ls [10]).length + 1 = t := by rw [← htl, ← Pt.textL_len, ← hj]; simp
              have HJ2 := Lib.hid hj
              rcases HA.out.2 with hnil | ⟨b, off, rfl, hb, hc⟩
              · exact absurd hnil hne
              have HC : Hid (∀ W, Below w.heap.size w W → _) := Lib.hid fun W hW => join_nl b off ls cap W (fun i hi => by rw [hW.cell (p := ⟨b, off + i, none⟩) hb]; exact hc i hi) (by have := hW.size; omega) hm hcap (by omega)
              obtain ⟨J, hJ⟩ : ∃ J, Lib.join ls [10] = J := ⟨_, rfl⟩
              rw [hJ] at HC HJ2 hl2
              have hmin : ls.length = 1 ∨ 1 < ls.length := by omega
              clear hj hc hJ htl
              go_wp2_with (first | (go_at_call 21; refine (HC.out _ hbw).mono ?_; rintro e w1 ⟨rfl, hb1⟩) | (go_at_call 22; refine (rep_min _ h0 _).mono ?_; rintro e w' ⟨rfl, rfl⟩))
              go_ret2
              exact ⟨ret_text (HJ2.out.trans HE.out.1.symm) HE.out.2.symm, hbw.trans (hb1.mono hbw.size)⟩
end Go.Proofs.YtkjdigojajcgkaaGreatDoor
