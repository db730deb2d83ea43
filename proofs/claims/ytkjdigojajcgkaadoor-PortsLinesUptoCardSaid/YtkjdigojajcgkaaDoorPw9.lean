/- Walks of layer 21: lines as a text, on both sides. -/
import Derived.Test.YtkjdigojajcgkaaDoorPw8
import Derived.Test.YtkjdigojajcgkaaDoorAp
namespace Go.Proofs.YtkjdigojajcgkaaDoor
open Go.RowKit
open Pt (Oc)
set_option linter.unusedVariables false
attribute [local go_sem] ext_mk size_mk toList_mk get_mk take_drop_len take_tail_len ByteArray.mk_append_mk List.append_toArray

theorem text_nl {ls : List (List UInt8)} {k : Nat} {x : List UInt8} (h : k < ls.length) (hx : ls.getD k [] = x) (hn : Pt.hasNl x = true) : Pt.textB ls = [] ∧ Pt.textE ls = 1 := by
  have : Pt.textE ls = 1 := by unfold Pt.textE; rw [if_pos (by rw [List.any_eq_true]; exact ⟨x, mem_getD h hx, hn⟩)]
  exact ⟨by unfold Pt.textB; rw [this]; rfl, this⟩

theorem text_many {ls : List (List UInt8)} (h : ls.any Pt.hasNl = false) (hl : 65536 < ls.length) : Pt.textB ls = [] ∧ Pt.textE ls = 3 := by
  have : Pt.textE ls = 3 := by unfold Pt.textE; rw [if_neg (by rw [h]; simp), if_pos hl]
  exact ⟨by unfold Pt.textB; rw [this]; rfl, this⟩

theorem textLen_next {ls : List (List UInt8)} {k : Nat} {x : List UInt8} (h : k < ls.length) (hx : ls.getD k [] = x) : Pt.textLen (ls.take (k + 1)) = Pt.textLen (ls.take k) + (x.length + 1) := by
  rw [St.lsnoc h hx]; unfold Pt.textLen; simp

theorem textLen_take (ls : List (List UInt8)) (k : Nat) : Pt.textLen (ls.take k) ≤ Pt.textLen ls := by
  have h : Pt.textLen (ls.take k ++ ls.drop k) = Pt.textLen (ls.take k) + Pt.textLen (ls.drop k) := by unfold Pt.textLen; rw [List.map_append, List.sum_append]
  rw [List.take_append_drop] at h; omega

theorem text_long {ls : List (List UInt8)} (h : ls.any Pt.hasNl = false) (hl : ls.length ≤ 65536) (hn : 1048576 < Pt.textLen ls) : Pt.textB ls = [] ∧ Pt.textE ls = 2 := by
  have : Pt.textE ls = 2 := by unfold Pt.textE; rw [if_neg (by rw [h]; simp), if_neg (by omega), if_pos hn]
  exact ⟨by unfold Pt.textB; rw [this]; rfl, this⟩

theorem text_fine {ls : List (List UInt8)} (h : ls.any Pt.hasNl = false) (hl : ls.length ≤ 65536) (hn : Pt.textLen ls ≤ 1048576) : Pt.textB ls = Pt.textL ls ∧ Pt.textE ls = 0 := by
  have : Pt.textE ls = 0 := by unfold Pt.textE; rw [if_neg (by rw [h]; simp), if_neg (by omega), if_neg (by omega)]
  exact ⟨by unfold Pt.textB; rw [if_pos this], this⟩

theorem any_snoc {ls : List (List UInt8)} {k : Nat} {x : List UInt8} (h : k < ls.length) (hx : ls.getD k [] = x) (ha : (ls.take k).any Pt.hasNl = false) (hn : Pt.hasNl x = false) : (ls.take (k + 1)).any Pt.hasNl = false := by
  rw [St.lsnoc h hx, List.any_append, ha]; simp [hn]

theorem has_of_take {l : List UInt8} {k : Nat} (h : Pt.hasNl (l.take k) = true) : Pt.hasNl l = true := by
  unfold Pt.hasNl at h ⊢
  rw [List.any_eq_true] at h ⊢
  obtain ⟨x, hx, h2⟩ := h
  exact ⟨x, List.mem_of_mem_take hx, h2⟩

set_option maxHeartbeats 4000000 in
set_option maxRecDepth 100000 in
theorem rtext_any2 (pa : Option Addr) (ls : List (List UInt8)) (cap : Nat) (w : World) (h : StrsAt w pa ls) (hs0 : ∀ l ∈ ls, l.length ≤ 140737488351232) :
    Calls Tryd.prog 20 #[.slice pa ls.length cap] w fun e w' => e = .returned (.tuple #[.string ⟨(Pt.textB ls).toArray⟩, .int .i64 (Pt.textE ls)]) ∧ Below w.heap.size w w' := by
  have HA := Lib.hid h
  have HS0 := Lib.hid hs0
  have hm := h.1
  clear h hs0
  go_enter Tryd.func20, Tryd.ntmps20
  go_wp2_with fail
  go_loopw [5] (fun vi wr => ∃ k : Nat, vi = .int .i64 k ∧ k ≤ ls.length ∧ Drew w wr ∧ Hid ((ls.take k).any Pt.hasNl = false)) (fun vi _ => ls.length - (intOf vi).toNat)
  case atStart => exact ⟨0, rfl, by omega, Drew.refl _, Lib.hid rfl⟩
  case round =>
    obtain ⟨k, rfl, hk, hd, HR⟩ := hrel
    by_cases hlt : k < ls.length
    · obtain ⟨b, off, rfl, _, hc⟩ := strs_cell HA.out hlt
      obtain ⟨x, hx⟩ : ∃ x, ls.getD k [] = x := ⟨_, rfl⟩
      rw [hx] at hc
      have hcell : wr.cell? ⟨b, off + k, none⟩ = some (.string ⟨x.toArray⟩) := by obtain ⟨n, rfl⟩ := hd; exact hc
      have hxl := HS0.out x (mem_getD hlt hx)
      have HX := Lib.hid hx
      clear hx
      go_wp2_with fail
      go_loopw [6] (fun vj wq => ∃ j : Nat, vj = .int .i64 j ∧ j ≤ x.length ∧ Drew w wq ∧ Hid (Pt.hasNl (x.take j) = false)) (fun vj _ => x.length - (intOf vj).toNat)
      case atStart => exact ⟨0, rfl, by omega, hd, Lib.hid rfl⟩
      case round =>
        obtain ⟨j, rfl, hj, hd2, HJ⟩ := hrel
        have hcell2 : wr.cell? ⟨b, off + k, none⟩ = some (.string ⟨x.toArray⟩) := by obtain ⟨n, rfl⟩ := hd2; exact hc
        by_cases hjl : j < x.length
        · obtain ⟨y, hyl⟩ : ∃ y, x[j] = y := ⟨_, rfl⟩
          have hy : x[j]? = some y := by rw [List.getElem?_eq_getElem hjl, hyl]
          have hn := nl_next hy
          by_cases h10 : y = 10
          · subst h10
            have HE := Lib.hid (text_nl hlt HX.out (has_of_take (k := j + 1) (by rw [hn]; simp)))
            clear hn hy
            go_wp2_with fail
            go_ret2
            exact ⟨ret_text HE.out.1.symm HE.out.2.symm, hd2.below⟩
          · have HN := Lib.hid (show Pt.hasNl (x.take (j + 1)) = false by rw [hn, HJ.out]; simp [h10])
            have k1 : ((y.toNat : Int) == 10) = false := St.nbeq (y := 10) h10
            clear hn hy h10
            go_wp2_with fail
            go_roundw
            case rel => exact ⟨j + 1, by go_num, by omega, hd2, HN⟩
            case measure => simp [intOf]; omega
        · obtain rfl : j = x.length := by omega
          have hj2 := HJ.out
          rw [List.take_length] at hj2
          have HN := Lib.hid (any_snoc hlt HX.out HR.out hj2)
          go_wp2_with fail
          go_roundw
          case rel => exact ⟨k + 1, by go_num, by omega, hd2, HN⟩
          case measure => simp [intOf]; omega
    · obtain rfl : k = ls.length := by omega
      have ha := HR.out
      rw [List.take_length] at ha
      have HALL := Lib.hid ha
      clear ha
      by_cases hmany : 65536 < ls.length
      · have HE := Lib.hid (text_many HALL.out hmany)
        go_wp2_with fail
        go_ret2
        exact ⟨ret_text HE.out.1.symm HE.out.2.symm, hd.below⟩
      · go_wp2_with fail
        go_loopw [4, 7, 8] (fun vn vb vi wr => ∃ (k t : Nat), vi = .int .i64 k ∧ vn = .int .i64 t ∧ k ≤ ls.length ∧ t ≤ 1048576 ∧ OwnB wr w.heap.size vb (Pt.textL (ls.take k)) ∧ Below w.heap.size w wr ∧ Hid (Pt.textLen (ls.take k) = t)) (fun _ _ vi _ => ls.length - (intOf vi).toNat)
        case atStart => exact ⟨0, 0, rfl, rfl, by omega, by omega, OwnB.nil _ _, hd.below, Lib.hid rfl⟩
        case round =>
          obtain ⟨k, t, rfl, rfl, hk, ht, hown, hbw, HT⟩ := hrel
          have hsz := hbw.size
          by_cases hlt : k < ls.length
          · obtain ⟨b, off, rfl, hb, hc⟩ := strs_cell HA.out hlt
            obtain ⟨x, hx⟩ : ∃ x, ls.getD k [] = x := ⟨_, rfl⟩
            rw [hx] at hc
            have hcell : wr.cell? ⟨b, off + k, none⟩ = some (.string ⟨x.toArray⟩) := by rw [hbw.cell (p := ⟨b, off + k, none⟩) hb]; exact hc
            have hxl := HS0.out x (mem_getD hlt hx)
            have hnx := textLen_next hlt hx
            rw [HT.out] at hnx
            have hle := textLen_take ls (k + 1)
            have htl := Pt.textL_len (ls.take k)
            rw [HT.out] at htl
            have HX := Lib.hid hx
            have HN := Lib.hid hnx
            have htl2 : (Pt.textL (ls.take k)).length ≤ 1048576 := by omega
            clear hx hc htl
            by_cases hlong : 1048576 < t + x.length + 1
            · have HE := Lib.hid (text_long HALL.out (by omega) (by omega))
              have hl2 : (1048576 : Int) < (t : Int) + (x.length : Int) + 1 := by omega
              clear hle hnx hlong
              go_wp2_with fail
              go_ret2
              exact ⟨ret_text HE.out.1.symm HE.out.2.symm, hbw⟩
            · have HF := Lib.hid (show Pt.textL (ls.take (k + 1)) = Pt.textL (ls.take k) ++ x ++ [10] by rw [St.lsnoc hlt HX.out, Pt.textL_snoc]; simp)
              have kl : decide ((1048576 : Int) < (t : Int) + (x.length : Int) + 1) = false := decide_eq_false (by omega)
              have HL2 := Lib.hid (show t + x.length < 1048576 by omega)
              have hxs : x.length ≤ 2000000 := by omega
              clear hle hnx hlong
              go_wp2_with (first | (at_builtin; refine app_more hown rfl _ _ rfl x rfl rfl (by omega) hsz ?_; intro v' w2 hown2 hb2; have hbw2 := hbw.trans hb2; have hsz2 := hbw2.size) | (at_builtin; refine app_one hown2 rfl _ _ rfl 10 _ rfl rfl (by simp; omega) hsz2 ?_; intro v3 w3 hown3 hb3))
              go_roundw
              case rel => exact ⟨k + 1, t + x.length + 1, by go_num, by go_num, by omega, by have := HL2.out; omega, by rw [HF.out]; exact hown3, hbw2.trans hb3, Lib.hid (HN.out.trans (by rw [Nat.add_assoc]))⟩
              case measure => simp [intOf]; omega
          · obtain rfl : k = ls.length := by omega
            rw [List.take_length] at hown
            have htl := HT.out
            rw [List.take_length] at htl
            have HE := Lib.hid (text_fine HALL.out (by omega) (by omega))
            have hcv := conv_own hown
            clear htl
            go_wp2_with fail
            go_ret2
            exact ⟨ret_text HE.out.1.symm HE.out.2.symm, hbw⟩
end Go.Proofs.YtkjdigojajcgkaaDoor
