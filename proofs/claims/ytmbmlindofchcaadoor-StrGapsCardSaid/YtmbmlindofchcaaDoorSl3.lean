/- Laws of layer 3, walked: a gap stands for nothing. -/
import Derived.Test.YtmbmlindofchcaaDoorSl2
namespace Go.Proofs.YtmbmlindofchcaaDoor
open Go.RowKit
open St
set_option linter.unusedVariables false
attribute [local go_sem] ext_mk size_mk toList_mk get_mk take_drop_len take_tail_len ByteArray.mk_append_mk List.append_toArray

theorem readE_nn (l : List UInt8) : 0 ≤ readE l := by rcases readE_bd l with h | h | h <;> omega

theorem gap_all {a b g : List UInt8} (ha : readE a = 0) (hb : readE b = 0) (hl : (readB a).length + (readB b).length ≤ 65536) (hbl : g.all isBl = true) :
    rdAll (a ++ 92 :: 32 :: (g ++ 92 :: b)) = (readB a ++ readB b, none) ∧ readB (a ++ 92 :: 32 :: (g ++ 92 :: b)) = readB a ++ readB b ∧ readE (a ++ 92 :: 32 :: (g ++ 92 :: b)) = 0 := by
  have e : a ++ 92 :: 32 :: (g ++ 92 :: b) = a ++ 92 :: ((32 :: g) ++ 92 :: b) := by simp
  have h32 : (32 :: g).all isBl = true := by rw [List.all_cons, hbl]; decide
  rw [e]
  exact ⟨rd_gap (read_ok ha).1 (read_ok hb).1 (by simp) h32, (gap_read ha hb hl (by simp) h32).1, (gap_read ha hb hl (by simp) h32).2⟩

set_option maxHeartbeats 1600000 in
set_option maxRecDepth 100000 in
theorem strGaps_walk (a b : List UInt8) (n : Int) (w : World) (hv : StrVars w) (ha : a.length ≤ 140737488351232) (hb : b.length ≤ 140737488351232) (hn : 0 ≤ n ∧ n ≤ 255) :
    Calls Tryd.prog 5 #[.string ⟨a.toArray⟩, .string ⟨b.toArray⟩, .int .u8 n] w fun e w' => e = .returned (.bool true) ∧ Below w.heap.size w w' := by
  have HV := Lib.hid hv
  have HX := Lib.hid hv.1
  obtain ⟨n0, n1⟩ := hn
  have r1 := fun W hW => w47 (l := a) (w := W) hW ha
  have r2 := fun W hW => w47 (l := b) (w := W) hW hb
  have hib := readN_bd a
  obtain ⟨i, hi⟩ : ∃ i, readN a = i := ⟨_, rfl⟩
  obtain ⟨j, hj⟩ : ∃ i, readN b = i := ⟨_, rfl⟩
  rw [hi] at r1 hib
  rw [hj] at r2
  obtain ⟨i0, i1⟩ := hib
  obtain ⟨x, hx⟩ : ∃ i, readB a = i := ⟨_, rfl⟩
  obtain ⟨y, hy⟩ : ∃ i, readB b = i := ⟨_, rfl⟩
  by_cases hbad : readE a ≠ 0 ∨ readE b ≠ 0 ∨ 65536 < x.length + y.length
  · have ki : decide (0 ≤ i) = true := decide_eq_true i0
    obtain ⟨e, he⟩ : ∃ e, readE a = e := ⟨_, rfl⟩
    obtain ⟨f, hf⟩ : ∃ e, readE b = e := ⟨_, rfl⟩
    rw [he, hx] at r1
    rw [hf, hy] at r2
    rw [he, hf] at hbad
    by_cases h0 : e = 0
    · subst h0
      by_cases h1 : f = 0
      · subst h1
        have hxy : 65536 < x.length + y.length := by omega
        have x6 : x.length ≤ 65536 := by rw [← hx]; exact (read_ok he).2.2
        have y6 : y.length ≤ 65536 := by rw [← hy]; exact (read_ok hf).2.2
        have kxy : decide (65536 < (x.length : Int) + (y.length : Int)) = true := decide_eq_true (by omega)
        have R1 := Lib.hid r1
        have R2 := Lib.hid r2
        clear hv r1 r2 hi hj hx hy hbad he hf
        go_enter Tryd.func5, Tryd.ntmps5
        go_wp2_with (first | (go_at_call 13; (with_reducible refine (R1.out _ HX.out).mono ?_); rintro e w1 ⟨rfl, hb1⟩) | (go_at_call 13; (with_reducible refine (R2.out _ (HX.out.below hb1)).mono ?_); rintro e w2 ⟨rfl, hb2⟩) | (go_at_call 12; refine (alive_any _ ((HV.out.below hb1).below hb2)).mono ?_; rintro e w9 ⟨rfl, hb9⟩))
        go_ret
        exact ⟨rfl, (hb1.trans (hb2.mono hb1.size)).trans (hb9.mono (Nat.le_trans hb1.size hb2.size))⟩
      · have k1 : (f == 0) = false := by simp; omega
        have k2 : (f != 0) = true := by simp; omega
        have R1 := Lib.hid r1
        have R2 := Lib.hid r2
        clear hv r1 r2 hi hj hx hy hbad he hf
        go_enter Tryd.func5, Tryd.ntmps5
        go_wp2_with (first | (go_at_call 13; (with_reducible refine (R1.out _ HX.out).mono ?_); rintro e w1 ⟨rfl, hb1⟩) | (go_at_call 13; (with_reducible refine (R2.out _ (HX.out.below hb1)).mono ?_); rintro e w2 ⟨rfl, hb2⟩) | (go_at_call 12; refine (alive_any _ ((HV.out.below hb1).below hb2)).mono ?_; rintro e w9 ⟨rfl, hb9⟩))
        go_ret
        exact ⟨rfl, (hb1.trans (hb2.mono hb1.size)).trans (hb9.mono (Nat.le_trans hb1.size hb2.size))⟩
    · have k1 : (e == 0) = false := by simp; omega
      have k2 : (e != 0) = true := by simp; omega
      have R1 := Lib.hid r1
      have R2 := Lib.hid r2
      clear hv r1 r2 hi hj hx hy hbad he hf
      go_enter Tryd.func5, Tryd.ntmps5
      go_wp2_with (first | (go_at_call 13; (with_reducible refine (R1.out _ HX.out).mono ?_); rintro e w1 ⟨rfl, hb1⟩) | (go_at_call 13; (with_reducible refine (R2.out _ (HX.out.below hb1)).mono ?_); rintro e w2 ⟨rfl, hb2⟩) | (go_at_call 12; refine (alive_any _ ((HV.out.below hb1).below hb2)).mono ?_; rintro e w9 ⟨rfl, hb9⟩))
      go_ret
      exact ⟨rfl, (hb1.trans (hb2.mono hb1.size)).trans (hb9.mono (Nat.le_trans hb1.size hb2.size))⟩
  · have hea : readE a = 0 := by omega
    have heb : readE b = 0 := by omega
    have hxy : x.length + y.length ≤ 65536 := by omega
    have hg := fun g => gap_all (g := g) hea heb (by rw [hx, hy]; exact hxy)
    rw [hea, hx] at r1
    rw [heb, hy] at r2
    rw [hx, hy] at hg
    have R1 := Lib.hid r1
    have R2 := Lib.hid r2
    have HG := Lib.hid hg
    clear hv r1 r2 hi hj hx hy hbad hea heb hg
    obtain ⟨m, hm⟩ : ∃ m : Nat, n % 9 = (m : Int) := ⟨(n % 9).toNat, by omega⟩
    have hm9 : m < 9 := by omega
    go_enter Tryd.func5, Tryd.ntmps5
    go_wp2_with (first | (go_at_call 13; (with_reducible refine (R1.out _ HX.out).mono ?_); rintro e w1 ⟨rfl, hb1⟩) | (go_at_call 13; (with_reducible refine (R2.out _ (HX.out.below hb1)).mono ?_); rintro e w2 ⟨rfl, hb2⟩))
    go_loop [13, 14] (fun vg vk => ∃ (k : Nat) (g : List UInt8), vk = .int .i64 k ∧ k ≤ m ∧ vg = .string ⟨(92 :: 32 :: g).toArray⟩ ∧ g.length = k ∧ g.all isBl = true) (fun _ vk => m - (intOf vk).toNat)
    case atStart => exact ⟨0, [], rfl, by omega, rfl, rfl, rfl⟩
    case round =>
      obtain ⟨k, g, rfl, hk, rfl, hgl, hgb⟩ := hrel
      have HB := Lib.hid hgb
      have HL := Lib.hid hgl
      have hg8 : g.length ≤ 8 := by omega
      clear hgb hgl
      by_cases hkm : k < m
      · rcases (by omega : (k : Int) % 3 = 0 ∨ (k : Int) % 3 = 1 ∨ (k : Int) % 3 = 2) with h3 | h3 | h3
        · go_wp2_with fail
          refine ⟨⟨k + 1, g ++ [10], (by first | rfl | (congr 1; omega)), by omega, rfl, by rw [List.length_append, HL.out]; rfl, by rw [List.all_append, HB.out]; decide⟩, by simp [intOf]; omega⟩
        · go_wp2_with fail
          refine ⟨⟨k + 1, g ++ [9], (by first | rfl | (congr 1; omega)), by omega, rfl, by rw [List.length_append, HL.out]; rfl, by rw [List.all_append, HB.out]; decide⟩, by simp [intOf]; omega⟩
        · go_wp2_with fail
          refine ⟨⟨k + 1, g ++ [32], (by first | rfl | (congr 1; omega)), by omega, rfl, by rw [List.length_append, HL.out]; rfl, by rw [List.all_append, HB.out]; decide⟩, by simp [intOf]; omega⟩
      · obtain rfl : k = m := by omega
        have HQ := Lib.hid (HG.out g HB.out)
        have rr := fun W hW => sread_any (a ++ 92 :: 32 :: (g ++ 92 :: b)) W hW (by simp; omega) (.inr ⟨_, HQ.out.1, by simp; omega⟩)
        obtain ⟨nn, hnn⟩ : ∃ q, readN (a ++ 92 :: 32 :: (g ++ 92 :: b)) = q := ⟨_, rfl⟩
        rw [HQ.out.2.1, HQ.out.2.2, hnn] at rr
        have RR := Lib.hid rr
        clear rr hnn
        go_wp2_with (first | (go_at_call 13; (with_reducible refine (RR.out _ ((HX.out.below hb1).below hb2)).mono ?_); rintro e w3 ⟨rfl, hb3⟩) | (go_at_call 12; refine (alive_any _ (((HV.out.below hb1).below hb2).below hb3)).mono ?_; rintro e w9 ⟨rfl, hb9⟩))
        go_ret
        exact ⟨rfl, ((hb1.trans (hb2.mono hb1.size)).trans (hb3.mono (Nat.le_trans hb1.size hb2.size))).trans (hb9.mono (Nat.le_trans hb1.size (Nat.le_trans hb2.size hb3.size)))⟩
end Go.Proofs.YtmbmlindofchcaaDoor
