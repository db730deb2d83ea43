/- Walks of layer 3: characters, parts, orders. -/
import Derived.Test.YtmbmlindofchcaaDoorChecked
import Derived.Test.YtmbmlindofchcaaDoorBase
import Derived.Test.YtmbmlindofchcaaDoorSx
import Derived.Test.YtmbmlindofchcaaDoorShelf
namespace Go.Proofs.YtmbmlindofchcaaDoor
open Go.RowKit
open St
set_option linter.unusedVariables false
attribute [local go_sem] ext_mk size_mk toList_mk get_mk take_drop_len take_tail_len ByteArray.mk_append_mk

set_option maxHeartbeats 400000 in
theorem sright_any (l : List UInt8) (w : World) :
    Calls Tryd.prog 25 #[.string ⟨l.toArray⟩] w fun e w' => e = .returned (.bool (rightB l)) ∧ w = w' := by
  by_cases h : l.length ≤ 65536
  · have k : decide ((l.length : Int) ≤ 65536) = true := decide_eq_true (by omega)
    go_enter Tryd.func25, Tryd.ntmps25
    go_wp2
    go_ret
    exact ⟨ret_bool (right_t h).symm, rfl⟩
  · have k : decide ((l.length : Int) ≤ 65536) = false := decide_eq_false (by omega)
    go_enter Tryd.func25, Tryd.ntmps25
    go_wp2
    go_ret
    exact ⟨ret_bool (right_f h).symm, rfl⟩

set_option maxHeartbeats 400000 in
theorem srright_any (l : List UInt8) (w : World) :
    Calls Tryd.prog 26 #[.string ⟨l.toArray⟩] w fun e w' => e = .returned (.bool (rightB l)) ∧ w = w' := by
  by_cases h : l.length ≤ 65536
  · have k : decide ((l.length : Int) ≤ 65536) = true := decide_eq_true (by omega)
    go_enter Tryd.func26, Tryd.ntmps26
    go_wp2
    go_ret
    exact ⟨ret_bool (right_t h).symm, rfl⟩
  · have k : decide ((l.length : Int) ≤ 65536) = false := decide_eq_false (by omega)
    go_enter Tryd.func26, Tryd.ntmps26
    go_wp2
    go_ret
    exact ⟨ret_bool (right_f h).symm, rfl⟩

set_option maxHeartbeats 400000 in
theorem ssub_any (l : List UInt8) (i : Int) (w : World) (hl : l.length ≤ 9223372036854775807) :
    Calls Tryd.prog 17 #[.string ⟨l.toArray⟩, .int .i64 i] w fun e w' => e = .returned (.tuple #[.int .i64 (subV l i), .int .i64 (subE l i)]) ∧ w = w' := by
  cases hr : rightB l
  · go_enter Tryd.func17, Tryd.ntmps17
    go_wp2_with (go_at_call 25; refine (sright_any _ _).mono ?_; rintro e w' ⟨rfl, rfl⟩)
    go_ret2
    exact ⟨ret_pair (by simp [subV, subE, hr]) (by simp [subE, hr]), rfl⟩
  · by_cases h0 : i < 0
    · have HE := Lib.hid (show subE l i = 32 by unfold subE; rw [if_pos hr, if_neg (by omega)])
      go_enter Tryd.func17, Tryd.ntmps17
      go_wp2_with (go_at_call 25; refine (sright_any _ _).mono ?_; rintro e w' ⟨rfl, rfl⟩)
      go_ret2
      exact ⟨ret_pair (by unfold subV; rw [HE.out]; rfl) HE.out.symm, rfl⟩
    · obtain ⟨k, rfl⟩ := Int.eq_ofNat_of_zero_le (by omega : 0 ≤ i)
      by_cases h1 : k < l.length
      · have HE := Lib.hid (show subE l k = 0 by unfold subE; rw [if_pos hr, if_pos (by omega)])
        have HV := Lib.hid (show subV l k = ((l[k]'h1).toNat : Int) by unfold subV; rw [HE.out, if_pos rfl]; simp [List.getD, h1])
        have k1 : decide ((l.length : Int) ≤ (k : Int)) = false := decide_eq_false (by omega)
        go_enter Tryd.func17, Tryd.ntmps17
        go_wp2_with (go_at_call 25; refine (sright_any _ _).mono ?_; rintro e w' ⟨rfl, rfl⟩)
        go_ret2
        exact ⟨ret_pair ((IntWalk.wrap64_in _ (by have := (l[k]'h1).toNat_lt; omega)).trans HV.out.symm) HE.out.symm, rfl⟩
      · have HE := Lib.hid (show subE l k = 32 by unfold subE; rw [if_pos hr, if_neg (by omega)])
        have k1 : decide ((l.length : Int) ≤ (k : Int)) = true := decide_eq_true (by omega)
        go_enter Tryd.func17, Tryd.ntmps17
        go_wp2_with (go_at_call 25; refine (sright_any _ _).mono ?_; rintro e w' ⟨rfl, rfl⟩)
        go_ret2
        exact ⟨ret_pair (by unfold subV; rw [HE.out]; rfl) HE.out.symm, rfl⟩

set_option maxHeartbeats 400000 in
theorem srsub_any (l : List UInt8) (i : Int) (w : World) (hl : l.length ≤ 9223372036854775807) :
    Calls Tryd.prog 18 #[.string ⟨l.toArray⟩, .int .i64 i] w fun e w' => e = .returned (.tuple #[.int .i64 (subV l i), .int .i64 (subE l i)]) ∧ w = w' := by
  cases hr : rightB l
  · go_enter Tryd.func18, Tryd.ntmps18
    go_wp2_with (go_at_call 26; refine (srright_any _ _).mono ?_; rintro e w' ⟨rfl, rfl⟩)
    go_ret2
    exact ⟨ret_pair (by simp [subV, subE, hr]) (by simp [subE, hr]), rfl⟩
  · by_cases h0 : i < 0
    · have HE := Lib.hid (show subE l i = 32 by unfold subE; rw [if_pos hr, if_neg (by omega)])
      go_enter Tryd.func18, Tryd.ntmps18
      go_wp2_with (go_at_call 26; refine (srright_any _ _).mono ?_; rintro e w' ⟨rfl, rfl⟩)
      go_ret2
      exact ⟨ret_pair (by unfold subV; rw [HE.out]; rfl) HE.out.symm, rfl⟩
    · obtain ⟨k, rfl⟩ := Int.eq_ofNat_of_zero_le (by omega : 0 ≤ i)
      by_cases h1 : k < l.length
      · have HE := Lib.hid (show subE l k = 0 by unfold subE; rw [if_pos hr, if_pos (by omega)])
        have HV := Lib.hid (show subV l k = ((l[k]'h1).toNat : Int) by unfold subV; rw [HE.out, if_pos rfl]; simp [List.getD, h1])
        have k1 : decide ((l.length : Int) ≤ (k : Int)) = false := decide_eq_false (by omega)
        go_enter Tryd.func18, Tryd.ntmps18
        go_wp2_with (go_at_call 26; refine (srright_any _ _).mono ?_; rintro e w' ⟨rfl, rfl⟩)
        go_ret2
        exact ⟨ret_pair ((IntWalk.wrap64_in _ (by have := (l[k]'h1).toNat_lt; omega)).trans HV.out.symm) HE.out.symm, rfl⟩
      · have HE := Lib.hid (show subE l k = 32 by unfold subE; rw [if_pos hr, if_neg (by omega)])
        have k1 : decide ((l.length : Int) ≤ (k : Int)) = true := decide_eq_true (by omega)
        go_enter Tryd.func18, Tryd.ntmps18
        go_wp2_with (go_at_call 26; refine (srright_any _ _).mono ?_; rintro e w' ⟨rfl, rfl⟩)
        go_ret2
        exact ⟨ret_pair (by unfold subV; rw [HE.out]; rfl) HE.out.symm, rfl⟩

theorem ret_text {a b : List UInt8} {k : IntKind} {x y : Int} (h : a = b) (g : x = y) : Ending.returned (.tuple #[.string ⟨a.toArray⟩, .int k x]) = .returned (.tuple #[.string ⟨b.toArray⟩, .int k y]) := by rw [h, g]

theorem ret_str {a b : List UInt8} (h : a = b) : Ending.returned (.string ⟨a.toArray⟩) = .returned (.string ⟨b.toArray⟩) := by rw [h]

theorem clone_l (l : List UInt8) (w : World) (hl : l.length ≤ 65536) : Calls Tryd.prog 46 #[.string ⟨l.toArray⟩] w fun e w' => e = .returned (.string ⟨l.toArray⟩) ∧ Below w.heap.size w w' :=
  Tryd.stringslite_Clone ⟨l.toArray⟩ w (by rw [size_mk]; omega)

set_option maxHeartbeats 400000 in
theorem sclone_any (l : List UInt8) (w : World) (hl : l.length ≤ 65536) : Calls Tryd.prog 36 #[.string ⟨l.toArray⟩] w fun e w' => e = .returned (.string ⟨l.toArray⟩) ∧ Below w.heap.size w w' := by
  go_enter Tryd.func36, Tryd.ntmps36
  go_wp2_with (go_at_call 46; refine (clone_l _ _ hl).mono ?_; rintro e w1 ⟨rfl, hb⟩)
  go_ret
  exact ⟨rfl, hb⟩

set_option maxHeartbeats 400000 in
theorem scut_any (l : List UInt8) (i n : Int) (w : World) (hl : l.length ≤ 9223372036854775807) (hi : i ≤ 9223372036854775807) (hn : n ≤ 9223372036854775807) :
    Calls Tryd.prog 19 #[.string ⟨l.toArray⟩, .int .i64 i, .int .i64 n] w fun e w' => e = .returned (.tuple #[.string ⟨(cutB l i n).toArray⟩, .int .i64 (cutE l i n)]) ∧ Below w.heap.size w w' := by
  cases hr : rightB l
  · go_enter Tryd.func19, Tryd.ntmps19
    go_wp2_with (go_at_call 25; refine (sright_any _ _).mono ?_; rintro e w' ⟨rfl, rfl⟩)
    go_ret2
    exact ⟨ret_text (by simp [cutB, cutE, hr]) (by simp [cutE, hr]), Below.refl _ _⟩
  · have hl6 := right_le hr
    by_cases h0 : i < 0
    ·
      have HE := Lib.hid (show cutE l i n = 32 by unfold cutE; rw [if_pos hr, if_neg (by omega)])
      go_enter Tryd.func19, Tryd.ntmps19
      go_wp2_with (go_at_call 25; refine (sright_any _ _).mono ?_; rintro e w' ⟨rfl, rfl⟩)
      all_goals go_ret2
      all_goals exact ⟨ret_text (by unfold cutB; rw [HE.out]; rfl) HE.out.symm, Below.refl _ _⟩
    · by_cases h1 : n < 0
      ·
        have HE := Lib.hid (show cutE l i n = 32 by unfold cutE; rw [if_pos hr, if_neg (by omega)])
        go_enter Tryd.func19, Tryd.ntmps19
        go_wp2_with (go_at_call 25; refine (sright_any _ _).mono ?_; rintro e w' ⟨rfl, rfl⟩)
        all_goals go_ret2
        all_goals exact ⟨ret_text (by unfold cutB; rw [HE.out]; rfl) HE.out.symm, Below.refl _ _⟩
      · obtain ⟨k, rfl⟩ := Int.eq_ofNat_of_zero_le (by omega : 0 ≤ i)
        obtain ⟨m, rfl⟩ := Int.eq_ofNat_of_zero_le (by omega : 0 ≤ n)
        by_cases h2 : (l.length : Int) < k
        ·
          have HE := Lib.hid (show cutE l (k : Int) (m : Int) = 32 by unfold cutE; rw [if_pos hr, if_neg (by omega)])
          go_enter Tryd.func19, Tryd.ntmps19
          go_wp2_with (go_at_call 25; refine (sright_any _ _).mono ?_; rintro e w' ⟨rfl, rfl⟩)
          all_goals go_ret2
          all_goals exact ⟨ret_text (by unfold cutB; rw [HE.out]; rfl) HE.out.symm, Below.refl _ _⟩
        · by_cases h3 : (l.length : Int) - k < m
          ·
            have HE := Lib.hid (show cutE l (k : Int) (m : Int) = 32 by unfold cutE; rw [if_pos hr, if_neg (by omega)])
            go_enter Tryd.func19, Tryd.ntmps19
            go_wp2_with (go_at_call 25; refine (sright_any _ _).mono ?_; rintro e w' ⟨rfl, rfl⟩)
            all_goals go_ret2
            all_goals exact ⟨ret_text (by unfold cutB; rw [HE.out]; rfl) HE.out.symm, Below.refl _ _⟩
          · have HE := Lib.hid (show cutE l k m = 0 by unfold cutE; rw [if_pos hr, if_pos (by omega)])
            have HB := Lib.hid (show cutB l k m = (l.drop k).take m by unfold cutB; rw [HE.out, if_pos rfl]; rfl)
            have hlm : ((l.drop k).take m).length ≤ 65536 := by simp; omega
            have HLM := Lib.hid hlm
            have e1 : ((k : Int) + m).toNat = k + m := by omega
            have e2 : k + m - k = m := by omega
            clear hlm
            go_enter Tryd.func19, Tryd.ntmps19
            go_wp2_with (first | (go_at_call 25; refine (sright_any _ _).mono ?_; rintro e w' ⟨rfl, rfl⟩) | (go_at_call 36; refine (sclone_any _ _ HLM.out).mono ?_; rintro e w1 ⟨rfl, hb⟩))
            go_ret2
            exact ⟨ret_text HB.out.symm HE.out.symm, hb⟩

set_option maxHeartbeats 400000 in
theorem srcut_any (l : List UInt8) (i n : Int) (w : World) (hl : l.length ≤ 9223372036854775807) (hi : i ≤ 9223372036854775807) (hn : n ≤ 9223372036854775807) :
    Calls Tryd.prog 20 #[.string ⟨l.toArray⟩, .int .i64 i, .int .i64 n] w fun e w' => e = .returned (.tuple #[.string ⟨(cutB l i n).toArray⟩, .int .i64 (cutE l i n)]) ∧ w = w' := by
  cases hr : rightB l
  · go_enter Tryd.func20, Tryd.ntmps20
    go_wp2_with (go_at_call 26; refine (srright_any _ _).mono ?_; rintro e w' ⟨rfl, rfl⟩)
    go_ret2
    exact ⟨ret_text (by simp [cutB, cutE, hr]) (by simp [cutE, hr]), rfl⟩
  · have hl6 := right_le hr
    by_cases h0 : i < 0
    ·
      have HE := Lib.hid (show cutE l i n = 32 by unfold cutE; rw [if_pos hr, if_neg (by omega)])
      go_enter Tryd.func20, Tryd.ntmps20
      go_wp2_with (go_at_call 26; refine (srright_any _ _).mono ?_; rintro e w' ⟨rfl, rfl⟩)
      all_goals go_ret2
      all_goals exact ⟨ret_text (by unfold cutB; rw [HE.out]; rfl) HE.out.symm, rfl⟩
    · by_cases h1 : n < 0
      ·
        have HE := Lib.hid (show cutE l i n = 32 by unfold cutE; rw [if_pos hr, if_neg (by omega)])
        go_enter Tryd.func20, Tryd.ntmps20
        go_wp2_with (go_at_call 26; refine (srright_any _ _).mono ?_; rintro e w' ⟨rfl, rfl⟩)
        all_goals go_ret2
        all_goals exact ⟨ret_text (by unfold cutB; rw [HE.out]; rfl) HE.out.symm, rfl⟩
      · obtain ⟨k, rfl⟩ := Int.eq_ofNat_of_zero_le (by omega : 0 ≤ i)
        obtain ⟨m, rfl⟩ := Int.eq_ofNat_of_zero_le (by omega : 0 ≤ n)
        by_cases h2 : (l.length : Int) < k
        ·
          have HE := Lib.hid (show cutE l (k : Int) (m : Int) = 32 by unfold cutE; rw [if_pos hr, if_neg (by omega)])
          go_enter Tryd.func20, Tryd.ntmps20
          go_wp2_with (go_at_call 26; refine (srright_any _ _).mono ?_; rintro e w' ⟨rfl, rfl⟩)
          all_goals go_ret2
          all_goals exact ⟨ret_text (by unfold cutB; rw [HE.out]; rfl) HE.out.symm, rfl⟩
        · by_cases h3 : (l.length : Int) - k < m
          ·
            have HE := Lib.hid (show cutE l (k : Int) (m : Int) = 32 by unfold cutE; rw [if_pos hr, if_neg (by omega)])
            go_enter Tryd.func20, Tryd.ntmps20
            go_wp2_with (go_at_call 26; refine (srright_any _ _).mono ?_; rintro e w' ⟨rfl, rfl⟩)
            all_goals go_ret2
            all_goals exact ⟨ret_text (by unfold cutB; rw [HE.out]; rfl) HE.out.symm, rfl⟩
          · have HE := Lib.hid (show cutE l k m = 0 by unfold cutE; rw [if_pos hr, if_pos (by omega)])
            have HB := Lib.hid (show cutB l k m = (l.drop k).take m by unfold cutB; rw [HE.out, if_pos rfl]; rfl)
            have hlm : ((l.drop k).take m).length ≤ 65536 := by simp; omega
            have HLM := Lib.hid hlm
            have e1 : ((k : Int) + m).toNat = k + m := by omega
            have e2 : k + m - k = m := by omega
            clear hlm
            go_enter Tryd.func20, Tryd.ntmps20
            go_wp2_with (first | (go_at_call 26; refine (srright_any _ _).mono ?_; rintro e w' ⟨rfl, rfl⟩) )
            go_ret2
            exact ⟨ret_text HB.out.symm HE.out.symm, rfl⟩

/-- a new row of bytes, made a string -/
theorem conv_new (w : World) (l : List UInt8) : Sem.run Tryd.prog (convert 51 9 (.slice (some ⟨w.heap.size, 0, none⟩) l.length l.length)) (w.alloc (.cells (l.map (fun b => Value.int .u8 (b.toNat : Int))).toArray 5)) = .ok (.string ⟨l.toArray⟩) (w.alloc (.cells (l.map (fun b => Value.int .u8 (b.toNat : Int))).toArray 5)) :=
  run_convert_bytes_back _ 51 9 5 ⟨w.heap.size, 0, none⟩ l.length l Tryd.underlying51 Tryd.underlying5 Tryd.underlying9 (fun j hj => by
    have : (⟨w.heap.size, 0, none⟩ : Addr).add j = ⟨w.heap.size, j, none⟩ := by unfold Addr.add; split <;> simp_all
    rw [this]
    simp [hj])

theorem conv_1 (k : Nat) (hk : k ≤ 255) (w : World) : Sem.run Tryd.prog (convert 51 9 (.slice (some ⟨w.heap.size, 0, none⟩) 1 1)) (w.alloc (.cells #[.int .u8 (k : Int)] 5)) = .ok (.string ⟨[UInt8.ofNat k].toArray⟩) (w.alloc (.cells #[.int .u8 (k : Int)] 5)) := by
  have h := conv_new w [UInt8.ofNat k]
  have e : ((UInt8.ofNat k).toNat : Int) = k := by rw [UInt8.toNat_ofNat']; omega
  simp only [List.map_cons, List.map_nil, e, List.length_cons, List.length_nil, Nat.zero_add] at h
  exact h

set_option maxRecDepth 100000 in
set_option maxHeartbeats 400000 in
theorem schr_any (c : Int) (w : World) :
    Calls Tryd.prog 21 #[.int .i64 c] w fun e w' => e = .returned (.tuple #[.string ⟨(chrB c).toArray⟩, .int .i64 (chrE c)]) ∧ Below w.heap.size w w' := by
  by_cases h0 : c < 0
  · have HE := Lib.hid (show chrE c = 1 by unfold chrE; rw [if_neg (by omega)])
    go_enter Tryd.func21, Tryd.ntmps21
    go_wp2
    go_ret2
    exact ⟨ret_text (by unfold chrB; rw [HE.out]; rfl) HE.out.symm, Below.refl _ _⟩
  · by_cases h1 : 255 < c
    · have HE := Lib.hid (show chrE c = 1 by unfold chrE; rw [if_neg (by omega)])
      go_enter Tryd.func21, Tryd.ntmps21
      go_wp2
      go_ret2
      exact ⟨ret_text (by unfold chrB; rw [HE.out]; rfl) HE.out.symm, Below.refl _ _⟩
    · obtain ⟨k, rfl⟩ := Int.eq_ofNat_of_zero_le (by omega : 0 ≤ c)
      have HE := Lib.hid (show chrE k = 0 by unfold chrE; rw [if_pos (by omega)])
      have hk : k ≤ 255 := by omega
      have HB := Lib.hid (show chrB k = [UInt8.ofNat k] by unfold chrB; rw [HE.out]; rfl)
      have hcv := conv_1 k hk
      go_enter Tryd.func21, Tryd.ntmps21
      go_wp2_with fail
      go_ret2
      exact ⟨ret_text HB.out.symm HE.out.symm, (Below.refl _ _).alloc (Nat.le_refl _) _⟩

set_option maxRecDepth 100000 in
set_option maxHeartbeats 400000 in
theorem srchr_any (c : Int) (w : World) :
    Calls Tryd.prog 22 #[.int .i64 c] w fun e w' => e = .returned (.tuple #[.string ⟨(chrB c).toArray⟩, .int .i64 (chrE c)]) ∧ Below w.heap.size w w' := by
  by_cases h0 : c < 0
  · have HE := Lib.hid (show chrE c = 1 by unfold chrE; rw [if_neg (by omega)])
    go_enter Tryd.func22, Tryd.ntmps22
    go_wp2
    go_ret2
    exact ⟨ret_text (by unfold chrB; rw [HE.out]; rfl) HE.out.symm, Below.refl _ _⟩
  · by_cases h1 : 255 < c
    · have HE := Lib.hid (show chrE c = 1 by unfold chrE; rw [if_neg (by omega)])
      go_enter Tryd.func22, Tryd.ntmps22
      go_wp2
      go_ret2
      exact ⟨ret_text (by unfold chrB; rw [HE.out]; rfl) HE.out.symm, Below.refl _ _⟩
    · obtain ⟨k, rfl⟩ := Int.eq_ofNat_of_zero_le (by omega : 0 ≤ c)
      have HE := Lib.hid (show chrE k = 0 by unfold chrE; rw [if_pos (by omega)])
      have hk : k ≤ 255 := by omega
      have HB := Lib.hid (show chrB k = [UInt8.ofNat k] by unfold chrB; rw [HE.out]; rfl)
      have hcv := conv_1 k hk
      go_enter Tryd.func22, Tryd.ntmps22
      go_wp2_with fail
      go_ret2
      exact ⟨ret_text HB.out.symm HE.out.symm, (Below.refl _ _).alloc (Nat.le_refl _) _⟩

set_option maxHeartbeats 400000 in
theorem scmp_any (a b : List UInt8) (w : World) :
    Calls Tryd.prog 23 #[.string ⟨a.toArray⟩, .string ⟨b.toArray⟩] w fun e w' => e = .returned (.int .i64 (Lib.compareBytes a b)) ∧ w = w' := by
  have hc : ∀ W : World, Calls Tryd.prog 37 #[.string ⟨a.toArray⟩, .string ⟨b.toArray⟩] W fun e w' => e = .returned (.int .i64 (Lib.compareBytes a b)) ∧ W = w' := fun W => (Tryd.strings_Compare ⟨a.toArray⟩ ⟨b.toArray⟩ W).mono fun e w' ⟨he, hw⟩ => ⟨he, hw.symm⟩
  have HC := Lib.hid hc
  clear hc
  go_enter Tryd.func23, Tryd.ntmps23
  go_wp2_with (go_at_call 37; refine (HC.out _).mono ?_; rintro e w' ⟨rfl, rfl⟩)
  go_ret
  exact ⟨rfl, rfl⟩

set_option maxHeartbeats 400000 in
theorem srcmp_any (a b : List UInt8) (w : World) (ha : a.length ≤ 9223372036854775807) (hb : b.length ≤ 9223372036854775807) :
    Calls Tryd.prog 24 #[.string ⟨a.toArray⟩, .string ⟨b.toArray⟩] w fun e w' => e = .returned (.int .i64 (Lib.compareBytes a b)) ∧ Drew w w' := by
  go_enter Tryd.func24, Tryd.ntmps24
  go_wp2_with fail
  go_loopw [5] (fun i wr => ∃ k : Nat, k ≤ a.length ∧ k ≤ b.length ∧ i = .int .i64 k ∧ Drew w wr ∧ Lib.compareBytes a b = Lib.compareBytes (a.drop k) (b.drop k)) (fun i _ => a.length - (intOf i).toNat)
  case atStart => exact ⟨0, Nat.zero_le _, Nat.zero_le _, rfl, Drew.refl _, rfl⟩
  case round =>
    obtain ⟨k, hka, hkb, rfl, hd, hc⟩ := hrel
    have HC := Lib.hid hc
    clear hc
    by_cases hpa : k < a.length
    · by_cases hpb : k < b.length
      · obtain ⟨x, hx⟩ : ∃ x, a[k]? = some x := ⟨a[k], by simp [hpa]⟩
        obtain ⟨y, hy⟩ : ∃ y, b[k]? = some y := ⟨b[k], by simp [hpb]⟩
        have hxl : a[k] = x := by rw [List.getElem?_eq_getElem hpa] at hx; exact Option.some.inj hx
        have hyl : b[k] = y := by rw [List.getElem?_eq_getElem hpb] at hy; exact Option.some.inj hy
        have HX := Lib.hid hx
        have HY := Lib.hid hy
        have ka : (k : Int) < (a.length : Int) := by omega
        have kb : (k : Int) < (b.length : Int) := by omega
        clear hx hy
        rcases (by omega : (x.toNat : Int) < y.toNat ∨ (y.toNat : Int) < x.toNat ∨ (x.toNat : Int) = y.toNat) with g | g | g
        · have HE := Lib.hid (cmp_lt HX.out HY.out g)
          go_wp2_with fail
          go_quiet (fail)
          go_wp2_with fail
          go_ret
          exact ⟨ret_int (by rw [HC.out, HE.out]), (by repeat (first | exact hd | apply Drew.more))⟩
        · have HE := Lib.hid (cmp_gt HX.out HY.out g)
          have g' : ¬ (x.toNat : Int) < y.toNat := by omega
          go_wp2_with fail
          go_quiet (fail)
          go_wp2_with fail
          go_quiet (fail)
          go_wp2_with fail
          go_ret
          exact ⟨ret_int (by rw [HC.out, HE.out]), (by repeat (first | exact hd | apply Drew.more))⟩
        · have e : x = y := UInt8.toNat.inj (by omega)
          subst e
          have HE := Lib.hid (cmp_step HX.out HY.out)
          go_wp2_with fail
          go_quiet (fail)
          go_wp2_with fail
          go_quiet (fail)
          go_wp2_with fail
          go_roundw
          case rel => exact ⟨k + 1, by omega, by omega, by go_num, (by repeat (first | exact hd | apply Drew.more)), by rw [HC.out, HE.out]⟩
          case measure => simp [intOf]; omega
      · have HE := Lib.hid (cmp_end (a := a) (b := b) (k := k) (.inr (by omega)) hka hkb)
        have e : k = b.length := by omega
        subst e
        go_wp2_with fail
        all_goals go_ret
        all_goals exact ⟨ret_int (by rw [HC.out, HE.out]; (repeat' split) <;> omega), (by repeat (first | exact hd | apply Drew.more))⟩
    · have HE := Lib.hid (cmp_end (a := a) (b := b) (k := k) (.inl (by omega)) hka hkb)
      have e : k = a.length := by omega
      subst e
      go_wp2_with fail
      all_goals go_ret
      all_goals exact ⟨ret_int (by rw [HC.out, HE.out]; (repeat' split) <;> omega), (by repeat (first | exact hd | apply Drew.more))⟩
end Go.Proofs.YtmbmlindofchcaaDoor
