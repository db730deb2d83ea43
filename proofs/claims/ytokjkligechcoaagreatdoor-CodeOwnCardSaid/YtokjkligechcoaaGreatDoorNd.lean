/- Walks of layer 16: a real as it is written. -/
import Derived.Test.YtokjkligechcoaaGreatDoorKo
import Derived.Test.YtokjkligechcoaaGreatDoorLi
set_option linter.unusedVariables false
namespace Go.Proofs.YtokjkligechcoaaGreatDoor
open _root_.Go.Lib (hid)
open Go.RowKit
attribute [local go_sem] ext_mk size_mk toList_mk get_mk take_drop_len take_tail_len ByteArray.mk_append_mk List.append_toArray
/-- the entry of the library's table at which 16 is looked up -/
def BitV (w : World) : Prop := w.cell? ⟨8, 15, none⟩ = some (.int .u8 4)
theorem BitV.below {w w' : World} (h : BitV w) (hb : Below w.heap.size w w') : BitV w' := by
 unfold BitV at h ⊢
 rw [hb.cell (World.block_lt_of_cell? w _ h)]; exact h
theorem tz64_16 (w : World) (h : BitV w) : Calls Tryz.prog 215 #[.int .u64 16] w fun e w' => e = .returned (.int .i64 4) ∧ w = w' := by
 unfold BitV at h
 have e1 : bits .and .u64 16 (IntKind.wrap .u64 (-16)) = 16 := by decide
 go_enter Tryz.func215, Tryz.ntmps215
 go_wp2_with fail
 go_ret
 exact ⟨rfl, rfl⟩
theorem tz_16 (w : World) (h : BitV w) : Calls Tryz.prog 194 #[.int .u64 16] w fun e w' => e = .returned (.int .i64 4) ∧ w = w' := by
 have C := hid (tz64_16 w h)
 clear h
 go_enter Tryz.func194, Tryz.ntmps194
 go_wp2_with (go_at_call 215; refine C.out.mono ?_; rintro e w1 ⟨rfl, rfl⟩)
 go_ret
 exact ⟨rfl, rfl⟩
theorem pow2_16 (w : World) : Calls Tryz.prog 193 #[.int .i64 16] w fun e w' => e = .returned (.bool true) ∧ w = w' := by
 have e1 : bits .and .i64 16 15 = 0 := by decide
 go_enter Tryz.func193, Tryz.ntmps193
 go_wp2_with fail
 go_ret
 exact ⟨rfl, rfl⟩
/-- bytes below 128 in an array of the call's own -/
structure Asc (W : World) (b : Nat) (l : List UInt8) : Prop where
 k : KAt W b (.cells (Lib.byteCells l).toArray 246 (0, 0))
 n : l.length = 65
 h : ∀ x ∈ l, x.toNat < 128
theorem Asc.put {W : World} {b i : Nat} {l : List UInt8} (h : Asc W b l) (x : UInt8) (hx : x.toNat < 128) : Asc (W.setCell ⟨b, i, none⟩ (.int .u8 (x.toNat : Int))) b (l.set i x) := by
 refine ⟨⟨?_⟩, by rw [List.length_set]; exact h.n, fun y hy => ?_⟩
 ·have e : (Lib.byteCells (l.set i x)).toArray = (Lib.byteCells l).toArray.setIfInBounds i (.int .u8 (x.toNat : Int)) := by
   unfold Lib.byteCells
   rw [List.setIfInBounds_toArray, List.map_set]
  rw [e]
  exact heap_setCell_same (i := i) _ _ _ _ _ h.k.x
 ·rcases List.mem_or_eq_of_mem_set hy with h1 | h1
  ·exact h.h y h1
  ·rw [h1]; exact hx
theorem Asc.at {W : World} {b i : Nat} {l : List UInt8} (h : Asc W b l) (hi : i < 65) : ∃ u, W.cell? ⟨b, i, none⟩ = some u := by
 rw [cell_of_row _ _ _ _ _ _ h.k.x]
 exact ⟨_, Array.getElem?_eq_getElem (show i < (Lib.byteCells l).toArray.size by simpa [Lib.byteCells, h.n] using hi)⟩
theorem Asc.text {W : World} {b off n : Nat} {l : List UInt8} (h : Asc W b l) (ho : off + n = 65) (cap : Nat) : Sem.run Tryz.prog (convert 40 9 (.slice (some ⟨b, off, none⟩) n cap)) W = .ok (.string ⟨(l.drop off).toArray⟩) W := by
 have hl : (l.drop off).length = n := by rw [List.length_drop, h.n]; omega
 rw [← hl]
 refine conv_bys cap fun j u e => ?_
 rw [show (⟨b, off, none⟩ : Addr).add j = ⟨b, off + j, none⟩ from by (unfold Addr.add; by_cases h0 : j = 0 <;> simp [h0])]
 rw [cell_of_row _ _ _ _ _ _ h.k.x]
 unfold Lib.byteCells at e ⊢
 rw [List.map_drop, List.getElem?_drop] at e
 simpa using e
theorem cut65 (W : World) (b j : Nat) (hj : j ≤ 16) : (Instr.sliceAt 246 (.pointer (some ⟨b, 0, none⟩)) (some (.int .i64 (49 + (j : Int) - 1))) none none).run Tryz.prog W = .ok (.slice (some ⟨b, 48 + j, none⟩) (17 - j) (17 - j)) W := by
 have hn : Tryz.prog.arrayLen 246 = 65 := by kernel_rfl
 have hs : (sizeOf (Tryz.prog.elem 246)).run Tryz.prog W = .ok 1 W := by kernel_rfl
 rw [run_sliceAt_array_l W _ _ (by kernel_rfl) .i64 (49 + (j : Int) - 1) (by omega) (by rw [hn]; omega), hs, hn]
 have e : (49 + (j : Int) - 1).toNat = 48 + j := by omega
 simp only [Result.andThen, slicedAt, e]
 rw [if_neg (by omega)]
 simp only [Addr.add, Nat.mul_one, Nat.zero_add, show 65 - (48 + j) = 17 - j by omega]
 rw [if_neg (by omega)]
theorem digs_lt : ∀ (i : Nat) (h : i < 36), ([48, 49, 50, 51, 52, 53, 54, 55, 56, 57, 97, 98, 99, 100, 101, 102, 103, 104, 105, 106, 107, 108, 109, 110, 111, 112, 113, 114, 115, 116, 117, 118, 119, 120, 121, 122] : List UInt8)[i].toNat < 128 := by decide
theorem Asc.new (w : World) : Asc (w.alloc (.cells Tryz.zeroCells246 246)) w.heap.size (List.replicate 65 0) := by
 refine ⟨?_, by simp, fun x hx => by rw [(List.mem_replicate.1 hx).2]; decide⟩
 have e : (Lib.byteCells (List.replicate 65 0)).toArray = Tryz.zeroCells246 := rfl
 rw [e]
 exact KAt.new _ _
set_option maxHeartbeats 4000000 in
set_option maxRecDepth 8000 in
theorem fbits16 (u : Nat) (hu : u < 18446744073709551616) (w : World) (hB : BitV w) :
  Calls Tryz.prog 160 #[.slice none 0 0, .int .u64 (u : Int), .int .i64 16, .bool false, .bool false] w fun e w' => ∃ s : List UInt8, e = .returned (.tuple #[.slice none 0 0, .string ⟨s.toArray⟩]) ∧ s.length ≤ 16 ∧ (∀ b ∈ s, b.toNat < 128) ∧ Below w.heap.size w w' := by
 have CT := hid (fun W (h : Below w.heap.size w W) => tz_16 W (hB.below h))
 have CP := hid (fun W => pow2_16 W)
 clear hB
 go_enter Tryz.func160, Tryz.ntmps160
 go_wp2_with (first
  | (go_at_call 193; refine (CP.out _).mono ?_; rintro e w1 ⟨rfl, rfl⟩)
  | (go_at_call 194; refine (CT.out _ ((Below.refl _ _).alloc (Nat.le_refl _) _)).mono ?_; rintro e w2 ⟨rfl, rfl⟩))
 go_loopw [1, 13] (fun v1 v13 wr => ∃ (j v : Nat) (cs : List UInt8), v1 = .int .u64 (v : Int) ∧ v13 = .int .i64 (((49 + j : Nat)) : Int) ∧ 1 ≤ j ∧ j ≤ 16 ∧ v < 16 ^ j ∧ Below w.heap.size w wr ∧ Asc wr w.heap.size cs) (fun v1 _ _ => (intOf v1).toNat)
 case atStart => exact ⟨16, u, _, rfl, rfl, by decide, by decide, by simpa using hu, (Below.refl _ _).alloc (Nat.le_refl _) _, Asc.new w⟩
 case round =>
  obtain ⟨j, v, cs, rfl, rfl, hj1, hj2, hv, hb, hA⟩ := hrel
  have HB := hid hb
  have HA := hid hA
  have hvu : v < 18446744073709551616 := Nat.lt_of_lt_of_le hv (Nat.le_trans (Nat.pow_le_pow_right (by decide) hj2) (by decide))
  obtain ⟨x, c0⟩ := hA.at (show 48 + j < 65 by omega)
  have c1 : wr.frozen? ⟨w.heap.size, 48 + j, none⟩ = false := frozen_of_row _ _ _ _ _ hA.k.x
  obtain ⟨d, hdd⟩ : ∃ d, v % 16 = d := ⟨_, rfl⟩
  have hbit : bits .and .u64 (v : Int) 15 = (d : Int) := by
   have := u64_and_nat v 15 hvu (by decide)
   rw [nat_mask4, hdd] at this
   exact this
  have hd : d < 16 := by omega
  by_cases hlt : v < 16
  ·have hsl := fun W => cut65 W w.heap.size j hj2
   have hcv := fun x hx => (HA.out.put (i := 48 + j) x hx).text (show (48 + j) + (17 - j) = 65 by omega) (17 - j)
   have hct := hcv _ (digs_lt v (Nat.lt_trans hlt (by decide)))
   have HM := hid (fun x hx => (HA.out.put (i := 48 + j) x hx).h)
   clear hb hA hcv
   clear hvu hdd hd
   have HV := hid hv
   clear hv
   go_wp2_with fail
   go_ret2
   refine ⟨_, rfl, ?_, fun b hb => HM.out _ (digs_lt v (by omega)) b (List.mem_of_mem_drop hb), HB.out.setCell (p := ⟨w.heap.size, 48 + j, none⟩) (Nat.le_refl _) _⟩
   rw [List.length_drop, List.length_set, HA.out.n]; omega
  ·clear hb hA hvu hdd
   have HV := hid hv
   clear hv
   go_wp2_with fail
   go_roundw
   case rel =>
    have hj : 2 ≤ j := by
     rcases Nat.lt_or_ge j 2 with h | h
     ·obtain rfl : j = 1 := by omega
      have := HV.out
      omega
     ·exact h
    refine ⟨j - 1, v / 16, _, by go_num, by go_num, by omega, by omega, ?_, HB.out.setCell (p := ⟨w.heap.size, 48 + j, none⟩) (Nat.le_refl _) _, HA.out.put _ (digs_lt _ _)⟩
    have := HV.out
    rw [show j = (j - 1) + 1 by omega, Nat.pow_succ] at this
    omega
   case measure => simp only [intOf]; omega
theorem fuint_in (u : Nat) (hu : u < 18446744073709551616) (w : World) (hB : BitV w) :
  Calls Tryz.prog 111 #[.int .u64 (u : Int), .int .i64 16] w fun e w' => ∃ s : List UInt8, e = .returned (.string ⟨s.toArray⟩) ∧ s.length ≤ 16 ∧ (∀ b ∈ s, b.toNat < 128) ∧ Below w.heap.size w w' := by
 have C := hid (fbits16 u hu w hB)
 clear hB
 go_enter Tryz.func111, Tryz.ntmps111
 go_wp2_with (go_at_call 160; refine C.out.mono ?_; rintro e w1 ⟨s, rfl, h1, h2, hb⟩; have H := hid (And.intro h1 (And.intro h2 hb)); clear h1 h2 hb)
 go_ret
 exact ⟨s, rfl, H.out⟩
/-- a number of base sixteen -/
theorem fuint_any (u : Nat) (hu : u < 18446744073709551616) (w : World) (hB : BitV w) :
  Calls Tryz.prog 53 #[.int .u64 (u : Int), .int .i64 16] w fun e w' => ∃ s : List UInt8, e = .returned (.string ⟨s.toArray⟩) ∧ s.length ≤ 16 ∧ (∀ b ∈ s, b.toNat < 128) ∧ Below w.heap.size w w' := by
 have C := hid (fuint_in u hu w hB)
 clear hB
 go_enter Tryz.func53, Tryz.ntmps53
 go_wp2_with (go_at_call 111; refine C.out.mono ?_; rintro e w1 ⟨s, rfl, h1, h2, hb⟩; have H := hid (And.intro h1 (And.intro h2 hb)); clear h1 h2 hb)
 go_ret
 exact ⟨s, rfl, H.out⟩
end Go.Proofs.YtokjkligechcoaaGreatDoor
