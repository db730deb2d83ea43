/- Walks of layer 24: the sections of a small image. -/
import Derived.Test.YtgbgahdeopedpaaIr
import Derived.Laws.CopyOwn
namespace Go.Proofs.Ytgbgahdeopedpaa
open Go.RowKit
set_option linter.unusedVariables false
attribute [local go_sem] ext_mk size_mk toList_mk get_mk take_drop_len take_tail_len ByteArray.mk_append_mk List.append_toArray

/-- the box of what is left of the bytes -/
def rBlk (g off n c : Nat) : Obj := .cells #[.slice (some ⟨g, off, none⟩) n c] 22 (0, 0)

theorem KAt.rcells {W : World} {q g off n c : Nat} (h : KAt W q (rBlk g off n c)) : W.cell? ⟨q, 0, none⟩ = some (.slice (some ⟨g, off, none⟩) n c) ∧ W.frozen? ⟨q, 0, none⟩ = false :=
  ⟨by rw [cell_of_row _ _ _ _ _ _ h.x]; rfl, frozen_of_row _ _ _ _ _ h.x⟩

theorem mk0 (W : World) : (Instr.makeSlice 22 (.int .i64 0) (.int .i64 0)).run Try.prog W = .ok (.slice (some ⟨W.heap.size, 0, none⟩) 0 0) (W.alloc (.cells #[] 5)) := by kernel_rfl

theorem mk1 (W : World) : (Instr.makeSlice 22 (.int .i64 1) (.int .i64 1)).run Try.prog W = .ok (.slice (some ⟨W.heap.size, 0, none⟩) 1 1) (W.alloc (.cells #[.int .u8 0] 5)) := by kernel_rfl

theorem mk19 (W : World) : (Instr.makeSlice 22 (.int .i64 19) (.int .i64 19)).run Try.prog W = .ok (.slice (some ⟨W.heap.size, 0, none⟩) 19 19) (W.alloc (.cells ((List.replicate 19 (Value.int .u8 0)).toArray) 5)) := by kernel_rfl

/-- the image's bytes lie -/
structure TAt (w : World) (g : Nat) : Prop where
  l : g < w.heap.size
  c : ∀ i, i < 35 → w.cell? ⟨g, i, none⟩ = some (.int .u8 ((imgL.getD i 0).toNat : Int))

theorem TAt.of {w : World} {g : Nat} (h : BysAt w (some ⟨g, 0, none⟩) imgL) : TAt w g := by
  rcases h.2 with q | ⟨b, off, q1, q2, q3⟩
  · exact absurd q (by decide)
  · cases q1; exact ⟨q2, fun i hi => by have := q3 i hi; rwa [Nat.zero_add] at this⟩

theorem TAt.below {w W : World} {g : Nat} (h : TAt w g) (hb : Below w.heap.size w W) : TAt W g :=
  ⟨Nat.lt_of_lt_of_le h.l hb.size, fun i hi => (hb.cell (p := ⟨g, i, none⟩) h.l).trans (h.c i hi)⟩

theorem TAt.bx {w W : World} {g p : Nat} {o : Obj} (h : TAt w g) (hn : g ≠ p) (k : BxAt w W p o) : TAt W g :=
  ⟨Nat.lt_of_lt_of_le h.l k.be.size, fun i hi => (k.cell (a := ⟨g, i, none⟩) h.l hn).trans (h.c i hi)⟩

theorem BxAt.rset {w W : World} {q g off n c : Nat} (h : BxAt w W q (rBlk g off n c)) (off' n' c' : Nat) : BxAt w (W.setCell ⟨q, 0, none⟩ (.slice (some ⟨g, off', none⟩) n' c')) q (rBlk g off' n' c') := h.set (i := 0) _

theorem TAt.src {W : World} {g : Nat} (h : TAt W g) (off : Nat) (l : List UInt8) (hl : ∀ j, j < l.length → imgL.getD (off + j) 0 = l.getD j 0) (hn : off + l.length ≤ 35) : ∀ j v, (Lib.byteCells l)[j]? = some v → W.cell? ((⟨g, off, none⟩ : Addr).add j) = some v :=
  BysAt.news (fun i hi => by rw [h.c (off + i) (by omega), hl i hi])

theorem bys_splice {W : World} {s : Nat} {l : List UInt8} {cur : List Value} {T : TypeId} (h : W.heap[s]? = some (.cells (splice cur 0 (Lib.byteCells l)).toArray T (0, 0))) (hl : cur.length = l.length) (hm : l.length ≤ 35) : BysAt W (some ⟨s, 0, none⟩) l := by
  have e : splice cur 0 (Lib.byteCells l) = Lib.byteCells l := by simp [splice, hl, Lib.byteCells]
  rw [e] at h
  refine ⟨by unfold maxLen; omega, .inr ⟨s, 0, rfl, heap_lt h, fun i hi => ?_⟩⟩
  rw [cell_of_row _ _ _ _ _ _ h]
  simp [Lib.byteCells, hi]

set_option maxHeartbeats 4000000 in
set_option maxRecDepth 8000 in
theorem next_1 (q g c : Nat) (w : World) (hk : KAt w q (rBlk g 5 26 c)) (hc : 26 + 4 ≤ c) (hT : TAt w g) (hg : g ≠ q) :
    Calls Try.prog 39 #[.int .i64 1, .pointer (some ⟨q, 0, none⟩)] w fun x w' => ∃ s c', x = .returned (.tuple #[.slice (some ⟨s, 0, none⟩) 1 1, .bool true]) ∧ w.heap.size ≤ s ∧ BysAt w' (some ⟨s, 0, none⟩) [97] ∧ BxAt w w' q (rBlk g 8 23 c') ∧ 23 + 4 ≤ c' := by
  have B0 := Lib.hid (BxAt.start hk)
  obtain ⟨e0, z0⟩ := hk.rcells
  have hq := heap_lt hk.x
  have b0 : w.cell? ⟨g, 5, none⟩ = some (.int .u8 1) := hT.c 5 (by decide)
  have HT := Lib.hid hT
  have kb : bits .or .i64 0 (wrap64 (wrap64 (bits .and .u8 1 127))) = 1 := by decide +kernel
  have hmk := fun W => mk1 W
  have hi' : (Try.prog.info? 5).map (·.size) = some 1 := by kernel_rfl
  clear hk hT
  go_enter Try.func39, Try.ntmps39
  go_wp2_with fail
  obtain ⟨W1, hW1⟩ : ∃ W, w.setCell ⟨q, 0, none⟩ (.slice (some ⟨g, 5 + 1, none⟩) (26 - 1) (c - 1)) = W := ⟨_, rfl⟩
  have B1 := B0.out.rset (5 + 1) (26 - 1) (c - 1)
  rw [hW1] at B1
  rw [show (5 + 1 : Nat) = 6 from rfl, show (26 - 1 : Nat) = 25 from rfl] at B1 hW1
  rw [hW1]
  clear hW1 e0 z0 b0
  obtain ⟨e0, z0⟩ := B1.k.rcells
  have b0 : W1.cell? ⟨g, 6, none⟩ = some (.int .u8 1) := (HT.out.bx hg B1).c 6 (by decide)
  have B1 := Lib.hid B1
  go_loopw [5, 6] (fun v5 v6 wr => v5 = .int .i64 0 ∧ v6 = .int .i64 0 ∧ wr = W1) (fun _ _ _ => 0)
  case atStart => exact ⟨rfl, rfl, rfl⟩
  case round =>
    obtain ⟨rfl, rfl, rfl⟩ := hrel
    have hqa : ∀ (n' c' : Nat) (o : Obj), ((wr.setCell ⟨q, 0, none⟩ (.slice (some ⟨g, 6 + 1, none⟩) n' c')).alloc o).cell? ⟨q, 0, none⟩ = some (.slice (some ⟨g, 6 + 1, none⟩) n' c') := fun n' c' o => ((B1.out.rset (6 + 1) n' c').alloc o).k.rcells.1
    rw [show (6 + 1 : Nat) = 7 from rfl] at hqa
    have hz : (wr.setCell ⟨q, 0, none⟩ (.slice (some ⟨g, 7, none⟩) (25 - 1) (c - 1 - 1))).heap.size = wr.heap.size := by simp [World.setCell]
    have hbl : Below wr.heap.size (wr.setCell ⟨q, 0, none⟩ (.slice (some ⟨g, 7, none⟩) (25 - 1) (c - 1 - 1))) ((wr.setCell ⟨q, 0, none⟩ (.slice (some ⟨g, 7, none⟩) (25 - 1) (c - 1 - 1))).alloc (.cells (List.replicate 1 (Value.int .u8 0)).toArray 5)) := (Below.refl _ _).alloc (Nat.le_of_eq hz.symm) _
    have hnw := heap_alloc_new (wr.setCell ⟨q, 0, none⟩ (.slice (some ⟨g, 7, none⟩) (25 - 1) (c - 1 - 1))) (.cells (List.replicate 1 (Value.int .u8 0)).toArray 5)
    rw [hz] at hnw
    have hB2 := (B1.out.rset 7 (25 - 1) (c - 1 - 1)).alloc (.cells (List.replicate 1 (Value.int .u8 0)).toArray 5)
    have HZ := Lib.hid hz
    have HBL := Lib.hid hbl
    have HNW := Lib.hid hnw
    have HB2 := Lib.hid hB2
    clear hz hbl hnw hB2
    go_wp2_with ((with_reducible show wpList _ _ _ _ _ _); (refine wpList_copy_splice rfl (.tmp 57) (.tmp 58) 22 22 rfl 5 Try.underlying22 hi' (some ⟨wr.heap.size, 0, none⟩) (some ⟨g, 7, none⟩) 1 1 (25 - 1) (c - 1 - 1) rfl rfl wr.heap.size 0 (List.replicate 1 (Value.int .u8 0)) 5 HNW.out (Lib.byteCells [97]) rfl (fun _ => ⟨rfl, _, rfl, (HT.out.bx hg HB2.out).src 7 [97] (by decide) (by decide)⟩) (Nat.le_refl _) (by decide) wr.heap.size _ HBL.out (Nat.le_refl _) ?_); intro w2 HG2 hb2; have B3 := Lib.hid ((B1.out.rset 7 (25 - 1) (c - 1 - 1)).below (by rw [HZ.out]; exact hb2)); clear e0 z0 b0 hqa hb2; obtain ⟨e0, z0⟩ := B3.out.k.rcells)
    go_ret2
    have hqs : wr.heap.size ≠ q := by have := B1.out.be.size; have := B1.out.k; have := heap_lt this.x; omega
    exact ⟨wr.heap.size, _, rfl, B1.out.be.size, bys_splice (by rw [Below.heap_setCell _ _ _ _ hqs]; exact HG2.out) (List.length_replicate.trans rfl) (by decide), B3.out.rset _ _ _, by omega⟩

set_option maxHeartbeats 4000000 in
set_option maxRecDepth 8000 in
theorem next_2 (q g c : Nat) (w : World) (hk : KAt w q (rBlk g 8 23 c)) (hc : 23 + 4 ≤ c) (hT : TAt w g) (hg : g ≠ q) :
    Calls Try.prog 39 #[.int .i64 2, .pointer (some ⟨q, 0, none⟩)] w fun x w' => ∃ s c', x = .returned (.tuple #[.slice (some ⟨s, 0, none⟩) 0 0, .bool true]) ∧ w.heap.size ≤ s ∧ BysAt w' (some ⟨s, 0, none⟩) [] ∧ BxAt w w' q (rBlk g 10 21 c') ∧ 21 + 4 ≤ c' := by
  have B0 := Lib.hid (BxAt.start hk)
  obtain ⟨e0, z0⟩ := hk.rcells
  have hq := heap_lt hk.x
  have b0 : w.cell? ⟨g, 8, none⟩ = some (.int .u8 2) := hT.c 8 (by decide)
  have HT := Lib.hid hT
  have kb : bits .or .i64 0 (wrap64 (wrap64 (bits .and .u8 0 127))) = 0 := by decide +kernel
  have hmk := fun W => mk0 W
  have hi' : (Try.prog.info? 5).map (·.size) = some 1 := by kernel_rfl
  clear hk hT
  go_enter Try.func39, Try.ntmps39
  go_wp2_with fail
  obtain ⟨W1, hW1⟩ : ∃ W, w.setCell ⟨q, 0, none⟩ (.slice (some ⟨g, 8 + 1, none⟩) (23 - 1) (c - 1)) = W := ⟨_, rfl⟩
  have B1 := B0.out.rset (8 + 1) (23 - 1) (c - 1)
  rw [hW1] at B1
  rw [show (8 + 1 : Nat) = 9 from rfl, show (23 - 1 : Nat) = 22 from rfl] at B1 hW1
  rw [hW1]
  clear hW1 e0 z0 b0
  obtain ⟨e0, z0⟩ := B1.k.rcells
  have b0 : W1.cell? ⟨g, 9, none⟩ = some (.int .u8 0) := (HT.out.bx hg B1).c 9 (by decide)
  have B1 := Lib.hid B1
  go_loopw [5, 6] (fun v5 v6 wr => v5 = .int .i64 0 ∧ v6 = .int .i64 0 ∧ wr = W1) (fun _ _ _ => 0)
  case atStart => exact ⟨rfl, rfl, rfl⟩
  case round =>
    obtain ⟨rfl, rfl, rfl⟩ := hrel
    have hqa : ∀ (n' c' : Nat) (o : Obj), ((wr.setCell ⟨q, 0, none⟩ (.slice (some ⟨g, 9 + 1, none⟩) n' c')).alloc o).cell? ⟨q, 0, none⟩ = some (.slice (some ⟨g, 9 + 1, none⟩) n' c') := fun n' c' o => ((B1.out.rset (9 + 1) n' c').alloc o).k.rcells.1
    rw [show (9 + 1 : Nat) = 10 from rfl] at hqa
    have hz : (wr.setCell ⟨q, 0, none⟩ (.slice (some ⟨g, 10, none⟩) (22 - 1) (c - 1 - 1))).heap.size = wr.heap.size := by simp [World.setCell]
    have hbl : Below wr.heap.size (wr.setCell ⟨q, 0, none⟩ (.slice (some ⟨g, 10, none⟩) (22 - 1) (c - 1 - 1))) ((wr.setCell ⟨q, 0, none⟩ (.slice (some ⟨g, 10, none⟩) (22 - 1) (c - 1 - 1))).alloc (.cells (List.replicate 0 (Value.int .u8 0)).toArray 5)) := (Below.refl _ _).alloc (Nat.le_of_eq hz.symm) _
    have hnw := heap_alloc_new (wr.setCell ⟨q, 0, none⟩ (.slice (some ⟨g, 10, none⟩) (22 - 1) (c - 1 - 1))) (.cells (List.replicate 0 (Value.int .u8 0)).toArray 5)
    rw [hz] at hnw
    have hB2 := (B1.out.rset 10 (22 - 1) (c - 1 - 1)).alloc (.cells (List.replicate 0 (Value.int .u8 0)).toArray 5)
    have HZ := Lib.hid hz
    have HBL := Lib.hid hbl
    have HNW := Lib.hid hnw
    have HB2 := Lib.hid hB2
    clear hz hbl hnw hB2
    go_wp2_with ((with_reducible show wpList _ _ _ _ _ _); (refine wpList_copy_splice rfl (.tmp 57) (.tmp 58) 22 22 rfl 5 Try.underlying22 hi' (some ⟨wr.heap.size, 0, none⟩) (some ⟨g, 10, none⟩) 0 0 (22 - 1) (c - 1 - 1) rfl rfl wr.heap.size 0 (List.replicate 0 (Value.int .u8 0)) 5 HNW.out (Lib.byteCells []) rfl (fun _ => ⟨rfl, _, rfl, (HT.out.bx hg HB2.out).src 10 [] (by decide) (by decide)⟩) (Nat.le_refl _) (by decide) wr.heap.size _ HBL.out (Nat.le_refl _) ?_); intro w2 HG2 hb2; have B3 := Lib.hid ((B1.out.rset 10 (22 - 1) (c - 1 - 1)).below (by rw [HZ.out]; exact hb2)); clear e0 z0 b0 hqa hb2; obtain ⟨e0, z0⟩ := B3.out.k.rcells)
    go_ret2
    have hqs : wr.heap.size ≠ q := by have := B1.out.be.size; have := B1.out.k; have := heap_lt this.x; omega
    exact ⟨wr.heap.size, _, rfl, B1.out.be.size, bys_splice (by rw [Below.heap_setCell _ _ _ _ hqs]; exact HG2.out) (List.length_replicate.trans rfl) (by decide), B3.out.rset _ _ _, by omega⟩

set_option maxHeartbeats 4000000 in
set_option maxRecDepth 8000 in
theorem next_3 (q g c : Nat) (w : World) (hk : KAt w q (rBlk g 10 21 c)) (hc : 21 + 4 ≤ c) (hT : TAt w g) (hg : g ≠ q) :
    Calls Try.prog 39 #[.int .i64 3, .pointer (some ⟨q, 0, none⟩)] w fun x w' => ∃ s c', x = .returned (.tuple #[.slice (some ⟨s, 0, none⟩) 19 19, .bool true]) ∧ w.heap.size ≤ s ∧ BysAt w' (some ⟨s, 0, none⟩) encL ∧ BxAt w w' q (rBlk g 31 0 c') ∧ 0 + 4 ≤ c' := by
  have B0 := Lib.hid (BxAt.start hk)
  obtain ⟨e0, z0⟩ := hk.rcells
  have hq := heap_lt hk.x
  have b0 : w.cell? ⟨g, 10, none⟩ = some (.int .u8 3) := hT.c 10 (by decide)
  have HT := Lib.hid hT
  have kb : bits .or .i64 0 (wrap64 (wrap64 (bits .and .u8 19 127))) = 19 := by decide +kernel
  have hmk := fun W => mk19 W
  have hi' : (Try.prog.info? 5).map (·.size) = some 1 := by kernel_rfl
  clear hk hT
  go_enter Try.func39, Try.ntmps39
  go_wp2_with fail
  obtain ⟨W1, hW1⟩ : ∃ W, w.setCell ⟨q, 0, none⟩ (.slice (some ⟨g, 10 + 1, none⟩) (21 - 1) (c - 1)) = W := ⟨_, rfl⟩
  have B1 := B0.out.rset (10 + 1) (21 - 1) (c - 1)
  rw [hW1] at B1
  rw [show (10 + 1 : Nat) = 11 from rfl, show (21 - 1 : Nat) = 20 from rfl] at B1 hW1
  rw [hW1]
  clear hW1 e0 z0 b0
  obtain ⟨e0, z0⟩ := B1.k.rcells
  have b0 : W1.cell? ⟨g, 11, none⟩ = some (.int .u8 19) := (HT.out.bx hg B1).c 11 (by decide)
  have B1 := Lib.hid B1
  go_loopw [5, 6] (fun v5 v6 wr => v5 = .int .i64 0 ∧ v6 = .int .i64 0 ∧ wr = W1) (fun _ _ _ => 0)
  case atStart => exact ⟨rfl, rfl, rfl⟩
  case round =>
    obtain ⟨rfl, rfl, rfl⟩ := hrel
    have hqa : ∀ (n' c' : Nat) (o : Obj), ((wr.setCell ⟨q, 0, none⟩ (.slice (some ⟨g, 11 + 1, none⟩) n' c')).alloc o).cell? ⟨q, 0, none⟩ = some (.slice (some ⟨g, 11 + 1, none⟩) n' c') := fun n' c' o => ((B1.out.rset (11 + 1) n' c').alloc o).k.rcells.1
    rw [show (11 + 1 : Nat) = 12 from rfl] at hqa
    have hz : (wr.setCell ⟨q, 0, none⟩ (.slice (some ⟨g, 12, none⟩) (20 - 1) (c - 1 - 1))).heap.size = wr.heap.size := by simp [World.setCell]
    have hbl : Below wr.heap.size (wr.setCell ⟨q, 0, none⟩ (.slice (some ⟨g, 12, none⟩) (20 - 1) (c - 1 - 1))) ((wr.setCell ⟨q, 0, none⟩ (.slice (some ⟨g, 12, none⟩) (20 - 1) (c - 1 - 1))).alloc (.cells (List.replicate 19 (Value.int .u8 0)).toArray 5)) := (Below.refl _ _).alloc (Nat.le_of_eq hz.symm) _
    have hnw := heap_alloc_new (wr.setCell ⟨q, 0, none⟩ (.slice (some ⟨g, 12, none⟩) (20 - 1) (c - 1 - 1))) (.cells (List.replicate 19 (Value.int .u8 0)).toArray 5)
    rw [hz] at hnw
    have hB2 := (B1.out.rset 12 (20 - 1) (c - 1 - 1)).alloc (.cells (List.replicate 19 (Value.int .u8 0)).toArray 5)
    have HZ := Lib.hid hz
    have HBL := Lib.hid hbl
    have HNW := Lib.hid hnw
    have HB2 := Lib.hid hB2
    clear hz hbl hnw hB2
    go_wp2_with ((with_reducible show wpList _ _ _ _ _ _); (refine wpList_copy_splice rfl (.tmp 57) (.tmp 58) 22 22 rfl 5 Try.underlying22 hi' (some ⟨wr.heap.size, 0, none⟩) (some ⟨g, 12, none⟩) 19 19 (20 - 1) (c - 1 - 1) rfl rfl wr.heap.size 0 (List.replicate 19 (Value.int .u8 0)) 5 HNW.out (Lib.byteCells encL) rfl (fun _ => ⟨rfl, _, rfl, (HT.out.bx hg HB2.out).src 12 encL (by decide) (by decide)⟩) (Nat.le_refl _) (by decide) wr.heap.size _ HBL.out (Nat.le_refl _) ?_); intro w2 HG2 hb2; have B3 := Lib.hid ((B1.out.rset 12 (20 - 1) (c - 1 - 1)).below (by rw [HZ.out]; exact hb2)); clear e0 z0 b0 hqa hb2; obtain ⟨e0, z0⟩ := B3.out.k.rcells)
    go_ret2
    have hqs : wr.heap.size ≠ q := by have := B1.out.be.size; have := B1.out.k; have := heap_lt this.x; omega
    exact ⟨wr.heap.size, _, rfl, B1.out.be.size, bys_splice (by rw [Below.heap_setCell _ _ _ _ hqs]; exact HG2.out) (List.length_replicate.trans rfl) (by decide), B3.out.rset _ _ _, by omega⟩
end Go.Proofs.Ytgbgahdeopedpaa
