/- Walks of layer 16: the reader of bytes at a small program's bytes. -/
import Derived.Test.YtgbgahdeopedpaaIm
import Derived.BigQuiet
import Derived.Laws.CopyOwn
import Derived.Deep.RegionHeld3
import Derived.Deep.CutRange
import Derived.Deep.CutBlock
import Derived.Deep.RegionLaw
import Derived.Deep.AppendLies
import Derived.OpenShut
namespace Go.Proofs.Ytgbgahdeopedpaa
open Go.RowKit
set_option linter.unusedVariables false
attribute [local go_sem] ext_mk size_mk toList_mk get_mk take_drop_len take_tail_len ByteArray.mk_append_mk List.append_toArray

/-- one box is o; all other blocks are as they were -/
structure BxAt (w W : World) (p : Nat) (o : Obj) : Prop where
  k : KAt W p o
  be : Below p w W
  kp : ∀ j, j < w.heap.size → j ≠ p → W.heap[j]? = w.heap[j]?

theorem BxAt.start {w : World} {p : Nat} {o : Obj} (h : KAt w p o) : BxAt w w p o := ⟨h, Below.refl _ _, fun _ _ _ => rfl⟩

theorem BxAt.trans {a b c : World} {p : Nat} {o o' : Obj} (h : BxAt a b p o) (k : BxAt b c p o') : BxAt a c p o' :=
  ⟨k.k, h.be.trans k.be, fun j hj hn => (k.kp j (Nat.lt_of_lt_of_le hj h.be.size) hn).trans (h.kp j hj hn)⟩

theorem BxAt.set {w W : World} {p i : Nat} {cs : Array Value} {T : TypeId} (h : BxAt w W p (.cells cs T (0, 0))) (v : Value) : BxAt w (W.setCell ⟨p, i, none⟩ v) p (.cells (cs.setIfInBounds i v) T (0, 0)) :=
  ⟨⟨heap_setCell_same (i := i) _ _ _ _ v h.k.x⟩, h.be.setCell (p := ⟨p, i, none⟩) (Nat.le_refl _) _, fun j hj hn => (Below.heap_setCell _ _ _ _ hn).trans (h.kp j hj hn)⟩

theorem BxAt.below {w W V : World} {p : Nat} {o : Obj} (h : BxAt w W p o) (hb : Below W.heap.size W V) : BxAt w V p o :=
  ⟨h.k.below hb, h.be.trans (hb.mono (Nat.le_of_lt (heap_lt h.k.x))), fun j hj hn => (hb.block j (Nat.lt_of_lt_of_le hj h.be.size)).trans (h.kp j hj hn)⟩

theorem BxAt.alloc {w W : World} {p : Nat} {o : Obj} (h : BxAt w W p o) (q : Obj) : BxAt w (W.alloc q) p o := h.below ((Below.refl _ _).alloc (Nat.le_refl _) _)

theorem BxAt.drew {w W : World} {p : Nat} {o : Obj} (h : BxAt w W p o) : BxAt w W.drew p o := h.below ((Below.refl _ _).drew)

theorem BxAt.put {w W : World} {p : Nat} {o : Obj} (h : BxAt w W p o) (hp : p < w.heap.size) (a : Addr) (h1 : w.heap.size ≤ a.block) (h2 : a.block ≠ p) (v : Value) : BxAt w (W.setCell a v) p o :=
  ⟨h.k.put a (fun e => h2 e.symm) v, h.be.trans ⟨rfl, rfl, rfl, by simp [World.setCell], fun k hk => Below.heap_setCell _ _ _ _ (by omega)⟩, fun j hj hn => (Below.heap_setCell _ _ _ _ (by omega)).trans (h.kp j hj hn)⟩

theorem BxAt.cell {w W : World} {p : Nat} {o : Obj} (h : BxAt w W p o) {a : Addr} (ha : a.block < w.heap.size) (hn : a.block ≠ p) : W.cell? a = w.cell? a := World.cell?_of_block (h.kp _ ha hn)

theorem BxAt.blk {w W : World} {p m : Nat} {o q : Obj} (h : BxAt w W p o) (hm : KAt w m q) (hn : m ≠ p) : KAt W m q := ⟨(h.kp m (heap_lt hm.x) hn).trans hm.x⟩

/-- the reader's box -/
def dBlk (g cap at' : Nat) : Obj := .cells #[.slice (some ⟨g, 0, none⟩) 19 cap, .int .i64 at', .bool false] 94 (0, 0)

theorem KAt.dcells {W : World} {p g cap i : Nat} (h : KAt W p (dBlk g cap i)) : W.cell? ⟨p, 0, none⟩ = some (.slice (some ⟨g, 0, none⟩) 19 cap) ∧ W.cell? ⟨p, 1, none⟩ = some (.int .i64 i) ∧ W.cell? ⟨p, 2, none⟩ = some (.bool false) ∧ W.frozen? ⟨p, 1, none⟩ = false ∧ W.frozen? ⟨p, 2, none⟩ = false := by
  refine ⟨?_, ?_, ?_, frozen_of_row _ _ _ _ _ h.x, frozen_of_row _ _ _ _ _ h.x⟩
  all_goals (rw [cell_of_row _ _ _ _ _ _ h.x]; rfl)

/-- the bytes lie -/
structure SAt (w : World) (g : Nat) (p : Nat) : Prop where
  l : g < w.heap.size
  n : g ≠ p
  c : ∀ i, i < 19 → w.cell? ⟨g, i, none⟩ = some (.int .u8 ((encL.getD i 0).toNat : Int))

theorem SAt.bx {w W : World} {g p : Nat} {o : Obj} (h : SAt w g p) (k : BxAt w W p o) : SAt W g p :=
  ⟨Nat.lt_of_lt_of_le h.l k.be.size, h.n, fun i hi => (k.cell (a := ⟨g, i, none⟩) h.l h.n).trans (h.c i hi)⟩

theorem SAt.below {w W : World} {g p : Nat} (h : SAt w g p) (hb : Below w.heap.size w W) : SAt W g p :=
  ⟨Nat.lt_of_lt_of_le h.l hb.size, h.n, fun i hi => (hb.cell (p := ⟨g, i, none⟩) h.l).trans (h.c i hi)⟩

set_option maxHeartbeats 4000000 in
set_option maxRecDepth 8000 in
theorem plain_r (p g cap i : Nat) (c : Int) (w : World) (hk : KAt w p (dBlk g cap i)) (hS : SAt w g p) (hi : i < 19) (hc : ((encL.getD i 0).toNat : Int) = c) (h1 : c = 0 ∨ c = 1 ∨ c = 2 ∨ c = 13) :
    Calls Try.prog 56 #[.pointer (some ⟨p, 0, none⟩)] w fun x w' => x = .returned (.int .u64 c) ∧ BxAt w w' p (dBlk g cap (i + 1)) := by
  have B0 := Lib.hid (BxAt.start hk)
  have b0 : w.cell? ⟨g, i, none⟩ = some (.int .u8 c) := by rw [hS.c i hi, hc]
  obtain ⟨d0, d1, d2, z1, z2⟩ := hk.dcells
  have k1 : decide (19 ≤ (i : Int)) = false := decide_eq_false (by omega)
  have k2 : IntKind.i64.wrap ((i : Int) + 1) = ((i + 1 : Nat) : Int) := IntWalk.i64_in _ (by omega)
  have k3 : (i : Int).toNat = i := Int.toNat_natCast i
  clear hk hS hc
  rcases h1 with rfl | rfl | rfl | rfl
  ·
    go_enter Try.func56, Try.ntmps56
    go_wp2_with fail
    go_loopw [3, 4] (fun v3 v4 wr => v3 = .int .u64 0 ∧ v4 = .int .i64 0 ∧ wr = w) (fun _ _ _ => 0)
    case atStart => exact ⟨rfl, rfl, rfl⟩
    case round =>
      obtain ⟨rfl, rfl, rfl⟩ := hrel
      go_wp2_with fail
      go_quiet (fail)
      go_wp2_with fail
      go_quiet (fail)
      go_wp2_with fail
      go_ret
      refine ⟨?_, ((B0.out.below (below_drewN (Below.refl _ _) _)).set (i := 1) _).set (i := 2) _⟩
      congr 2
  ·
    go_enter Try.func56, Try.ntmps56
    go_wp2_with fail
    go_loopw [3, 4] (fun v3 v4 wr => v3 = .int .u64 0 ∧ v4 = .int .i64 0 ∧ wr = w) (fun _ _ _ => 0)
    case atStart => exact ⟨rfl, rfl, rfl⟩
    case round =>
      obtain ⟨rfl, rfl, rfl⟩ := hrel
      go_wp2_with fail
      go_quiet (fail)
      go_wp2_with fail
      go_quiet (fail)
      go_wp2_with fail
      go_ret
      refine ⟨?_, ((B0.out.below (below_drewN (Below.refl _ _) _)).set (i := 1) _).set (i := 2) _⟩
      congr 2
  ·
    go_enter Try.func56, Try.ntmps56
    go_wp2_with fail
    go_loopw [3, 4] (fun v3 v4 wr => v3 = .int .u64 0 ∧ v4 = .int .i64 0 ∧ wr = w) (fun _ _ _ => 0)
    case atStart => exact ⟨rfl, rfl, rfl⟩
    case round =>
      obtain ⟨rfl, rfl, rfl⟩ := hrel
      go_wp2_with fail
      go_quiet (fail)
      go_wp2_with fail
      go_quiet (fail)
      go_wp2_with fail
      go_ret
      refine ⟨?_, ((B0.out.below (below_drewN (Below.refl _ _) _)).set (i := 1) _).set (i := 2) _⟩
      congr 2
  ·
    go_enter Try.func56, Try.ntmps56
    go_wp2_with fail
    go_loopw [3, 4] (fun v3 v4 wr => v3 = .int .u64 0 ∧ v4 = .int .i64 0 ∧ wr = w) (fun _ _ _ => 0)
    case atStart => exact ⟨rfl, rfl, rfl⟩
    case round =>
      obtain ⟨rfl, rfl, rfl⟩ := hrel
      go_wp2_with fail
      go_quiet (fail)
      go_wp2_with fail
      go_quiet (fail)
      go_wp2_with fail
      go_ret
      refine ⟨?_, ((B0.out.below (below_drewN (Below.refl _ _) _)).set (i := 1) _).set (i := 2) _⟩
      congr 2

theorem small_r (p g cap i : Nat) (c : Int) (w : World) (hk : KAt w p (dBlk g cap i)) (hS : SAt w g p) (hi : i < 19) (hc : ((encL.getD i 0).toNat : Int) = c) (h1 : c = 0 ∨ c = 1 ∨ c = 2 ∨ c = 13) :
    Calls Try.prog 40 #[.pointer (some ⟨p, 0, none⟩)] w fun x w' => x = .returned (.int .i64 c) ∧ BxAt w w' p (dBlk g cap (i + 1)) := by
  have C := Lib.hid (plain_r p g cap i c w hk hS hi hc h1)
  have k1 : decide (4611686018427387904 < c) = false := decide_eq_false (by omega)
  have k2 : IntKind.i64.wrap c = c := IntWalk.i64_in _ (by omega)
  clear hk hS hc h1
  go_enter Try.func40, Try.ntmps40
  go_wp2_with (first | (go_at_call 56; refine C.out.mono ?_; rintro e w1 ⟨rfl, h1⟩))
  go_ret
  exact ⟨rfl, h1⟩

theorem signed_r (p g cap i : Nat) (w : World) (hk : KAt w p (dBlk g cap i)) (hS : SAt w g p) (hi : i < 19) (hc : ((encL.getD i 0).toNat : Int) = 0) :
    Calls Try.prog 57 #[.pointer (some ⟨p, 0, none⟩)] w fun x w' => x = .returned (.int .i64 0) ∧ BxAt w w' p (dBlk g cap (i + 1)) := by
  have C := Lib.hid (plain_r p g cap i 0 w hk hS hi hc (.inl rfl))
  clear hk hS hc
  go_enter Try.func57, Try.ntmps57
  go_wp2_with (first | (go_at_call 56; refine C.out.mono ?_; rintro e w1 ⟨rfl, h1⟩))
  go_ret
  exact ⟨rfl, h1⟩

theorem count_r (p g cap i : Nat) (c k : Int) (w : World) (hk : KAt w p (dBlk g cap i)) (hS : SAt w g p) (hi : i < 19) (hc : ((encL.getD i 0).toNat : Int) = c) (hq : (c = 0 ∧ k = 1) ∨ (c = 0 ∧ k = 8) ∨ (c = 1 ∧ k = 3 ∧ i < 15) ∨ (c = 2 ∧ k = 6 ∧ i ≤ 6)) :
    Calls Try.prog 41 #[.pointer (some ⟨p, 0, none⟩), .int .i64 k] w fun x w' => x = .returned (.int .i64 c) ∧ BxAt w w' p (dBlk g cap (i + 1)) := by
  have C := Lib.hid (plain_r p g cap i c w hk hS hi hc (by omega))
  rcases hq with ⟨rfl, rfl⟩ | ⟨rfl, rfl⟩ | ⟨rfl, rfl, hi2⟩ | ⟨rfl, rfl, hi2⟩
  ·
    have k1 : IntKind.i64.wrap 0 = 0 := IntWalk.i64_in _ (by omega)
    have k3 : IntKind.i64.wrap (19 - ((i : Int) + 1)) = 19 - ((i : Int) + 1) := IntWalk.i64_in _ (by omega)
    have k4 : IntKind.u64.wrap (19 - ((i : Int) + 1)) = 19 - ((i : Int) + 1) := IntWalk.u64_in _ (by omega)
    have k5 : decide (19 - ((i : Int) + 1) < 0) = false := decide_eq_false (by omega)
    clear hk hS hc
    go_enter Try.func41, Try.ntmps41
    go_wp2_with (first | (go_at_call 56; refine C.out.mono ?_; rintro e w1 ⟨rfl, h1⟩; obtain ⟨d0, d1, d2, z1, z2⟩ := h1.k.dcells))
    go_quiet (fail)
    go_wp2_with fail
    go_ret
    exact ⟨rfl, h1.below (below_drewN (Below.refl _ _) _)⟩
  ·
    have k1 : IntKind.i64.wrap 0 = 0 := IntWalk.i64_in _ (by omega)
    have k3 : IntKind.i64.wrap (19 - ((i : Int) + 1)) = 19 - ((i : Int) + 1) := IntWalk.i64_in _ (by omega)
    have k4 : IntKind.u64.wrap (19 - ((i : Int) + 1)) = 19 - ((i : Int) + 1) := IntWalk.u64_in _ (by omega)
    have k5 : decide ((19 - ((i : Int) + 1)) / 8 < 0) = false := decide_eq_false (by omega)
    clear hk hS hc
    go_enter Try.func41, Try.ntmps41
    go_wp2_with (first | (go_at_call 56; refine C.out.mono ?_; rintro e w1 ⟨rfl, h1⟩; obtain ⟨d0, d1, d2, z1, z2⟩ := h1.k.dcells))
    go_quiet (fail)
    go_wp2_with fail
    go_ret
    exact ⟨rfl, h1.below (below_drewN (Below.refl _ _) _)⟩
  ·
    have k1 : IntKind.i64.wrap 1 = 1 := IntWalk.i64_in _ (by omega)
    have k3 : IntKind.i64.wrap (19 - ((i : Int) + 1)) = 19 - ((i : Int) + 1) := IntWalk.i64_in _ (by omega)
    have k4 : IntKind.u64.wrap (19 - ((i : Int) + 1)) = 19 - ((i : Int) + 1) := IntWalk.u64_in _ (by omega)
    have k5 : decide ((19 - ((i : Int) + 1)) / 3 < 1) = false := decide_eq_false (by omega)
    clear hk hS hc
    go_enter Try.func41, Try.ntmps41
    go_wp2_with (first | (go_at_call 56; refine C.out.mono ?_; rintro e w1 ⟨rfl, h1⟩; obtain ⟨d0, d1, d2, z1, z2⟩ := h1.k.dcells))
    go_quiet (fail)
    go_wp2_with fail
    go_ret
    exact ⟨rfl, h1.below (below_drewN (Below.refl _ _) _)⟩
  ·
    have k1 : IntKind.i64.wrap 2 = 2 := IntWalk.i64_in _ (by omega)
    have k3 : IntKind.i64.wrap (19 - ((i : Int) + 1)) = 19 - ((i : Int) + 1) := IntWalk.i64_in _ (by omega)
    have k4 : IntKind.u64.wrap (19 - ((i : Int) + 1)) = 19 - ((i : Int) + 1) := IntWalk.u64_in _ (by omega)
    have k5 : decide ((19 - ((i : Int) + 1)) / 6 < 2) = false := decide_eq_false (by omega)
    clear hk hS hc
    go_enter Try.func41, Try.ntmps41
    go_wp2_with (first | (go_at_call 56; refine C.out.mono ?_; rintro e w1 ⟨rfl, h1⟩; obtain ⟨d0, d1, d2, z1, z2⟩ := h1.k.dcells))
    go_quiet (fail)
    go_wp2_with fail
    go_ret
    exact ⟨rfl, h1.below (below_drewN (Below.refl _ _) _)⟩

theorem x_set {W : World} {m : Nat} {o1 : Int} (h : KAt W m (xBlk o1)) (o a b c : Int) (l v : Value) :
    ((((((W.setCell ⟨m, 0, none⟩ (.int .i64 o)).setCell ⟨m, 1, none⟩ (.int .i64 a)).setCell ⟨m, 2, none⟩ (.int .i64 b)).setCell ⟨m, 3, none⟩ (.int .i64 c)).setCell ⟨m, 4, none⟩ l).setCell ⟨m, 5, none⟩ v).heap[m]? = some (.cells #[.int .i64 o, .int .i64 a, .int .i64 b, .int .i64 c, l, v] 58 (0, 0)) :=
  heap_setCell_same (i := 5) _ _ _ _ _ (heap_setCell_same (i := 4) _ _ _ _ _ (heap_setCell_same (i := 3) _ _ _ _ _ (heap_setCell_same (i := 2) _ _ _ _ _ (heap_setCell_same (i := 1) _ _ _ _ _ (heap_setCell_same (i := 0) _ _ _ _ _ h.x)))))

/-- behind calls of the reader: where it stands, the bytes, a block of the call's own -/
structure NAt (w W : World) (p g cap i m : Nat) (o : Obj) : Prop where
  b : BxAt w W p (dBlk g cap i)
  s : SAt W g p
  e : KAt W m o
  n : m ≠ p

theorem NAt.call {w W V : World} {p g cap i j m : Nat} {o : Obj} (h : NAt w W p g cap i m o) (k : BxAt W V p (dBlk g cap j)) : NAt w V p g cap j m o := ⟨h.b.trans k, h.s.bx k, k.blk h.e h.n, h.n⟩

theorem NAt.below {w W V : World} {p g cap i m : Nat} {o : Obj} (h : NAt w W p g cap i m o) (hb : Below W.heap.size W V) : NAt w V p g cap i m o := ⟨h.b.below hb, h.s.below hb, h.e.below hb, h.n⟩

set_option maxHeartbeats 4000000 in
set_option maxRecDepth 8000 in
theorem insn_r (p g cap i : Nat) (op : Int) (w : World) (hk : KAt w p (dBlk g cap i)) (hS : SAt w g p) (hi : (i = 7 ∧ op = 1) ∨ (i = 13 ∧ op = 13)) :
    Calls Try.prog 42 #[.pointer (some ⟨p, 0, none⟩)] w fun x w' => x = .returned (.agg #[.int .i64 op, .int .i64 0, .int .i64 0, .int .i64 0, .slice none 0 0, .slice none 0 0]) ∧ BxAt w w' p (dBlk g cap (i + 6)) := by
  have CS := Lib.hid (fun i c W h1 h2 h3 h4 h5 => small_r p g cap i c W h1 h2 h3 h4 h5)
  have CG := Lib.hid (fun i W h1 h2 h3 h4 => signed_r p g cap i W h1 h2 h3 h4)
  have CC := Lib.hid (fun i c k W h1 h2 h3 h4 h5 => count_r p g cap i c k W h1 h2 h3 h4 h5)
  have hp := heap_lt hk.x
  have hA : Below w.heap.size w (w.alloc (xBlk 0)) := (Below.refl _ _).alloc (Nat.le_refl _) _
  have N := Lib.hid (NAt.mk ((BxAt.start hk).below hA) (hS.below hA) (KAt.new w (xBlk 0)) (Nat.ne_of_gt hp))
  have HI := Lib.hid hi
  clear hk hS hA hi
  go_enter Try.func42, Try.ntmps42
  go_wp2_with (first
    | (go_at_call 40; refine (CS.out i op _ N.out.b.k N.out.s (by have := HI.out; omega) (by rcases HI.out with ⟨rfl, rfl⟩ | ⟨rfl, rfl⟩ <;> decide) (by have := HI.out; omega)).mono ?_; rintro e w1 ⟨rfl, h1⟩; have N1 := Lib.hid (N.out.call h1); clear N h1)
    | (go_at_call 57; refine (CG.out (i + 1) _ N1.out.b.k N1.out.s (by have := HI.out; omega) (by rcases HI.out with ⟨rfl, rfl⟩ | ⟨rfl, rfl⟩ <;> decide)).mono ?_; rintro e w1 ⟨rfl, h1⟩; have N2 := Lib.hid (N1.out.call h1); clear N1 h1)
    | (go_at_call 57; refine (CG.out (i + 1 + 1) _ N2.out.b.k N2.out.s (by have := HI.out; omega) (by rcases HI.out with ⟨rfl, rfl⟩ | ⟨rfl, rfl⟩ <;> decide)).mono ?_; rintro e w1 ⟨rfl, h1⟩; have N3 := Lib.hid (N2.out.call h1); clear N2 h1)
    | (go_at_call 57; refine (CG.out (i + 1 + 1 + 1) _ N3.out.b.k N3.out.s (by have := HI.out; omega) (by rcases HI.out with ⟨rfl, rfl⟩ | ⟨rfl, rfl⟩ <;> decide)).mono ?_; rintro e w1 ⟨rfl, h1⟩; have N4 := Lib.hid ((N3.out.call h1).below ((Below.refl _ _).alloc (Nat.le_refl _) (xBlk op))); have X4 := Lib.hid (KAt.new w1 (xBlk op)); have E4 := Lib.hid (Nat.ne_of_gt (heap_lt (N3.out.call h1).b.k.x)); clear N3 h1)
    | (go_at_call 41; refine (CC.out (i + 1 + 1 + 1 + 1) 0 1 _ N4.out.b.k N4.out.s (by have := HI.out; omega) (by rcases HI.out with ⟨rfl, rfl⟩ | ⟨rfl, rfl⟩ <;> decide) (.inl ⟨rfl, rfl⟩)).mono ?_; rintro e w2 ⟨rfl, h1⟩; have N5 := Lib.hid (N4.out.call h1); have X5 := Lib.hid (h1.blk X4.out E4.out); clear N4 X4 h1; obtain ⟨x0, x1, x2, x3, x4, x5⟩ := X5.out.xcells))
  go_loopw [4] (fun v4 wr => v4 = .int .i64 0 ∧ wr = w2) (fun _ _ => 0)
  case atStart => exact ⟨rfl, rfl⟩
  case round =>
    obtain ⟨rfl, rfl⟩ := hrel
    go_wp2_with (first
      | (go_at_call 41; refine (CC.out (i + 1 + 1 + 1 + 1 + 1) 0 1 _ N5.out.b.k N5.out.s (by have := HI.out; omega) (by rcases HI.out with ⟨rfl, rfl⟩ | ⟨rfl, rfl⟩ <;> decide) (.inl ⟨rfl, rfl⟩)).mono ?_; rintro e w3 ⟨rfl, h1⟩; have N6 := Lib.hid (N5.out.call h1); have X6 := Lib.hid (h1.blk X5.out E4.out); clear N5 X5 h1 x0 x1 x2 x3 x4 x5; obtain ⟨x0, x1, x2, x3, x4, x5⟩ := X6.out.xcells))
    go_loopw [5] (fun v4 wr => v4 = .int .i64 0 ∧ wr = w3) (fun _ _ => 0)
    case atStart => exact ⟨rfl, rfl⟩
    case round =>
      obtain ⟨rfl, rfl⟩ := hrel
      obtain ⟨y0, y1, y2, y3, y4, y5⟩ := N6.out.e.xcells
      have z0 : wr.frozen? ⟨w.heap.size, 0, none⟩ = false := frozen_of_row _ _ _ _ _ N6.out.e.x
      have z1 : wr.frozen? ⟨w.heap.size, 1, none⟩ = false := frozen_of_row _ _ _ _ _ N6.out.e.x
      have z2 : wr.frozen? ⟨w.heap.size, 2, none⟩ = false := frozen_of_row _ _ _ _ _ N6.out.e.x
      have z3 : wr.frozen? ⟨w.heap.size, 3, none⟩ = false := frozen_of_row _ _ _ _ _ N6.out.e.x
      have z4 : wr.frozen? ⟨w.heap.size, 4, none⟩ = false := frozen_of_row _ _ _ _ _ N6.out.e.x
      have z5 : wr.frozen? ⟨w.heap.size, 5, none⟩ = false := frozen_of_row _ _ _ _ _ N6.out.e.x
      go_wp2_with fail
      have hS : w.heap.size ≠ p := N6.out.n
      have hi' : (Try.prog.info? 58).map (·.size) = some 6 := by kernel_rfl
      (try simp only [Exit.inBlock, Exit.then]); refine bodyPost_ret (results_cell_row rfl _ _ w.heap.size 58 _ (0, 0) _ rfl (x_set N6.out.e op 0 0 0 (.slice none 0 0) (.slice none 0 0)) Try.underlying58 rfl hi') rfl ?_
      exact ⟨rfl, (((((N6.out.b.put hp ⟨_, 0, none⟩ (Nat.le_refl _) hS _).put hp ⟨_, 1, none⟩ (Nat.le_refl _) hS _).put hp ⟨_, 2, none⟩ (Nat.le_refl _) hS _).put hp ⟨_, 3, none⟩ (Nat.le_refl _) hS _).put hp ⟨_, 4, none⟩ (Nat.le_refl _) hS _).put hp ⟨_, 5, none⟩ (Nat.le_refl _) hS _⟩
end Go.Proofs.Ytgbgahdeopedpaa
/- Walks of layer 24: the sections of a small image. -/
namespace Go.Proofs.Ytgbgahdeopedpaa
open Go.RowKit
set_option linter.unusedVariables false
attribute [local go_sem] ext_mk size_mk toList_mk get_mk take_drop_len take_tail_len ByteArray.mk_append_mk List.append_toArray

/-- the box of what is left of the bytes -/
def rBlk (g off n c : Nat) : Obj := .cells #[.slice (some ⟨g, off, none⟩) n c] 22 (0, 0)

theorem KAt.rcells {W : World} {q g off n c : Nat} (h : KAt W q (rBlk g off n c)) : W.cell? ⟨q, 0, none⟩ = some (.slice (some ⟨g, off, none⟩) n c) ∧ W.frozen? ⟨q, 0, none⟩ = false :=
  ⟨by rw [cell_of_row _ _ _ _ _ _ h.x]; rfl, frozen_of_row _ _ _ _ _ h.x⟩

theorem mk0 (W : World) : (Instr.makeSlice 22 (.int .i64 0) (.int .i64 0)).run Try.prog W = .ok (.slice (some ⟨W.heap.size, 0, none⟩) 0 0) (W.alloc (.cells #[] 5)) := by kernel_rfl

theorem mk1 (W : World) : (Instr.makeSlice 22 (.int .i64 1) (.int .i64 1)).run Try.prog W = .ok (.slice (some ⟨W.heap.size, 0, none⟩) 1 1) (W.alloc (.cells #[.int .u8 0] 5)) := by kernel_rfl

theorem mk19 (W : World) : (Instr.makeSlice 22 (.int .i64 19) (.int .i64 19)).run Try.prog W = .ok (.slice (some ⟨W.heap.size, 0, none⟩) 19 19) (W.alloc (.cells ((List.replicate 19 (Value.int .u8 0)).toArray) 5)) := by kernel_rfl

/-- the image's bytes lie -/
structure TAt (w : World) (g : Nat) : Prop where
  l : g < w.heap.size
  c : ∀ i, i < 35 → w.cell? ⟨g, i, none⟩ = some (.int .u8 ((imgL.getD i 0).toNat : Int))

theorem TAt.of {w : World} {g : Nat} (h : BysAt w (some ⟨g, 0, none⟩) imgL) : TAt w g := by
  rcases h.2 with q | ⟨b, off, q1, q2, q3⟩
  · exact absurd q (by decide)
  · cases q1; exact ⟨q2, fun i hi => by have := q3 i hi; rwa [Nat.zero_add] at this⟩

theorem TAt.below {w W : World} {g : Nat} (h : TAt w g) (hb : Below w.heap.size w W) : TAt W g :=
  ⟨Nat.lt_of_lt_of_le h.l hb.size, fun i hi => (hb.cell (p := ⟨g, i, none⟩) h.l).trans (h.c i hi)⟩

theorem TAt.bx {w W : World} {g p : Nat} {o : Obj} (h : TAt w g) (hn : g ≠ p) (k : BxAt w W p o) : TAt W g :=
  ⟨Nat.lt_of_lt_of_le h.l k.be.size, fun i hi => (k.cell (a := ⟨g, i, none⟩) h.l hn).trans (h.c i hi)⟩

theorem BxAt.rset {w W : World} {q g off n c : Nat} (h : BxAt w W q (rBlk g off n c)) (off' n' c' : Nat) : BxAt w (W.setCell ⟨q, 0, none⟩ (.slice (some ⟨g, off', none⟩) n' c')) q (rBlk g off' n' c') := h.set (i := 0) _

theorem TAt.src {W : World} {g : Nat} (h : TAt W g) (off : Nat) (l : List UInt8) (hl : ∀ j, j < l.length → imgL.getD (off + j) 0 = l.getD j 0) (hn : off + l.length ≤ 35) : ∀ j v, (Lib.byteCells l)[j]? = some v → W.cell? ((⟨g, off, none⟩ : Addr).add j) = some v :=
  BysAt.news (fun i hi => by rw [h.c (off + i) (by omega), hl i hi])

theorem bys_splice {W : World} {s : Nat} {l : List UInt8} {cur : List Value} {T : TypeId} (h : W.heap[s]? = some (.cells (splice cur 0 (Lib.byteCells l)).toArray T (0, 0))) (hl : cur.length = l.length) (hm : l.length ≤ 35) : BysAt W (some ⟨s, 0, none⟩) l := by
  have e : splice cur 0 (Lib.byteCells l) = Lib.byteCells l := by simp [splice, hl, Lib.byteCells]
  rw [e] at h
  refine ⟨by unfold maxLen; omega, .inr ⟨s, 0, rfl, heap_lt h, fun i hi => ?_⟩⟩
  rw [cell_of_row _ _ _ _ _ _ h]
  simp [Lib.byteCells, hi]

set_option maxHeartbeats 4000000 in
set_option maxRecDepth 8000 in
theorem next_1 (q g c : Nat) (w : World) (hk : KAt w q (rBlk g 5 26 c)) (hc : 26 + 4 ≤ c) (hT : TAt w g) (hg : g ≠ q) :
    Calls Try.prog 39 #[.int .i64 1, .pointer (some ⟨q, 0, none⟩)] w fun x w' => ∃ s c', x = .returned (.tuple #[.slice (some ⟨s, 0, none⟩) 1 1, .bool true]) ∧ w.heap.size ≤ s ∧ BysAt w' (some ⟨s, 0, none⟩) [97] ∧ BxAt w w' q (rBlk g 8 23 c') ∧ 23 + 4 ≤ c' := by
  have B0 := Lib.hid (BxAt.start hk)
  obtain ⟨e0, z0⟩ := hk.rcells
  have hq := heap_lt hk.x
  have b0 : w.cell? ⟨g, 5, none⟩ = some (.int .u8 1) := hT.c 5 (by decide)
  have HT := Lib.hid hT
  have kb : bits .or .i64 0 (wrap64 (wrap64 (bits .and .u8 1 127))) = 1 := by decide +kernel
  have hmk := fun W => mk1 W
  have hi' : (Try.prog.info? 5).map (·.size) = some 1 := by kernel_rfl
  clear hk hT
  go_enter Try.func39, Try.ntmps39
  go_wp2_with fail
  obtain ⟨W1, hW1⟩ : ∃ W, w.setCell ⟨q, 0, none⟩ (.slice (some ⟨g, 5 + 1, none⟩) (26 - 1) (c - 1)) = W := ⟨_, rfl⟩
  have B1 := B0.out.rset (5 + 1) (26 - 1) (c - 1)
  rw [hW1] at B1
  rw [show (5 + 1 : Nat) = 6 from rfl, show (26 - 1 : Nat) = 25 from rfl] at B1 hW1
  rw [hW1]
  clear hW1 e0 z0 b0
  obtain ⟨e0, z0⟩ := B1.k.rcells
  have b0 : W1.cell? ⟨g, 6, none⟩ = some (.int .u8 1) := (HT.out.bx hg B1).c 6 (by decide)
  have B1 := Lib.hid B1
  go_loopw [5, 6] (fun v5 v6 wr => v5 = .int .i64 0 ∧ v6 = .int .i64 0 ∧ wr = W1) (fun _ _ _ => 0)
  case atStart => exact ⟨rfl, rfl, rfl⟩
  case round =>
    obtain ⟨rfl, rfl, rfl⟩ := hrel
    have hqa : ∀ (n' c' : Nat) (o : Obj), ((wr.setCell ⟨q, 0, none⟩ (.slice (some ⟨g, 6 + 1, none⟩) n' c')).alloc o).cell? ⟨q, 0, none⟩ = some (.slice (some ⟨g, 6 + 1, none⟩) n' c') := fun n' c' o => ((B1.out.rset (6 + 1) n' c').alloc o).k.rcells.1
    rw [show (6 + 1 : Nat) = 7 from rfl] at hqa
    have hz : (wr.setCell ⟨q, 0, none⟩ (.slice (some ⟨g, 7, none⟩) (25 - 1) (c - 1 - 1))).heap.size = wr.heap.size := by simp [World.setCell]
    have hbl : Below wr.heap.size (wr.setCell ⟨q, 0, none⟩ (.slice (some ⟨g, 7, none⟩) (25 - 1) (c - 1 - 1))) ((wr.setCell ⟨q, 0, none⟩ (.slice (some ⟨g, 7, none⟩) (25 - 1) (c - 1 - 1))).alloc (.cells (List.replicate 1 (Value.int .u8 0)).toArray 5)) := (Below.refl _ _).alloc (Nat.le_of_eq hz.symm) _
    have hnw := heap_alloc_new (wr.setCell ⟨q, 0, none⟩ (.slice (some ⟨g, 7, none⟩) (25 - 1) (c - 1 - 1))) (.cells (List.replicate 1 (Value.int .u8 0)).toArray 5)
    rw [hz] at hnw
    have hB2 := (B1.out.rset 7 (25 - 1) (c - 1 - 1)).alloc (.cells (List.replicate 1 (Value.int .u8 0)).toArray 5)
    have HZ := Lib.hid hz
    have HBL := Lib.hid hbl
    have HNW := Lib.hid hnw
    have HB2 := Lib.hid hB2
    clear hz hbl hnw hB2
    go_wp2_with ((with_reducible show wpList _ _ _ _ _ _); (refine wpList_copy_splice rfl (.tmp 57) (.tmp 58) 22 22 rfl 5 Try.underlying22 hi' (some ⟨wr.heap.size, 0, none⟩) (some ⟨g, 7, none⟩) 1 1 (25 - 1) (c - 1 - 1) rfl rfl wr.heap.size 0 (List.replicate 1 (Value.int .u8 0)) 5 HNW.out (Lib.byteCells [97]) rfl (fun _ => ⟨rfl, _, rfl, (HT.out.bx hg HB2.out).src 7 [97] (by decide) (by decide)⟩) (Nat.le_refl _) (by decide) wr.heap.size _ HBL.out (Nat.le_refl _) ?_); intro w2 HG2 hb2; have B3 := Lib.hid ((B1.out.rset 7 (25 - 1) (c - 1 - 1)).below (by rw [HZ.out]; exact hb2)); clear e0 z0 b0 hqa hb2; obtain ⟨e0, z0⟩ := B3.out.k.rcells)
    go_ret2
    have hqs : wr.heap.size ≠ q := by have := B1.out.be.size; have := B1.out.k; have := heap_lt this.x; omega
    exact ⟨wr.heap.size, _, rfl, B1.out.be.size, bys_splice (by rw [Below.heap_setCell _ _ _ _ hqs]; exact HG2.out) (List.length_replicate.trans rfl) (by decide), B3.out.rset _ _ _, by omega⟩

set_option maxHeartbeats 4000000 in
set_option maxRecDepth 8000 in
theorem next_2 (q g c : Nat) (w : World) (hk : KAt w q (rBlk g 8 23 c)) (hc : 23 + 4 ≤ c) (hT : TAt w g) (hg : g ≠ q) :
    Calls Try.prog 39 #[.int .i64 2, .pointer (some ⟨q, 0, none⟩)] w fun x w' => ∃ s c', x = .returned (.tuple #[.slice (some ⟨s, 0, none⟩) 0 0, .bool true]) ∧ w.heap.size ≤ s ∧ BysAt w' (some ⟨s, 0, none⟩) [] ∧ BxAt w w' q (rBlk g 10 21 c') ∧ 21 + 4 ≤ c' := by
  have B0 := Lib.hid (BxAt.start hk)
  obtain ⟨e0, z0⟩ := hk.rcells
  have hq := heap_lt hk.x
  have b0 : w.cell? ⟨g, 8, none⟩ = some (.int .u8 2) := hT.c 8 (by decide)
  have HT := Lib.hid hT
  have kb : bits .or .i64 0 (wrap64 (wrap64 (bits .and .u8 0 127))) = 0 := by decide +kernel
  have hmk := fun W => mk0 W
  have hi' : (Try.prog.info? 5).map (·.size) = some 1 := by kernel_rfl
  clear hk hT
  go_enter Try.func39, Try.ntmps39
  go_wp2_with fail
  obtain ⟨W1, hW1⟩ : ∃ W, w.setCell ⟨q, 0, none⟩ (.slice (some ⟨g, 8 + 1, none⟩) (23 - 1) (c - 1)) = W := ⟨_, rfl⟩
  have B1 := B0.out.rset (8 + 1) (23 - 1) (c - 1)
  rw [hW1] at B1
  rw [show (8 + 1 : Nat) = 9 from rfl, show (23 - 1 : Nat) = 22 from rfl] at B1 hW1
  rw [hW1]
  clear hW1 e0 z0 b0
  obtain ⟨e0, z0⟩ := B1.k.rcells
  have b0 : W1.cell? ⟨g, 9, none⟩ = some (.int .u8 0) := (HT.out.bx hg B1).c 9 (by decide)
  have B1 := Lib.hid B1
  go_loopw [5, 6] (fun v5 v6 wr => v5 = .int .i64 0 ∧ v6 = .int .i64 0 ∧ wr = W1) (fun _ _ _ => 0)
  case atStart => exact ⟨rfl, rfl, rfl⟩
  case round =>
    obtain ⟨rfl, rfl, rfl⟩ := hrel
    have hqa : ∀ (n' c' : Nat) (o : Obj), ((wr.setCell ⟨q, 0, none⟩ (.slice (some ⟨g, 9 + 1, none⟩) n' c')).alloc o).cell? ⟨q, 0, none⟩ = some (.slice (some ⟨g, 9 + 1, none⟩) n' c') := fun n' c' o => ((B1.out.rset (9 + 1) n' c').alloc o).k.rcells.1
    rw [show (9 + 1 : Nat) = 10 from rfl] at hqa
    have hz : (wr.setCell ⟨q, 0, none⟩ (.slice (some ⟨g, 10, none⟩) (22 - 1) (c - 1 - 1))).heap.size = wr.heap.size := by simp [World.setCell]
    have hbl : Below wr.heap.size (wr.setCell ⟨q, 0, none⟩ (.slice (some ⟨g, 10, none⟩) (22 - 1) (c - 1 - 1))) ((wr.setCell ⟨q, 0, none⟩ (.slice (some ⟨g, 10, none⟩) (22 - 1) (c - 1 - 1))).alloc (.cells (List.replicate 0 (Value.int .u8 0)).toArray 5)) := (Below.refl _ _).alloc (Nat.le_of_eq hz.symm) _
    have hnw := heap_alloc_new (wr.setCell ⟨q, 0, none⟩ (.slice (some ⟨g, 10, none⟩) (22 - 1) (c - 1 - 1))) (.cells (List.replicate 0 (Value.int .u8 0)).toArray 5)
    rw [hz] at hnw
    have hB2 := (B1.out.rset 10 (22 - 1) (c - 1 - 1)).alloc (.cells (List.replicate 0 (Value.int .u8 0)).toArray 5)
    have HZ := Lib.hid hz
    have HBL := Lib.hid hbl
    have HNW := Lib.hid hnw
    have HB2 := Lib.hid hB2
    clear hz hbl hnw hB2
    go_wp2_with ((with_reducible show wpList _ _ _ _ _ _); (refine wpList_copy_splice rfl (.tmp 57) (.tmp 58) 22 22 rfl 5 Try.underlying22 hi' (some ⟨wr.heap.size, 0, none⟩) (some ⟨g, 10, none⟩) 0 0 (22 - 1) (c - 1 - 1) rfl rfl wr.heap.size 0 (List.replicate 0 (Value.int .u8 0)) 5 HNW.out (Lib.byteCells []) rfl (fun _ => ⟨rfl, _, rfl, (HT.out.bx hg HB2.out).src 10 [] (by decide) (by decide)⟩) (Nat.le_refl _) (by decide) wr.heap.size _ HBL.out (Nat.le_refl _) ?_); intro w2 HG2 hb2; have B3 := Lib.hid ((B1.out.rset 10 (22 - 1) (c - 1 - 1)).below (by rw [HZ.out]; exact hb2)); clear e0 z0 b0 hqa hb2; obtain ⟨e0, z0⟩ := B3.out.k.rcells)
    go_ret2
    have hqs : wr.heap.size ≠ q := by have := B1.out.be.size; have := B1.out.k; have := heap_lt this.x; omega
    exact ⟨wr.heap.size, _, rfl, B1.out.be.size, bys_splice (by rw [Below.heap_setCell _ _ _ _ hqs]; exact HG2.out) (List.length_replicate.trans rfl) (by decide), B3.out.rset _ _ _, by omega⟩

set_option maxHeartbeats 4000000 in
set_option maxRecDepth 8000 in
theorem next_3 (q g c : Nat) (w : World) (hk : KAt w q (rBlk g 10 21 c)) (hc : 21 + 4 ≤ c) (hT : TAt w g) (hg : g ≠ q) :
    Calls Try.prog 39 #[.int .i64 3, .pointer (some ⟨q, 0, none⟩)] w fun x w' => ∃ s c', x = .returned (.tuple #[.slice (some ⟨s, 0, none⟩) 19 19, .bool true]) ∧ w.heap.size ≤ s ∧ BysAt w' (some ⟨s, 0, none⟩) encL ∧ BxAt w w' q (rBlk g 31 0 c') ∧ 0 + 4 ≤ c' := by
  have B0 := Lib.hid (BxAt.start hk)
  obtain ⟨e0, z0⟩ := hk.rcells
  have hq := heap_lt hk.x
  have b0 : w.cell? ⟨g, 10, none⟩ = some (.int .u8 3) := hT.c 10 (by decide)
  have HT := Lib.hid hT
  have kb : bits .or .i64 0 (wrap64 (wrap64 (bits .and .u8 19 127))) = 19 := by decide +kernel
  have hmk := fun W => mk19 W
  have hi' : (Try.prog.info? 5).map (·.size) = some 1 := by kernel_rfl
  clear hk hT
  go_enter Try.func39, Try.ntmps39
  go_wp2_with fail
  obtain ⟨W1, hW1⟩ : ∃ W, w.setCell ⟨q, 0, none⟩ (.slice (some ⟨g, 10 + 1, none⟩) (21 - 1) (c - 1)) = W := ⟨_, rfl⟩
  have B1 := B0.out.rset (10 + 1) (21 - 1) (c - 1)
  rw [hW1] at B1
  rw [show (10 + 1 : Nat) = 11 from rfl, show (21 - 1 : Nat) = 20 from rfl] at B1 hW1
  rw [hW1]
  clear hW1 e0 z0 b0
  obtain ⟨e0, z0⟩ := B1.k.rcells
  have b0 : W1.cell? ⟨g, 11, none⟩ = some (.int .u8 19) := (HT.out.bx hg B1).c 11 (by decide)
  have B1 := Lib.hid B1
  go_loopw [5, 6] (fun v5 v6 wr => v5 = .int .i64 0 ∧ v6 = .int .i64 0 ∧ wr = W1) (fun _ _ _ => 0)
  case atStart => exact ⟨rfl, rfl, rfl⟩
  case round =>
    obtain ⟨rfl, rfl, rfl⟩ := hrel
    have hqa : ∀ (n' c' : Nat) (o : Obj), ((wr.setCell ⟨q, 0, none⟩ (.slice (some ⟨g, 11 + 1, none⟩) n' c')).alloc o).cell? ⟨q, 0, none⟩ = some (.slice (some ⟨g, 11 + 1, none⟩) n' c') := fun n' c' o => ((B1.out.rset (11 + 1) n' c').alloc o).k.rcells.1
    rw [show (11 + 1 : Nat) = 12 from rfl] at hqa
    have hz : (wr.setCell ⟨q, 0, none⟩ (.slice (some ⟨g, 12, none⟩) (20 - 1) (c - 1 - 1))).heap.size = wr.heap.size := by simp [World.setCell]
    have hbl : Below wr.heap.size (wr.setCell ⟨q, 0, none⟩ (.slice (some ⟨g, 12, none⟩) (20 - 1) (c - 1 - 1))) ((wr.setCell ⟨q, 0, none⟩ (.slice (some ⟨g, 12, none⟩) (20 - 1) (c - 1 - 1))).alloc (.cells (List.replicate 19 (Value.int .u8 0)).toArray 5)) := (Below.refl _ _).alloc (Nat.le_of_eq hz.symm) _
    have hnw := heap_alloc_new (wr.setCell ⟨q, 0, none⟩ (.slice (some ⟨g, 12, none⟩) (20 - 1) (c - 1 - 1))) (.cells (List.replicate 19 (Value.int .u8 0)).toArray 5)
    rw [hz] at hnw
    have hB2 := (B1.out.rset 12 (20 - 1) (c - 1 - 1)).alloc (.cells (List.replicate 19 (Value.int .u8 0)).toArray 5)
    have HZ := Lib.hid hz
    have HBL := Lib.hid hbl
    have HNW := Lib.hid hnw
    have HB2 := Lib.hid hB2
    clear hz hbl hnw hB2
    go_wp2_with ((with_reducible show wpList _ _ _ _ _ _); (refine wpList_copy_splice rfl (.tmp 57) (.tmp 58) 22 22 rfl 5 Try.underlying22 hi' (some ⟨wr.heap.size, 0, none⟩) (some ⟨g, 12, none⟩) 19 19 (20 - 1) (c - 1 - 1) rfl rfl wr.heap.size 0 (List.replicate 19 (Value.int .u8 0)) 5 HNW.out (Lib.byteCells encL) rfl (fun _ => ⟨rfl, _, rfl, (HT.out.bx hg HB2.out).src 12 encL (by decide) (by decide)⟩) (Nat.le_refl _) (by decide) wr.heap.size _ HBL.out (Nat.le_refl _) ?_); intro w2 HG2 hb2; have B3 := Lib.hid ((B1.out.rset 12 (20 - 1) (c - 1 - 1)).below (by rw [HZ.out]; exact hb2)); clear e0 z0 b0 hqa hb2; obtain ⟨e0, z0⟩ := B3.out.k.rcells)
    go_ret2
    have hqs : wr.heap.size ≠ q := by have := B1.out.be.size; have := B1.out.k; have := heap_lt this.x; omega
    exact ⟨wr.heap.size, _, rfl, B1.out.be.size, bys_splice (by rw [Below.heap_setCell _ _ _ _ hqs]; exact HG2.out) (List.length_replicate.trans rfl) (by decide), B3.out.rset _ _ _, by omega⟩
end Go.Proofs.Ytgbgahdeopedpaa
/- Walks of layer 24: what a small image's sections are. -/
namespace Go.Proofs.Ytgbgahdeopedpaa
open Go.RowKit
set_option linter.unusedVariables false
attribute [local go_sem] ext_mk size_mk toList_mk get_mk take_drop_len take_tail_len ByteArray.mk_append_mk List.append_toArray

theorem results_cell2 {P : Program} {fn : Func} {p u : Tmp} {ty : TypeId} (h : fn.results = #[.cell p ty, .tmp u]) (tmps : Array Value) (w : World) (g : Nat) (t : TypeId) (cs : Array Value) (fr : Nat × Nat) (d : TypeDesc)
    (hp : tmps.getD p undef = .pointer (some ⟨g, 0, none⟩)) (hg : w.heap[g]? = some (.cells cs t fr))
    (hu : P.underlying ty = some d) (hd : (match d with | .struct _ | .array _ _ => true | _ => false) = true) (hi : (P.info? ty).map (·.size) = some cs.size) :
    (results fn tmps).run P w = .ok (.tuple #[.agg cs, tmps.getD u undef]) w := by
  have hp' : tmps[p]?.getD undef = .pointer (some ⟨g, 0, none⟩) := by simpa using hp
  simp [results, h, hp', asAddr, run_loadVar_row w g t ty cs fr d hg hu hd hi]

theorem conv_bys {W : World} {g off : Nat} {l : List UInt8} (cap : Nat) (h : ∀ j u, (Lib.byteCells l)[j]? = some u → W.cell? ((⟨g, off, none⟩ : Addr).add j) = some u) : Sem.run Try.prog (convert 22 9 (.slice (some ⟨g, off, none⟩) l.length cap)) W = .ok (.string ⟨l.toArray⟩) W :=
  run_convert_bytes_back _ 22 9 5 ⟨g, off, none⟩ cap l Try.underlying22 Try.underlying5 Try.underlying9 (fun j hj => h j _ (by simp [Lib.byteCells, hj]))

def zBlk : Obj := .cells #[.slice none 0 0, .slice none 0 0, .slice none 0 0] 67 (0, 0)

theorem TAt.body {W : World} {g : Nat} (h : TAt W g) : BysAt W (some ⟨g, 0, none⟩) (pkL 3) := by
  refine ⟨by decide, .inr ⟨g, 0, rfl, h.l, fun i hi => ?_⟩⟩
  have hi' : i < 31 := hi
  rw [Nat.zero_add, h.c i (by omega)]
  congr 2
  exact (show ∀ i, i < 31 → ((imgL.getD i 0).toNat : Int) = (((pkL 3).getD i 0).toNat : Int) from by decide) i hi'

structure SW (WA W : World) (g : Nat) : Prop where
  be : Below WA.heap.size WA W
  T : TAt W g

theorem SW.all {WA W V : World} {g : Nat} (h : SW WA W g) (hb : Below W.heap.size W V) : V.cell? ⟨g, 31, none⟩ = some (.int .u8 205) ∧ V.cell? ⟨g, 32, none⟩ = some (.int .u8 98) ∧ V.cell? ⟨g, 33, none⟩ = some (.int .u8 103) ∧ V.cell? ⟨g, 34, none⟩ = some (.int .u8 42) ∧ SW WA V g :=
  have hT := h.T.below hb
  ⟨hT.c 31 (by decide), hT.c 32 (by decide), hT.c 33 (by decide), hT.c 34 (by decide), h.be.trans (hb.mono h.be.size), hT⟩

theorem sum_31 (WA : World) (g cap : Nat) (W : World) (h : SW WA W g) :
    Calls Try.prog 10 #[.slice (some ⟨g, 0, none⟩) 31 cap] W fun e w' => e = .returned (.int .u32 711418573) ∧ Below W.heap.size W w' := by
  have := sum_any (some ⟨g, 0, none⟩) (pkL 3) cap W h.T.body
  rw [sum31] at this
  exact this

def oBlk (v0 v1 v2 : Value) : Obj := .cells #[v0, v1, v2] 67 (0, 0)

/-- what the sections' loop keeps: the result's box, the rows that were read, the box of what is left -/
structure SeAt (w W : World) (q g off n : Nat) (v0 v1 v2 : Value) : Prop where
  be : Below w.heap.size w W
  r : KAt W w.heap.size zBlk
  o : KAt W (w.heap.size + 1) (oBlk v0 v1 v2)
  b : ∃ c, n + 4 ≤ c ∧ KAt W q (rBlk g off n c)
  hq : w.heap.size + 1 < q
  hg : g < w.heap.size
  T : TAt W g

theorem SeAt.next {w W V : World} {q g off n off' n' c : Nat} {v0 v1 v2 : Value} (h : SeAt w W q g off n v0 v1 v2) (k : BxAt W V q (rBlk g off' n' c)) (hc : n' + 4 ≤ c) : SeAt w V q g off' n' v0 v1 v2 :=
  have := h.hq
  ⟨h.be.trans (k.be.mono (by omega)), k.blk h.r (by omega), k.blk h.o (by omega), ⟨c, hc, k.k⟩, h.hq, h.hg, h.T.bx (by have := h.hg; omega) k⟩

theorem SeAt.put {w W : World} {q g off n : Nat} {v0 v1 v2 : Value} (h : SeAt w W q g off n v0 v1 v2) (i : Nat) (v : Value) :
    SeAt w (W.setCell ⟨w.heap.size + 1, i, none⟩ v) q g off n (if i = 0 then v else v0) (if i = 1 then v else v1) (if i = 2 then v else v2) := by
  have h1 := h.hq
  have h2 := h.hg
  obtain ⟨c, hc, hk⟩ := h.b
  refine ⟨h.be.setCell (p := ⟨w.heap.size + 1, i, none⟩) (Nat.le_succ _) _, h.r.put _ (by show w.heap.size ≠ w.heap.size + 1; omega) _, ⟨?_⟩, ⟨c, hc, hk.put _ (by show q ≠ w.heap.size + 1; omega) _⟩, h1, h2, ?_⟩
  · have e := heap_setCell_same (i := i) _ _ _ _ v h.o.x
    rw [e]
    match i with
    | 0 | 1 | 2 => rfl
    | (i + 3) => simp [oBlk]
  · exact ⟨by have := h.T.l; simpa [World.setCell] using this, fun j hj => (World.cell?_of_block (a := ⟨g, j, none⟩) (Below.heap_setCell _ _ _ _ (by show g ≠ w.heap.size + 1; omega))).trans (h.T.c j hj)⟩

theorem SeAt.cells {w W : World} {q g off n : Nat} {v0 v1 v2 : Value} (h : SeAt w W q g off n v0 v1 v2) :
    (∃ c, W.cell? ⟨q, 0, none⟩ = some (.slice (some ⟨g, off, none⟩) n c)) ∧
    W.cell? ⟨w.heap.size + 1, 0, none⟩ = some v0 ∧ W.cell? ⟨w.heap.size + 1, 1, none⟩ = some v1 ∧ W.cell? ⟨w.heap.size + 1, 2, none⟩ = some v2 ∧
    W.frozen? ⟨w.heap.size + 1, 0, none⟩ = false ∧ W.frozen? ⟨w.heap.size + 1, 1, none⟩ = false ∧ W.frozen? ⟨w.heap.size + 1, 2, none⟩ = false := by
  obtain ⟨c, hc, hk⟩ := h.b
  refine ⟨⟨c, hk.rcells.1⟩, ?_, ?_, ?_, frozen_of_row _ _ _ _ _ h.o.x, frozen_of_row _ _ _ _ _ h.o.x, frozen_of_row _ _ _ _ _ h.o.x⟩
  all_goals (rw [cell_of_row _ _ _ _ _ _ h.o.x]; rfl)

theorem SeAt.rcells {w W : World} {q g off n : Nat} {v0 v1 v2 : Value} (h : SeAt w W q g off n v0 v1 v2) :
    W.cell? ⟨w.heap.size, 0, none⟩ = some (.slice none 0 0) ∧ W.cell? ⟨w.heap.size, 1, none⟩ = some (.slice none 0 0) ∧ W.cell? ⟨w.heap.size, 2, none⟩ = some (.slice none 0 0) ∧
    W.frozen? ⟨w.heap.size, 0, none⟩ = false ∧ W.frozen? ⟨w.heap.size, 1, none⟩ = false ∧ W.frozen? ⟨w.heap.size, 2, none⟩ = false := by
  refine ⟨?_, ?_, ?_, frozen_of_row _ _ _ _ _ h.r.x, frozen_of_row _ _ _ _ _ h.r.x, frozen_of_row _ _ _ _ _ h.r.x⟩
  all_goals (rw [cell_of_row _ _ _ _ _ _ h.r.x]; rfl)

theorem se_start {w WA wc : World} {g c : Nat} (hA : Below w.heap.size w WA) (hT : TAt WA g) (k0 : KAt WA w.heap.size zBlk) (k1 : KAt WA (w.heap.size + 1) zBlk) (hb : Below WA.heap.size WA wc) (hc : 26 + 4 ≤ c) (hg : g < w.heap.size) :
    SeAt w (wc.alloc (rBlk g 5 26 c)) wc.heap.size g 5 26 (.slice none 0 0) (.slice none 0 0) (.slice none 0 0) := by
  have hz : Below wc.heap.size wc (wc.alloc (rBlk g 5 26 c)) := (Below.refl _ _).alloc (Nat.le_refl _) _
  have h1 := heap_lt k1.x
  have h2 := hb.size
  exact ⟨(hA.trans (hb.mono hA.size)).trans (hz.mono (by omega)), (k0.below hb).alloc _, (k1.below hb).alloc _, ⟨c, hc, KAt.new _ _⟩, by omega, hg, (hT.below hb).below hz⟩

theorem BysAt.blk {W V : World} {s : Nat} {l : List UInt8} (h : BysAt W (some ⟨s, 0, none⟩) l) (e : s < W.heap.size → V.heap[s]? = W.heap[s]?) (hz : W.heap.size ≤ V.heap.size) : BysAt V (some ⟨s, 0, none⟩) l := by
  refine ⟨h.1, ?_⟩
  rcases h.2 with q | ⟨b, off, q1, q2, q3⟩
  · exact .inl q
  · cases q1
    exact .inr ⟨s, 0, rfl, Nat.lt_of_lt_of_le q2 hz, fun i hi => (World.cell?_of_block (a := ⟨s, 0 + i, none⟩) (e q2)).trans (q3 i hi)⟩

theorem BysAt.bx {W V : World} {s p : Nat} {l : List UInt8} {o : Obj} (h : BysAt W (some ⟨s, 0, none⟩) l) (hn : s ≠ p) (k : BxAt W V p o) : BysAt V (some ⟨s, 0, none⟩) l := h.blk (fun hl => k.kp s hl hn) k.be.size

theorem BysAt.put {W : World} {s : Nat} {l : List UInt8} (h : BysAt W (some ⟨s, 0, none⟩) l) {a : Addr} (hn : s ≠ a.block) (v : Value) : BysAt (W.setCell a v) (some ⟨s, 0, none⟩) l := h.blk (fun hl => Below.heap_setCell _ _ _ _ hn) (by simp [World.setCell])
abbrev Se0 (w W : World) (q g : Nat) : Prop := SeAt w W q g 5 26 (.slice none 0 0) (.slice none 0 0) (.slice none 0 0)

structure Se1 (w W : World) (q g s0 : Nat) : Prop where
  s : SeAt w W q g 8 23 (.slice (some ⟨s0, 0, none⟩) 1 1) (.slice none 0 0) (.slice none 0 0)
  h0 : q < s0
  b0 : BysAt W (some ⟨s0, 0, none⟩) [97]

structure Se2 (w W : World) (q g s0 s1 : Nat) : Prop where
  s : SeAt w W q g 10 21 (.slice (some ⟨s0, 0, none⟩) 1 1) (.slice (some ⟨s1, 0, none⟩) 0 0) (.slice none 0 0)
  h0 : q < s0
  b0 : BysAt W (some ⟨s0, 0, none⟩) [97]
  h1 : q < s1
  b1 : BysAt W (some ⟨s1, 0, none⟩) []

structure Se3 (w W : World) (q g s0 s1 s2 : Nat) : Prop where
  s : SeAt w W q g 31 0 (.slice (some ⟨s0, 0, none⟩) 1 1) (.slice (some ⟨s1, 0, none⟩) 0 0) (.slice (some ⟨s2, 0, none⟩) 19 19)
  h0 : q < s0
  b0 : BysAt W (some ⟨s0, 0, none⟩) [97]
  h1 : q < s1
  b1 : BysAt W (some ⟨s1, 0, none⟩) []
  h2 : q < s2
  b2 : BysAt W (some ⟨s2, 0, none⟩) encL

theorem se_ne {w W : World} {q g off n s i : Nat} {v0 v1 v2 : Value} (h : SeAt w W q g off n v0 v1 v2) (hs : q < s) : s ≠ (⟨w.heap.size + 1, i, none⟩ : Addr).block := by
  have := h.hq
  show s ≠ w.heap.size + 1
  omega

theorem z_set {W : World} {m : Nat} (h : KAt W m zBlk) (a b c : Value) :
    (((W.setCell ⟨m, 0, none⟩ a).setCell ⟨m, 1, none⟩ b).setCell ⟨m, 2, none⟩ c).heap[m]? = some (.cells #[a, b, c] 67 (0, 0)) :=
  heap_setCell_same (i := 2) _ _ _ _ _ (heap_setCell_same (i := 1) _ _ _ _ _ (heap_setCell_same (i := 0) _ _ _ _ _ h.x))

set_option maxHeartbeats 4000000 in
set_option maxRecDepth 8000 in
theorem sections_p1 (g cap : Nat) (w : World) (hB : BysAt w (some ⟨g, 0, none⟩) imgL) (hc : 35 ≤ cap) :
    Calls Try.prog 26 #[.slice (some ⟨g, 0, none⟩) 35 cap] w fun x w' => ∃ s0 s1 s2, x = .returned (.tuple #[.agg #[.slice (some ⟨s0, 0, none⟩) 1 1, .slice (some ⟨s1, 0, none⟩) 0 0, .slice (some ⟨s2, 0, none⟩) 19 19], .int .i64 0]) ∧ BysAt w' (some ⟨s0, 0, none⟩) [97] ∧ BysAt w' (some ⟨s1, 0, none⟩) [] ∧ BysAt w' (some ⟨s2, 0, none⟩) encL ∧ Below w.heap.size w w' := by
  have hT := TAt.of hB
  have CS := Lib.hid (fun a l cap W h => sum_any a l cap W h)
  have hmf : ∀ (fn : Fn) (first cap : Array Value) (w : World), (Instr.makeFunc fn first cap).run Try.prog w = .ok (.func fn first cap) w := fun _ _ _ _ => rfl
  have hA2 : ∀ o1 o2, Below w.heap.size w ((w.alloc o1).alloc o2) := fun o1 o2 => ((Below.refl _ _).alloc (Nat.le_refl _) _).alloc (by simp) _
  have hcv : ∀ o1 o2, Sem.run Try.prog (convert 22 9 (.slice (some ⟨g, 0, none⟩) 4 cap)) ((w.alloc o1).alloc o2) = .ok (.string ⟨#[107, 105, 108, 110]⟩) ((w.alloc o1).alloc o2) := fun o1 o2 => conv_bys (l := [107, 105, 108, 110]) cap ((hT.below (hA2 o1 o2)).src 0 [107, 105, 108, 110] (by decide) (by decide))
  have b4 : ∀ o1 o2, ((w.alloc o1).alloc o2).cell? ⟨g, 4, none⟩ = some (.int .u8 1) := fun o1 o2 => (hT.below (hA2 o1 o2)).c 4 (by decide)
  have HB := Lib.hid hB
  have HT := Lib.hid hT
  have HA2 := Lib.hid hA2
  clear hB hT hA2
  go_enter Try.func26, Try.ntmps26
  go_wp2_with fail
  go_quiet (fail)
  go_wp2_with fail
  obtain ⟨WA, hWA⟩ : ∃ W, (((w.alloc (.cells #[.slice none 0 0, .slice none 0 0, .slice none 0 0] 67)).alloc (.cells #[.slice none 0 0, .slice none 0 0, .slice none 0 0] 67)).drewN nq) = W := ⟨_, rfl⟩
  have hAA : Below w.heap.size w WA := by rw [← hWA]; exact below_drewN (HA2.out _ _) _
  have k0 : KAt WA w.heap.size zBlk := by rw [← hWA]; exact ((KAt.new w zBlk).alloc zBlk).below (below_drewN (Below.refl _ _) _)
  have k1 : KAt WA (w.heap.size + 1) zBlk := by
    have h := KAt.new (w.alloc zBlk) zBlk
    rw [show (w.alloc zBlk).heap.size = w.heap.size + 1 from by simp] at h
    rw [← hWA]; exact h.below (below_drewN (Below.refl _ _) _)
  rw [hWA]
  clear hWA hcv b4
  have hTA := HT.out.below hAA
  have b31 : WA.cell? ⟨g, 31, none⟩ = some (.int .u8 205) := hTA.c 31 (by decide)
  have b32 : WA.cell? ⟨g, 32, none⟩ = some (.int .u8 98) := hTA.c 32 (by decide)
  have b33 : WA.cell? ⟨g, 33, none⟩ = some (.int .u8 103) := hTA.c 33 (by decide)
  have b34 : WA.cell? ⟨g, 34, none⟩ = some (.int .u8 42) := hTA.c 34 (by decide)
  have HAA := Lib.hid hAA
  have HTA := Lib.hid hTA
  have K0 := Lib.hid k0
  have K1 := Lib.hid k1
  clear hAA hTA k0 k1
  go_cut [61] from 37 to 61 (fun v61 wx => v61 = .bool false ∧ Below WA.heap.size WA wx)
  case first =>
    have hS0 : SW WA WA.drew g := ⟨(Below.refl _ _).drew, HTA.out.below ((Below.refl _ _).drew)⟩
    have CT := Lib.hid (fun W => sum_31 WA g cap W)
    go_region_held3 (fun w' => w'.cell? ⟨g, 31, none⟩ = some (.int .u8 205) ∧ w'.cell? ⟨g, 32, none⟩ = some (.int .u8 98) ∧ w'.cell? ⟨g, 33, none⟩ = some (.int .u8 103) ∧ w'.cell? ⟨g, 34, none⟩ = some (.int .u8 42) ∧ SW WA w' g)
      (first
        | (go_keep; done)
        | (refine ⟨?_, ?_, ?_, ?_, hS0⟩ <;> (go_keep; done))
        | (go_split_ands; exact SW.all (by assumption) hbx))
      (first | (go_at_call 10; (with_reducible refine (CT.out _ ?_).mono ?_); (go_split_ands; assumption); rintro e w1 ⟨rfl, hbx⟩))
    all_goals go_wp2_with fail
    all_goals go_meet
    all_goals (go_split_ands; exact ⟨rfl, SW.be (by assumption)⟩)
  case rest =>
    obtain ⟨rfl, hb1⟩ := hcut
    have se := se_start HAA.out HTA.out K0.out K1.out hb1 (show 26 + 4 ≤ cap - 5 by omega) HT.out.l
    have N1 := Lib.hid (fun q g c W h1 h2 h3 h4 => next_1 q g c W h1 h2 h3 h4)
    have N2 := Lib.hid (fun q g c W h1 h2 h3 h4 => next_2 q g c W h1 h2 h3 h4)
    have N3 := Lib.hid (fun q g c W h1 h2 h3 h4 => next_3 q g c W h1 h2 h3 h4)
    have SE := Lib.hid se
    clear hb1 se b31 b32 b33 b34
    go_wp2_with fail
    obtain ⟨W3, hW3⟩ : ∃ W, wc.alloc (.cells #[.slice (some ⟨g, 5, none⟩) 26 (cap - 5)] 22) = W := ⟨_, rfl⟩
    have se := SE.out
    unfold rBlk at se
    rw [hW3] at se
    rw [hW3]
    obtain ⟨q, hq⟩ : ∃ q, wc.heap.size = q := ⟨_, rfl⟩
    rw [hq] at se
    rw [hq]
    clear SE hW3 hq
    have SE := Lib.hid se
    clear se
    go_loopw [66] (fun vi wr => (vi = .int .i64 0 ∧ Se0 w wr q g) ∨ (vi = .int .i64 1 ∧ ∃ s0, Se1 w wr q g s0) ∨ (vi = .int .i64 2 ∧ ∃ s0 s1, Se2 w wr q g s0 s1) ∨ (vi = .int .i64 3 ∧ ∃ s0 s1 s2, Se3 w wr q g s0 s1 s2)) (fun vi _ => 3 - (intOf vi).toNat)
    case atStart => exact .inl ⟨rfl, SE.out⟩
    case round =>
      obtain ⟨W0, hW0⟩ : ∃ W, W = wr := ⟨_, rfl⟩
      subst hW0
      clear SE
      rcases hrel with ⟨rfl, h0⟩ | ⟨rfl, s0, h0⟩ | ⟨rfl, s0, s1, h0⟩ | ⟨rfl, s0, s1, s2, h0⟩
      · have H := Lib.hid h0
        clear h0
        go_wp2_with (first | (go_at_call 39; (obtain ⟨c, hc, hk⟩ := H.out.b); refine (N1.out q g c _ hk hc H.out.T (by have := H.out.hg; have := H.out.hq; omega)).mono ?_; rintro e w1 ⟨s, c2, rfl, hs, hB, hX, hc2⟩; have H1 := Lib.hid (H.out.next hX hc2); have HS := Lib.hid (And.intro (Nat.lt_of_lt_of_le (heap_lt hk.x) hs) hB); clear hk hs hB hX hc2; obtain ⟨-, e0, e1, e2, z0, z1, z2⟩ := H1.out.cells))
        go_roundw
        case rel => exact .inr (.inl ⟨rfl, s, H1.out.put 0 _, HS.out.1, HS.out.2.put (se_ne H1.out HS.out.1) _⟩)
        case measure => simp [intOf]
      · have H := Lib.hid h0
        clear h0
        go_wp2_with (first | (go_at_call 39; (obtain ⟨c, hc, hk⟩ := H.out.s.b); refine (N2.out q g c _ hk hc H.out.s.T (by have := H.out.s.hg; have := H.out.s.hq; omega)).mono ?_; rintro e w1 ⟨s, c2, rfl, hs, hB, hX, hc2⟩; have H1 := Lib.hid (H.out.s.next hX hc2); have B0 := Lib.hid (H.out.b0.bx (Nat.ne_of_gt H.out.h0) hX); have HS := Lib.hid (And.intro (Nat.lt_of_lt_of_le (heap_lt hk.x) hs) hB); clear hk hs hB hX hc2; obtain ⟨-, e0, e1, e2, z0, z1, z2⟩ := H1.out.cells))
        go_roundw
        case rel => exact .inr (.inr (.inl ⟨rfl, s0, s, H1.out.put 1 _, H.out.h0, B0.out.put (se_ne H1.out H.out.h0) _, HS.out.1, HS.out.2.put (se_ne H1.out HS.out.1) _⟩))
        case measure => simp [intOf]
      · have H := Lib.hid h0
        clear h0
        go_wp2_with (first | (go_at_call 39; (obtain ⟨c, hc, hk⟩ := H.out.s.b); refine (N3.out q g c _ hk hc H.out.s.T (by have := H.out.s.hg; have := H.out.s.hq; omega)).mono ?_; rintro e w1 ⟨s, c2, rfl, hs, hB, hX, hc2⟩; have H1 := Lib.hid (H.out.s.next hX hc2); have B0 := Lib.hid (H.out.b0.bx (Nat.ne_of_gt H.out.h0) hX); have B1 := Lib.hid (H.out.b1.bx (Nat.ne_of_gt H.out.h1) hX); have HS := Lib.hid (And.intro (Nat.lt_of_lt_of_le (heap_lt hk.x) hs) hB); clear hk hs hB hX hc2; obtain ⟨-, e0, e1, e2, z0, z1, z2⟩ := H1.out.cells))
        go_roundw
        case rel => exact .inr (.inr (.inr ⟨rfl, s0, s1, s, H1.out.put 2 _, H.out.h0, B0.out.put (se_ne H1.out H.out.h0) _, H.out.h1, B1.out.put (se_ne H1.out H.out.h1) _, HS.out.1, HS.out.2.put (se_ne H1.out HS.out.1) _⟩))
        case measure => simp [intOf]
      · have H := Lib.hid h0
        obtain ⟨⟨c, eq⟩, e0, e1, e2, z0, z1, z2⟩ := h0.s.cells
        obtain ⟨r0, r1, r2, y0, y1, y2⟩ := h0.s.rcells
        clear h0
        go_wp2_with fail
        have hi' : (Try.prog.info? 67).map (·.size) = some 3 := by kernel_rfl
        (try simp only [Exit.inBlock, Exit.then]); refine bodyPost_ret (results_cell2 rfl _ _ w.heap.size 67 _ (0, 0) _ rfl (z_set H.out.s.r _ _ _) Try.underlying67 rfl hi') rfl ?_
        have k0 : s0 ≠ w.heap.size := by have := H.out.h0; have := H.out.s.hq; omega
        have k1 : s1 ≠ w.heap.size := by have := H.out.h1; have := H.out.s.hq; omega
        have k2 : s2 ≠ w.heap.size := by have := H.out.h2; have := H.out.s.hq; omega
        exact ⟨s0, s1, s2, rfl, ((H.out.b0.put (a := ⟨_, 0, none⟩) k0 _).put (a := ⟨_, 1, none⟩) k0 _).put (a := ⟨_, 2, none⟩) k0 _, ((H.out.b1.put (a := ⟨_, 0, none⟩) k1 _).put (a := ⟨_, 1, none⟩) k1 _).put (a := ⟨_, 2, none⟩) k1 _, ((H.out.b2.put (a := ⟨_, 0, none⟩) k2 _).put (a := ⟨_, 1, none⟩) k2 _).put (a := ⟨_, 2, none⟩) k2 _, ((H.out.s.be.setCell (p := ⟨w.heap.size, 0, none⟩) (Nat.le_refl _) _).setCell (p := ⟨w.heap.size, 1, none⟩) (Nat.le_refl _) _).setCell (p := ⟨w.heap.size, 2, none⟩) (Nat.le_refl _) _⟩
end Go.Proofs.Ytgbgahdeopedpaa
/- Walks of layer 16: a small program's bytes are that program. -/
namespace Go.Proofs.Ytgbgahdeopedpaa
open Go.RowKit
set_option linter.unusedVariables false
attribute [local go_sem] ext_mk size_mk toList_mk get_mk take_drop_len take_tail_len ByteArray.mk_append_mk List.append_toArray

theorem infoInsn : (Try.prog.info? 58).map (fun i => (i.zero, i.size, i.bytes)) = some (some (.agg #[.int .i64 0, .int .i64 0, .int .i64 0, .int .i64 0, .slice none 0 0, .slice none 0 0]), 6, 80) := by kernel_rfl

theorem infoFunc : (Try.prog.info? 61).map (fun i => (i.zero, i.size, i.bytes)) = some (some (.agg #[.int .i64 0, .int .i64 0, .slice none 0 0]), 3, 40) := by kernel_rfl

def rzBlk : Obj := .cells #[.slice none 0 0, .slice none 0 0, .slice none 0 0, .int .i64 0] 31 (0, 0)

theorem KAt.zcells {W : World} {m : Nat} (h : KAt W m rzBlk) : W.cell? ⟨m, 0, none⟩ = some (.slice none 0 0) ∧ W.cell? ⟨m, 1, none⟩ = some (.slice none 0 0) ∧ W.cell? ⟨m, 2, none⟩ = some (.slice none 0 0) ∧ W.cell? ⟨m, 3, none⟩ = some (.int .i64 0) ∧ W.frozen? ⟨m, 0, none⟩ = false ∧ W.frozen? ⟨m, 1, none⟩ = false ∧ W.frozen? ⟨m, 2, none⟩ = false ∧ W.frozen? ⟨m, 3, none⟩ = false := by
  refine ⟨?_, ?_, ?_, ?_, frozen_of_row _ _ _ _ _ h.x, frozen_of_row _ _ _ _ _ h.x, frozen_of_row _ _ _ _ _ h.x, frozen_of_row _ _ _ _ _ h.x⟩
  all_goals (rw [cell_of_row _ _ _ _ _ _ h.x]; rfl)

theorem BxAt.low {w W V : World} {p B : Nat} {o : Obj} (h : BxAt w W p o) (hb : Below B W V) (hp : p < B) (h0 : w.heap.size ≤ B) : BxAt w V p o :=
  ⟨⟨by rw [hb.block _ hp]; exact h.k.x⟩, h.be.trans (hb.mono (Nat.le_of_lt hp)), fun j hj hn => (hb.block j (Nat.lt_of_lt_of_le hj h0)).trans (h.kp j hj hn)⟩

/-- behind Decode's head: the result's box, the reader, the bytes, the program's box -/
structure DAt (W0 W : World) (S p m g cap i : Nat) : Prop where
  b : BxAt W0 W p (dBlk g cap i)
  s : SAt W g p
  r : KAt W S rzBlk
  q : KAt W m rzBlk
  hm : W0.heap.size ≤ m
  hS : S < W0.heap.size
  hn : S ≠ p
  hp : p < W0.heap.size
  hg : g < W0.heap.size

theorem DAt.call {W0 W V : World} {S p m g cap i j : Nat} (h : DAt W0 W S p m g cap i) (k : BxAt W V p (dBlk g cap j)) : DAt W0 V S p m g cap j :=
  ⟨h.b.trans k, h.s.bx k, k.blk h.r h.hn, k.blk h.q (by have := h.hm; have := h.hp; omega), h.hm, h.hS, h.hn, h.hp, h.hg⟩

theorem DAt.low {W0 W V : World} {S p m g cap i B : Nat} (h : DAt W0 W S p m g cap i) (hb : Below B W V) (hB : m < B) : DAt W0 V S p m g cap i := by
  have h1 := h.hm
  have h2 := h.hS
  have h3 := h.hp
  have h4 := h.hg
  exact ⟨h.b.low hb (by omega) (by omega), ⟨Nat.lt_of_lt_of_le h.s.l hb.size, h.s.n, fun i hi => (hb.cell (p := ⟨g, i, none⟩) (by show g < B; omega)).trans (h.s.c i hi)⟩,
    ⟨by rw [hb.block _ (by omega)]; exact h.r.x⟩, ⟨by rw [hb.block _ hB]; exact h.q.x⟩, h.hm, h.hS, h.hn, h.hp, h.hg⟩

theorem DAt.below {W0 W V : World} {S p m g cap i : Nat} (h : DAt W0 W S p m g cap i) (hb : Below W.heap.size W V) : DAt W0 V S p m g cap i := h.low hb (heap_lt h.q.x)

theorem DAt.cells {W0 W : World} {S p m g cap i : Nat} (h : DAt W0 W S p m g cap i) : W.cell? ⟨p, 1, none⟩ = some (.int .i64 i) ∧ W.cell? ⟨p, 2, none⟩ = some (.bool false) := ⟨h.b.k.dcells.2.1, h.b.k.dcells.2.2.1⟩

theorem d_start {w W0 w1 : World} {g cap : Nat} (hr : KAt W0 w.heap.size rzBlk) (hs : SAt W0 g (w.heap.size + 1)) (hd : KAt W0 (w.heap.size + 1) (dBlk g cap 0)) (h : BxAt W0 w1 (w.heap.size + 1) (dBlk g cap 1)) (hz : w.heap.size + 1 < W0.heap.size) (hm : w.heap.size ≠ w.heap.size + 1) (hg : g < w.heap.size) :
    DAt W0 (w1.alloc rzBlk) w.heap.size (w.heap.size + 1) w1.heap.size g cap 1 :=
  have hl : Below w1.heap.size w1 (w1.alloc rzBlk) := (Below.refl _ _).alloc (Nat.le_refl _) _
  ⟨h.below hl, (hs.bx h).below hl, (h.blk hr hm).below hl, KAt.new _ _, h.be.size, by omega, hm, hz, by omega⟩

/-- the function's box -/
def fnBlk (v : Value) : Obj := .cells #[.int .i64 0, .int .i64 1, v] 61 (0, 0)

theorem KAt.ncells {W : World} {m : Nat} {v : Value} (h : KAt W m (fnBlk v)) : W.cell? ⟨m, 0, none⟩ = some (.int .i64 0) ∧ W.cell? ⟨m, 1, none⟩ = some (.int .i64 1) ∧ W.cell? ⟨m, 2, none⟩ = some v ∧ W.frozen? ⟨m, 2, none⟩ = false := by
  refine ⟨?_, ?_, ?_, frozen_of_row _ _ _ _ _ h.x⟩
  all_goals (rw [cell_of_row _ _ _ _ _ _ h.x]; rfl)
abbrev ix (op : Int) : List Value := [.int .i64 op, .int .i64 0, .int .i64 0, .int .i64 0, .slice none 0 0, .slice none 0 0]

theorem row_bx {W V : World} {p base n size : Nat} {e : TypeId} {v : Value} {xs : List Value} {o : Obj} (h : W.ownsRow base e size v n xs) (hp : p < base) (k : BxAt W V p o) : V.ownsRow base e size v n xs := by
  obtain ⟨hl, ⟨rfl, h0⟩ | ⟨g, cap, cur, rfl, hg, hcur, hn, hcap, hsz, htk⟩⟩ := h
  · exact ⟨hl, .inl ⟨rfl, h0⟩⟩
  · exact ⟨hl, .inr ⟨g, cap, cur, rfl, hg, by rw [k.kp g (heap_lt hcur) (by omega)]; exact hcur, hn, hcap, hsz, htk⟩⟩

/-- the function's box and its own row of instructions -/
structure CAt (W0 W : World) (S p m g cap i fb : Nat) (v : Value) (k : Nat) (xs : List Value) : Prop where
  d : DAt W0 W S p m g cap i
  f : KAt W fb (fnBlk v)
  o : W.ownsRow (fb + 1) 58 6 v k xs
  h : m < fb

theorem CAt.call {W0 W V : World} {S p m g cap i j fb k : Nat} {v : Value} {xs : List Value} (h : CAt W0 W S p m g cap i fb v k xs) (q : BxAt W V p (dBlk g cap j)) : CAt W0 V S p m g cap j fb v k xs := by
  have h1 := h.h
  have h2 := h.d.hm
  have h3 := h.d.hp
  exact ⟨h.d.call q, q.blk h.f (by omega), row_bx h.o (by omega) q, h.h⟩

theorem CAt.below {W0 W V : World} {S p m g cap i fb k : Nat} {v : Value} {xs : List Value} (h : CAt W0 W S p m g cap i fb v k xs) (hb : Below W.heap.size W V) : CAt W0 V S p m g cap i fb v k xs :=
  ⟨h.d.below hb, h.f.below hb, row_below h.o hb, h.h⟩

theorem c_start {W0 W : World} {S p m g cap i : Nat} (h : DAt W0 W S p m g cap i) : CAt W0 (W.alloc (fnBlk (.slice none 0 0))) S p m g cap i W.heap.size (.slice none 0 0) 0 [] :=
  ⟨h.below ((Below.refl _ _).alloc (Nat.le_refl _) _), KAt.new _ _, World.ownsRow_nil _ _ _ _, heap_lt h.q.x⟩

theorem c_put {W0 W : World} {S p m g cap i fb k' : Nat} {v v' : Value} {xs' : List Value} (d : DAt W0 W S p m g cap i) (f : KAt W fb (fnBlk v)) (ho : W.ownsRow (fb + 1) 58 6 v' k' xs') (h : m < fb) : CAt W0 (W.setCell ⟨fb, 2, none⟩ v') S p m g cap i fb v' k' xs' :=
  ⟨d.low ((Below.refl fb W).setCell (p := ⟨fb, 2, none⟩) (Nat.le_refl _) _) h, ⟨heap_setCell_same (i := 2) _ _ _ _ v' f.x⟩, ownsRow_setCell_below ho (a := ⟨fb, 2, none⟩) (Nat.lt_succ_self fb) v', h⟩

theorem step_insn {W0 W : World} {S p m g cap i fb k : Nat} {v : Value} {xs : List Value} {op : Int} {T : TypeId} {ops : Array Oper} {o : Oper} {a : Act} {K : Act → World → Prop} {Q : Exit → Act → World → Prop} {E : Prop}
    (hC : CAt W0 W S p m g cap i fb v k xs) (hk : k < 100) (hgd : o.guard = none) (s x : Operand) (ho : o.op = .call { callee := .builtin .append, args := #[s, x], argTypes := #[59, 59] })
    (hs : a.eval s = v) (hx : a.eval x = .slice (some ⟨W.heap.size, 0, none⟩) 1 1)
    (h : ∀ g' cap' V, V.ownsRow (fb + 1) 58 6 (.slice (some ⟨g', 0, none⟩) (k + 1) cap') (k + 1) (xs ++ ix op) → DAt W0 V S p m g cap i → KAt V fb (fnBlk v) → V.cell? ⟨fb, 2, none⟩ = some v → V.frozen? ⟨fb, 2, none⟩ = false → K (a.put o.dst (.slice (some ⟨g', 0, none⟩) (k + 1) cap')) V) :
    if Region.wanted o (yielded ops a.tmps) = true then Oper.wp Try.prog o a (W.alloc (.cells #[.int .i64 op, .int .i64 0, .int .i64 0, .int .i64 0, .slice none 0 0, .slice none 0 0] T)) K Q else E := by
  obtain ⟨i0, hi, hz0, hz1, hz2⟩ := info_parts infoInsn
  have hlt := heap_lt hC.f.x
  have hm := hC.h
  have hb0 : Below W.heap.size W (W.alloc (.cells #[.int .i64 op, .int .i64 0, .int .i64 0, .int .i64 0, .slice none 0 0, .slice none 0 0] T)) := (Below.refl _ _).alloc (Nat.le_refl _) _
  have hown1 := row_below hC.o hb0
  refine step_append_lies _ hgd s x 59 ho (fb + 1) 58 i0 _ 6 80 Try.underlying59 hi hz0 hz1 hz2 rfl (by decide) v k xs hs hown1 ⟨W.heap.size, 0, none⟩ 1 1 (ix op) hx rfl (World.news_of_block (heap_alloc_new _ _)) (by intro u hu; simp at hu; rcases hu with rfl | rfl | rfl <;> rfl) (by decide) (by unfold maxLen; omega) (by omega) (by simp; omega) _ rfl ?_
  intro g' cap' V k1 k2 _ _
  have hbe : Below (fb + 1) W V := (hb0.mono (by omega)).trans ((Below.refl (fb + 1) _).grown k2 (by simp; omega) (fun j hj => by have := (hown1.lt j hj).1; omega))
  have hf : KAt V fb (fnBlk v) := ⟨by rw [hbe.block fb (Nat.lt_succ_self _)]; exact hC.f.x⟩
  exact h g' cap' V k1 (hC.d.low hbe (by omega)) hf hf.ncells.2.2.1 hf.ncells.2.2.2

/-- behind the only function -/
structure ZAt (W0 W : World) (S p m g cap F C cf cc : Nat) : Prop where
  b : BxAt W0 W p (dBlk g cap 19)
  r : KAt W S rzBlk
  q : KAt W m (pBlk F cf)
  P : P1At W F C cc
  hS : S < W0.heap.size
  hn : S ≠ p
  hp : p < W0.heap.size

theorem addr0 (g j : Nat) : (⟨g, 0, none⟩ : Addr).add j = ⟨g, j, none⟩ := addr_add g j

theorem app_func {W : World} {C cc : Nat} {T : TypeId} {ops : Array Oper} {rest : List Oper} {o : Oper} {a : Act} {Q : Exit → Act → World → Prop} (hgd : o.guard = none) (sl x : Operand)
    (ho : o.op = .call { callee := .builtin .append, args := #[sl, x], argTypes := #[27, 27] })
    (hs : a.eval sl = .slice none 0 0) (H : Nat) (hH : W.heap.size = H) (hx : a.eval x = .slice (some ⟨H, 0, none⟩) 1 1)
    (h : ∀ F cf V, V.cell? ⟨F, 0, none⟩ = some (.int .i64 0) → V.cell? ⟨F, 1, none⟩ = some (.int .i64 1) → V.cell? ⟨F, 2, none⟩ = some (.slice (some ⟨C, 0, none⟩) 2 cc) → F < V.heap.size → W.heap.size ≤ F → Below W.heap.size W V → wpList Try.prog ops Q rest (a.put o.dst (.slice (some ⟨F, 0, none⟩) 1 cf)) V) :
    wpList Try.prog ops Q (o :: rest) a (W.alloc (.cells #[.int .i64 0, .int .i64 1, .slice (some ⟨C, 0, none⟩) 2 cc] T)) := by
  obtain ⟨i0, hi, hz0, hz1, hz2⟩ := info_parts infoFunc
  subst hH
  have hb0 : Below W.heap.size W (W.alloc (.cells #[.int .i64 0, .int .i64 1, .slice (some ⟨C, 0, none⟩) 2 cc] T)) := (Below.refl _ _).alloc (Nat.le_refl _) _
  refine wpList_append_lies _ hgd sl x 27 ho W.heap.size 61 i0 _ 3 40 Try.underlying27 hi hz0 hz1 hz2 rfl (by decide) (.slice none 0 0) 0 [] hs (World.ownsRow_nil _ _ _ _) ⟨W.heap.size, 0, none⟩ 1 1 [.int .i64 0, .int .i64 1, .slice (some ⟨C, 0, none⟩) 2 cc] hx rfl (World.news_of_block (heap_alloc_new _ _)) (by intro u hu; simp at hu; rcases hu with rfl | rfl | rfl <;> rfl) (by decide) (by unfold maxLen; omega) (by omega) (by simp) _ rfl ?_
  intro F cf V k1 k2 k3 k4
  have hbe : Below W.heap.size W V := hb0.trans ((Below.refl _ _).grown k2 (by simp) (fun j hj => nomatch hj))
  have hF : W.heap.size ≤ F := by
    rcases k1.2 with ⟨q, _⟩ | ⟨_, _, _, q, q1, _⟩
    · cases q
    · cases q; exact q1
  have hc := fun j u hu => k1.cells (g := F) rfl j u hu
  refine h F cf V ?_ ?_ ?_ k4 hF hbe
  · have := hc 0 _ rfl; rwa [addr0] at this
  · have := hc 1 _ rfl; rwa [addr0] at this
  · have := hc 2 _ rfl; rwa [addr0] at this

theorem ix_getD (i : Nat) (hi : i < 12) : (ix 1 ++ ix 13)[i]? = some ([Value.int .i64 1, .int .i64 0, .int .i64 0, .int .i64 0, .slice none 0 0, .slice none 0 0, .int .i64 13, .int .i64 0, .int .i64 0, .int .i64 0, .slice none 0 0, .slice none 0 0].getD i (.int .i64 0)) := by
  match i, hi with
  | 0, _ | 1, _ | 2, _ | 3, _ | 4, _ | 5, _ | 6, _ | 7, _ | 8, _ | 9, _ | 10, _ | 11, _ => rfl

theorem z_mk {W0 W V : World} {S p m g cap fb C cc F cf : Nat} (h : CAt W0 W S p m g cap 19 fb (.slice (some ⟨C, 0, none⟩) 2 cc) 2 (ix 1 ++ ix 13)) (r0 : V.cell? ⟨F, 0, none⟩ = some (.int .i64 0)) (r1 : V.cell? ⟨F, 1, none⟩ = some (.int .i64 1)) (r2 : V.cell? ⟨F, 2, none⟩ = some (.slice (some ⟨C, 0, none⟩) 2 cc)) (r3 : F < V.heap.size) (r4 : W.heap.size ≤ F) (hb : Below W.heap.size W V) :
    ZAt W0 (V.setCell ⟨m, 0, none⟩ (.slice (some ⟨F, 0, none⟩) 1 cf)) S p m g cap F C cf cc := by
  have d := h.d.below hb
  have h1 := h.h
  have h2 := h.d.hm
  have h3 := h.d.hp
  have h4 := h.d.hS
  have h5 := heap_lt h.f.x
  have hbm : Below m V (V.setCell ⟨m, 0, none⟩ (.slice (some ⟨F, 0, none⟩) 1 cf)) := (Below.refl m V).setCell (p := ⟨m, 0, none⟩) (Nat.le_refl _) _
  obtain ⟨hC1, hC2⟩ : fb + 1 ≤ C ∧ C < W.heap.size := by
    obtain ⟨g', c', q, q1, q2⟩ := h.o.form (by decide)
    cases q; exact ⟨q1, q2⟩
  have hcc := fun j u hu => h.o.cells (g := C) rfl j u hu
  have hne : ∀ b i, b ≠ m → (V.setCell ⟨m, 0, none⟩ (.slice (some ⟨F, 0, none⟩) 1 cf)).cell? ⟨b, i, none⟩ = V.cell? ⟨b, i, none⟩ := fun b i hb => World.cell?_of_block (a := ⟨b, i, none⟩) (Below.heap_setCell _ _ _ _ hb)
  refine ⟨d.b.low hbm (by omega) h2, ⟨by rw [hbm.block _ (by omega)]; exact d.r.x⟩, ⟨heap_setCell_same (i := 0) _ _ _ _ _ d.q.x⟩, ?_, h4, h.d.hn, h3⟩
  refine ⟨by simpa [World.setCell] using r3, by have := hb.size; simp [World.setCell]; omega, by rw [hne _ _ (by omega)]; exact r0, by rw [hne _ _ (by omega)]; exact r1, by rw [hne _ _ (by omega)]; exact r2, fun i hi => ?_⟩
  rw [hne _ _ (by omega), hb.cell (p := ⟨C, i, none⟩) hC2]
  have := hcc i _ (ix_getD i hi)
  rwa [addr0] at this

theorem p_set {W : World} {m : Nat} (h : KAt W m rzBlk) (a b c d : Value) :
    ((((W.setCell ⟨m, 0, none⟩ a).setCell ⟨m, 1, none⟩ b).setCell ⟨m, 2, none⟩ c).setCell ⟨m, 3, none⟩ d).heap[m]? = some (.cells #[a, b, c, d] 31 (0, 0)) :=
  heap_setCell_same (i := 3) _ _ _ _ _ (heap_setCell_same (i := 2) _ _ _ _ _ (heap_setCell_same (i := 1) _ _ _ _ _ (heap_setCell_same (i := 0) _ _ _ _ _ h.x)))

theorem P1At.put {W : World} {F C cc : Nat} (h : P1At W F C cc) (a : Addr) (hF : F ≠ a.block) (hC : C ≠ a.block) (v : Value) : P1At (W.setCell a v) F C cc := by
  have e : ∀ b i, b ≠ a.block → (W.setCell a v).cell? ⟨b, i, none⟩ = W.cell? ⟨b, i, none⟩ := fun b i hb => World.cell?_of_block (a := ⟨b, i, none⟩) (Below.heap_setCell _ _ _ _ hb)
  have z : (W.setCell a v).heap.size = W.heap.size := by simp [World.setCell]
  exact ⟨by rw [z]; exact h.fl, by rw [z]; exact h.cl, by rw [e _ _ hF]; exact h.f0, by rw [e _ _ hF]; exact h.f1, by rw [e _ _ hF]; exact h.f2, fun i hi => by rw [e _ _ hC]; exact h.c i hi⟩

theorem p1_set {W : World} {F C cc m : Nat} (h : P1At W F C cc) (hn : F ≠ m ∧ C ≠ m) (a b c d : Value) : P1At ((((W.setCell ⟨m, 0, none⟩ a).setCell ⟨m, 1, none⟩ b).setCell ⟨m, 2, none⟩ c).setCell ⟨m, 3, none⟩ d) F C cc :=
  (((h.put ⟨m, 0, none⟩ hn.1 hn.2 a).put ⟨m, 1, none⟩ hn.1 hn.2 b).put ⟨m, 2, none⟩ hn.1 hn.2 c).put ⟨m, 3, none⟩ hn.1 hn.2 d

theorem z_ne {W0 W : World} {S p m g cap F C cf cc : Nat} (h : ZAt W0 W S p m g cap F C cf cc) : F ≠ S ∧ C ≠ S := by
  have h1 := h.r
  have h2 := h.P
  have k0 := h1.zcells.1
  have k2 := h1.zcells.2.2.1
  refine ⟨?_, ?_⟩
  · rintro rfl
    have := h2.f2
    rw [k2] at this; cases this
  · rintro rfl
    have := h2.c 0 (by decide)
    rw [k0] at this; cases this

set_option maxHeartbeats 4000000 in
set_option maxRecDepth 8000 in
theorem decode_p1 (g cap : Nat) (w : World) (hB : BysAt w (some ⟨g, 0, none⟩) encL) :
    Calls Try.prog 27 #[.slice (some ⟨g, 0, none⟩) 19 cap] w fun x w' => ∃ F C cf cc, x = .returned (.tuple #[.agg #[.slice (some ⟨F, 0, none⟩) 1 cf, .slice none 0 0, .slice none 0 0, .int .i64 0], .int .i64 0]) ∧ P1At w' F C cc ∧ Below w.heap.size w w' := by
  obtain ⟨W0, hW0⟩ : ∃ W, (w.alloc rzBlk).alloc (dBlk g cap 0) = W := ⟨_, rfl⟩
  have hz : (w.alloc rzBlk).heap.size = w.heap.size + 1 := by simp
  have hb0 : Below w.heap.size w W0 := by rw [← hW0]; exact ((Below.refl _ _).alloc (Nat.le_refl _) _).alloc (by simp) _
  have kr : KAt W0 w.heap.size rzBlk := by rw [← hW0]; exact (KAt.new w rzBlk).alloc _
  have kd : KAt W0 (w.heap.size + 1) (dBlk g cap 0) := by rw [← hW0, ← hz]; exact KAt.new _ _
  have hgl : g < w.heap.size := by
    rcases hB.2 with q | ⟨b, off, q1, q2, q3⟩
    · exact absurd q (by decide)
    · cases q1; exact q2
  have hs : SAt W0 g (w.heap.size + 1) := by
    rcases hB.2 with q | ⟨b, off, q1, q2, q3⟩
    · exact absurd q (by decide)
    · cases q1
      refine ⟨Nat.lt_of_lt_of_le q2 hb0.size, by omega, fun i hi => ?_⟩
      rw [hb0.cell (p := ⟨g, i, none⟩) q2]
      have := q3 i hi
      rwa [Nat.zero_add] at this
  have CS := Lib.hid (fun p i c W h1 h2 h3 h4 h5 => small_r p g cap i c W h1 h2 h3 h4 h5)
  have CC := Lib.hid (fun p i c k W h1 h2 h3 h4 h5 => count_r p g cap i c k W h1 h2 h3 h4 h5)
  have CI := Lib.hid (fun p i op W h1 h2 h3 => insn_r p g cap i op W h1 h2 h3)
  have KD := Lib.hid kd
  have KR := Lib.hid kr
  have HS := Lib.hid hs
  have HB0 := Lib.hid hb0
  clear hB kr kd hs hb0 hz
  change (w.alloc (.cells #[.slice none 0 0, .slice none 0 0, .slice none 0 0, .int .i64 0] 31)).alloc (.cells #[.slice (some ⟨g, 0, none⟩) 19 cap, .int .i64 0, .bool false] 94) = W0 at hW0
  have hz0 : W0.heap.size = w.heap.size + 2 := by rw [← hW0]; simp
  have HZ0 := Lib.hid hz0
  clear hz0
  go_enter Try.func27, Try.ntmps27
  go_wp2_with (first
    | (go_at_call 40; (refine (CS.out _ 0 0 _ KD.out HS.out (by decide) (by decide) (by decide)).mono ?_; rintro e w1 ⟨rfl, h1⟩; have D := Lib.hid (d_start KR.out HS.out KD.out h1 (by have := HZ0.out; omega) (by omega) hgl); clear h1))
    | (go_at_call 41; refine (CC.out _ 1 0 1 _ D.out.b.k D.out.s (by decide) (by decide) (by decide)).mono ?_; rintro e w2 ⟨rfl, h1⟩; have D := Lib.hid (D.out.call h1); clear h1))
  go_loopw [6] (fun vi wr => vi = .int .i64 0 ∧ wr = w2) (fun _ _ => 0)
  case atStart => exact ⟨rfl, rfl⟩
  case round =>
    obtain ⟨rfl, rfl⟩ := hrel
    go_wp2_with (first
      | (go_at_call 41; refine (CC.out _ 2 0 8 _ D.out.b.k D.out.s (by decide) (by decide) (by decide)).mono ?_; rintro e w3 ⟨rfl, h1⟩; have D := Lib.hid (D.out.call h1); clear h1))
    go_loopw [8] (fun vi wr => vi = .int .i64 0 ∧ wr = w3) (fun _ _ => 0)
    case atStart => exact ⟨rfl, rfl⟩
    case round =>
      obtain ⟨rfl, rfl⟩ := hrel
      go_wp2_with (first
        | (go_at_call 41; refine (CC.out _ 3 1 3 _ D.out.b.k D.out.s (by decide) (by decide) (by decide)).mono ?_; rintro e w4 ⟨rfl, h1⟩; have D := Lib.hid (D.out.call h1); clear h1))
      go_loopw [11] (fun vi wr => (vi = .int .i64 1 ∧ wr = w4) ∨ (vi = .int .i64 0 ∧ ∃ F C cf cc, ZAt W0 wr w.heap.size (w.heap.size + 1) w1.heap.size g cap F C cf cc)) (fun vi _ => (intOf vi).toNat)
      case atStart => exact .inl ⟨rfl, rfl⟩
      case round =>
        obtain ⟨W5, hW5⟩ : ∃ W, W = wr := ⟨_, rfl⟩
        subst hW5
        rcases hrel with ⟨rfl, hw⟩ | ⟨rfl, F, C, cf, cc, he⟩
        · rw [← hw] at D
          clear hw
          have bad := D.out.cells.2
          go_wp2_with (first
            | (go_at_call 40; refine (CS.out _ 4 0 _ D.out.b.k D.out.s (by decide) (by decide) (by decide)).mono ?_; rintro e w5 ⟨rfl, h1⟩; have D5 := Lib.hid (D.out.call h1); clear D h1)
            | (go_at_call 40; refine (CS.out _ 5 1 _ D5.out.b.k D5.out.s (by decide) (by decide) (by decide)).mono ?_; rintro e w6 ⟨rfl, h1⟩; have D6 := Lib.hid (D5.out.call h1); clear D5 h1; have A := Lib.hid (c_start D6.out))
            | (go_at_call 41; refine (CC.out _ 6 2 6 _ A.out.d.b.k A.out.d.s (by decide) (by decide) (by decide)).mono ?_; rintro e w7 ⟨rfl, h1⟩; have A7 := Lib.hid (A.out.call h1); clear A h1))
          obtain ⟨fb, hfb⟩ : ∃ fb, w6.heap.size = fb := ⟨_, rfl⟩
          have a7 := A7.out
          rw [hfb] at a7
          rw [hfb]
          clear A7 hfb
          have A7 := Lib.hid a7
          clear a7
          go_loopw [13] (fun vi wr => ∃ i v k xs, CAt W0 wr w.heap.size (w.heap.size + 1) w1.heap.size g cap i fb v k xs ∧ ((vi = .int .i64 2 ∧ i = 7 ∧ k = 0 ∧ xs = []) ∨ (vi = .int .i64 1 ∧ i = 13 ∧ k = 1 ∧ xs = ix 1) ∨ (vi = .int .i64 0 ∧ i = 19 ∧ k = 2 ∧ xs = ix 1 ++ ix 13))) (fun vi _ => (intOf vi).toNat)
          case atStart => exact ⟨_, _, _, _, A7.out, .inl ⟨rfl, rfl, rfl, rfl⟩⟩
          case round =>
            obtain ⟨W8, hW8⟩ : ∃ W, W = wr := ⟨_, rfl⟩
            subst hW8
            clear A7 bad
            obtain ⟨i, v, k, xs, hC, ⟨rfl, rfl, rfl, rfl⟩ | ⟨rfl, rfl, rfl, rfl⟩ | ⟨rfl, rfl, rfl, rfl⟩⟩ := hrel
            · have bad := hC.d.cells.2
              obtain ⟨y0, y1, y2, z2⟩ := hC.f.ncells
              have A := Lib.hid hC
              clear hC
              go_upto_region 29 with (fail)
              go_region_law (first
                | (go_simp; go_at_call 42; refine (CI.out _ 7 1 _ (A.out.below (Below.refl _ _).drew).d.b.k (A.out.below (Below.refl _ _).drew).d.s (by decide)).mono ?_; rintro e w9 ⟨rfl, h1⟩; have A1 := Lib.hid ((A.out.below (Below.refl _ _).drew).call h1); have y5 := A1.out.f.ncells.2.2.1; have y6 : ∀ o, (w9.alloc o).cell? ⟨fb, 2, none⟩ = some v := fun o => (A1.out.below ((Below.refl _ _).alloc (Nat.le_refl _) o)).f.ncells.2.2.1)
                | (refine step_insn A1.out (by decide) rfl _ _ rfl rfl rfl ?_; intro g' cap' V r7 d7 f7 y7 z7))
              all_goals go_wp2_with fail
              all_goals go_roundw
              all_goals first
                | exact ⟨_, _, _, _, c_put d7 f7 r7 A.out.h, .inr (.inl ⟨rfl, rfl, rfl, rfl⟩)⟩
                | simp [intOf]
            · have bad := hC.d.cells.2
              obtain ⟨y0, y1, y2, z2⟩ := hC.f.ncells
              have A := Lib.hid hC
              clear hC
              go_upto_region 29 with (fail)
              go_region_law (first
                | (go_simp; go_at_call 42; refine (CI.out _ 13 13 _ (A.out.below (Below.refl _ _).drew).d.b.k (A.out.below (Below.refl _ _).drew).d.s (by decide)).mono ?_; rintro e w9 ⟨rfl, h1⟩; have A1 := Lib.hid ((A.out.below (Below.refl _ _).drew).call h1); have y5 := A1.out.f.ncells.2.2.1; have y6 : ∀ o, (w9.alloc o).cell? ⟨fb, 2, none⟩ = some v := fun o => (A1.out.below ((Below.refl _ _).alloc (Nat.le_refl _) o)).f.ncells.2.2.1)
                | (refine step_insn A1.out (by decide) rfl _ _ rfl rfl rfl ?_; intro g' cap' V r7 d7 f7 y7 z7))
              all_goals go_wp2_with fail
              all_goals go_roundw
              all_goals first
                | exact ⟨_, _, _, _, c_put d7 f7 r7 A.out.h, .inr (.inr ⟨rfl, rfl, rfl, rfl⟩)⟩
                | simp [intOf]
            · obtain ⟨C, cc, rfl, hC1, hC2⟩ := hC.o.form (by decide)
              obtain ⟨y0, y1, y2, z2⟩ := hC.f.ncells
              obtain ⟨x0, x1, x2, x3, v0, v1, v2, v3⟩ := hC.d.q.zcells
              have A := Lib.hid hC
              clear hC hC1 hC2
              go_wp2_with (first
                | (at_builtin; (refine app_func rfl _ _ rfl rfl _ rfl rfl ?_); (intro F cf V r0 r1 r2 r3 r4 hb9; have Z := Lib.hid (z_mk (cf := cf) A.out r0 r1 r2 r3 r4 hb9); obtain ⟨x0, x1, x2, x3, v0, v1, v2, v3⟩ := (A.out.d.below hb9).q.zcells; clear r0 r1 r2 r3 r4 hb9)))
              go_roundw
              case rel => exact .inr ⟨rfl, F, C, cf, cc, Z.out⟩
              case measure => simp [intOf]
        · have bad := he.b.k.dcells.2.2.1
          obtain ⟨x0, x1, x2, x3⟩ := he.q.pcells
          have Z := Lib.hid he
          have CK := Lib.hid (fun F C cf cc W h => check_p1 F C cf cc W h)
          clear he D
          go_wp2_with (first
            | (go_at_call 31; refine (CK.out F C cf cc _ Z.out.P).mono ?_; rintro e w9 ⟨rfl, hb9⟩; have HB9 := Lib.hid hb9; clear x0 x1 x2 x3 bad hb9; obtain ⟨x0, x1, x2, x3⟩ := (Z.out.q.below HB9.out).pcells; obtain ⟨-, b1, bad, -, -⟩ := (Z.out.b.k.below HB9.out).dcells; obtain ⟨r0, r1, r2, r3, z0, z1, z2, z3⟩ := (Z.out.r.below HB9.out).zcells))
          have hi' : (Try.prog.info? 31).map (·.size) = some 4 := by kernel_rfl
          (try simp only [Exit.inBlock, Exit.then]); refine bodyPost_ret (results_cell2 rfl _ _ w.heap.size 31 _ (0, 0) _ rfl (p_set (Z.out.r.below HB9.out) _ _ _ _) Try.underlying31 rfl hi') rfl ?_
          have hl : Below w.heap.size w w9 := HB0.out.trans ((Z.out.b.below HB9.out).be.mono (by omega))
          exact ⟨F, C, cf, cc, rfl, p1_set (Z.out.P.below HB9.out) (z_ne Z.out) _ _ _ _, (((hl.setCell (p := ⟨w.heap.size, 0, none⟩) (Nat.le_refl _) _).setCell (p := ⟨w.heap.size, 1, none⟩) (Nat.le_refl _) _).setCell (p := ⟨w.heap.size, 2, none⟩) (Nat.le_refl _) _).setCell (p := ⟨w.heap.size, 3, none⟩) (Nat.le_refl _) _⟩
end Go.Proofs.Ytgbgahdeopedpaa
/- Walks of layer 24: a small image is unpacked; a small image and a sum that everybody knows. -/
namespace Go.Proofs.Ytgbgahdeopedpaa
open Go.RowKit
set_option linter.unusedVariables false
attribute [local go_sem] ext_mk size_mk toList_mk get_mk take_drop_len take_tail_len ByteArray.mk_append_mk List.append_toArray

theorem BysAt.conv {W : World} {s : Nat} {l : List UInt8} (h : BysAt W (some ⟨s, 0, none⟩) l) (cap : Nat) : Sem.run Try.prog (convert 22 9 (.slice (some ⟨s, 0, none⟩) l.length cap)) W = .ok (.string ⟨l.toArray⟩) W := conv_bys cap h.new

theorem BysAt.keep {W V : World} {s : Nat} {l : List UInt8} (h : BysAt W (some ⟨s, 0, none⟩) l) (hb : Below W.heap.size W V) : BysAt V (some ⟨s, 0, none⟩) l := h.blk (fun hl => hb.block s hl) hb.size

def izBlk : Obj := .cells #[.string ⟨#[]⟩, .string ⟨#[]⟩, .slice none 0 0, .slice none 0 0, .slice none 0 0, .int .i64 0] 33 (0, 0)

theorem KAt.izcells {W : World} {m : Nat} (h : KAt W m izBlk) : W.cell? ⟨m, 0, none⟩ = some (.string ⟨#[]⟩) ∧ W.cell? ⟨m, 1, none⟩ = some (.string ⟨#[]⟩) ∧ W.cell? ⟨m, 2, none⟩ = some (.slice none 0 0) ∧ W.cell? ⟨m, 3, none⟩ = some (.slice none 0 0) ∧ W.cell? ⟨m, 4, none⟩ = some (.slice none 0 0) ∧ W.cell? ⟨m, 5, none⟩ = some (.int .i64 0) := by
  refine ⟨?_, ?_, ?_, ?_, ?_, ?_⟩
  all_goals (rw [cell_of_row _ _ _ _ _ _ h.x]; rfl)

theorem KAt.izfrozen {W : World} {m : Nat} (h : KAt W m izBlk) : W.frozen? ⟨m, 0, none⟩ = false ∧ W.frozen? ⟨m, 1, none⟩ = false ∧ W.frozen? ⟨m, 2, none⟩ = false ∧ W.frozen? ⟨m, 3, none⟩ = false ∧ W.frozen? ⟨m, 4, none⟩ = false ∧ W.frozen? ⟨m, 5, none⟩ = false :=
  ⟨frozen_of_row _ _ _ _ _ h.x, frozen_of_row _ _ _ _ _ h.x, frozen_of_row _ _ _ _ _ h.x, frozen_of_row _ _ _ _ _ h.x, frozen_of_row _ _ _ _ _ h.x, frozen_of_row _ _ _ _ _ h.x⟩

theorem KAt.ocells {W : World} {m : Nat} {v0 v1 v2 : Value} (h : KAt W m (oBlk v0 v1 v2)) : W.cell? ⟨m, 0, none⟩ = some v0 ∧ W.cell? ⟨m, 1, none⟩ = some v1 ∧ W.cell? ⟨m, 2, none⟩ = some v2 := by
  refine ⟨?_, ?_, ?_⟩
  all_goals (rw [cell_of_row _ _ _ _ _ _ h.x]; rfl)

theorem i_set {W : World} {m : Nat} (h : KAt W m izBlk) (a b c d e f : Value) :
    ((((((W.setCell ⟨m, 0, none⟩ a).setCell ⟨m, 1, none⟩ b).setCell ⟨m, 2, none⟩ c).setCell ⟨m, 3, none⟩ d).setCell ⟨m, 4, none⟩ e).setCell ⟨m, 5, none⟩ f).heap[m]? = some (.cells #[a, b, c, d, e, f] 33 (0, 0)) :=
  heap_setCell_same (i := 5) _ _ _ _ _ (heap_setCell_same (i := 4) _ _ _ _ _ (heap_setCell_same (i := 3) _ _ _ _ _ (heap_setCell_same (i := 2) _ _ _ _ _ (heap_setCell_same (i := 1) _ _ _ _ _ (heap_setCell_same (i := 0) _ _ _ _ _ h.x)))))

set_option maxHeartbeats 4000000 in
set_option maxRecDepth 8000 in
theorem unpack_p1 (g cap : Nat) (w : World) (hB : BysAt w (some ⟨g, 0, none⟩) imgL) (hc : 35 ≤ cap) :
    Calls Try.prog 15 #[.slice (some ⟨g, 0, none⟩) 35 cap] w fun x w' => ∃ F cf, x = .returned (.tuple #[.agg #[.string ⟨#[97]⟩, .string ⟨#[]⟩, .slice (some ⟨F, 0, none⟩) 1 cf, .slice none 0 0, .slice none 0 0, .int .i64 0], .int .i64 0]) ∧ Below w.heap.size w w' := by
  have CS := Lib.hid (fun W h => sections_p1 g cap W h hc)
  have CD := Lib.hid (fun s c W h => decode_p1 s c W h)
  have hA : Below w.heap.size w (w.alloc izBlk) := (Below.refl _ _).alloc (Nat.le_refl _) _
  have K := Lib.hid (KAt.new w izBlk)
  have HA := Lib.hid hA
  have HB := Lib.hid (hB.keep hA)
  clear hA hB
  go_enter Try.func15, Try.ntmps15
  go_wp2_with (first
    | (go_at_call 26; refine (CS.out _ HB.out).mono ?_; rintro e w1 ⟨s0, s1, s2, rfl, h0, h1, h2, hb⟩; have hb2 : Below w1.heap.size w1 (w1.alloc (oBlk (.slice (some ⟨s0, 0, none⟩) 1 1) (.slice (some ⟨s1, 0, none⟩) 0 0) (.slice (some ⟨s2, 0, none⟩) 19 19))) := (Below.refl _ _).alloc (Nat.le_refl _) _; have H0 := Lib.hid (h0.keep hb2); have H1 := Lib.hid (h1.keep hb2); have H2 := Lib.hid (h2.keep hb2); have K1 := Lib.hid ((K.out.below hb).below hb2); have HB1 := Lib.hid (HA.out.trans ((hb.trans (hb2.mono hb.size)).mono HA.out.size)); have O1 := Lib.hid (KAt.new w1 (oBlk (.slice (some ⟨s0, 0, none⟩) 1 1) (.slice (some ⟨s1, 0, none⟩) 0 0) (.slice (some ⟨s2, 0, none⟩) 19 19))); clear h0 h1 h2 hb hb2)
    | (go_at_call 27; refine (CD.out s2 19 _ H2.out).mono ?_; rintro e w2 ⟨F, C, cf, cc, rfl, hP, hb⟩; have K2 := Lib.hid (K1.out.below hb); have H0 := Lib.hid (H0.out.keep hb); have H1 := Lib.hid (H1.out.keep hb); have O2 := Lib.hid (O1.out.below hb); have HB2 := Lib.hid (HB1.out.trans (hb.mono HB1.out.size)); have o0 : ∀ o, (w2.alloc o).cell? ⟨w1.heap.size, 0, none⟩ = some (.slice (some ⟨s0, 0, none⟩) 1 1) := fun o => (O2.out.alloc o).ocells.1; have o1 : ∀ o, (w2.alloc o).cell? ⟨w1.heap.size, 1, none⟩ = some (.slice (some ⟨s1, 0, none⟩) 0 0) := fun o => (O2.out.alloc o).ocells.2.1; have cv0 : ∀ o, Sem.run Try.prog (convert 22 9 (.slice (some ⟨s0, 0, none⟩) 1 1)) (w2.alloc o) = .ok (.string ⟨#[97]⟩) (w2.alloc o) := fun o => (H0.out.keep ((Below.refl _ _).alloc (Nat.le_refl _) o)).conv 1; have cv1 : ∀ o, Sem.run Try.prog (convert 22 9 (.slice (some ⟨s1, 0, none⟩) 0 0)) (w2.alloc o) = .ok (.string ⟨#[]⟩) (w2.alloc o) := fun o => (H1.out.keep ((Below.refl _ _).alloc (Nat.le_refl _) o)).conv 0; have iz0 : ∀ o, (w2.alloc o).cell? ⟨w.heap.size, 0, none⟩ = some (.string ⟨#[]⟩) := fun o => (K2.out.alloc o).izcells.1; have iz1 : ∀ o, (w2.alloc o).cell? ⟨w.heap.size, 1, none⟩ = some (.string ⟨#[]⟩) := fun o => (K2.out.alloc o).izcells.2.1; have iz2 : ∀ o, (w2.alloc o).cell? ⟨w.heap.size, 2, none⟩ = some (.slice none 0 0) := fun o => (K2.out.alloc o).izcells.2.2.1; have iz3 : ∀ o, (w2.alloc o).cell? ⟨w.heap.size, 3, none⟩ = some (.slice none 0 0) := fun o => (K2.out.alloc o).izcells.2.2.2.1; have iz4 : ∀ o, (w2.alloc o).cell? ⟨w.heap.size, 4, none⟩ = some (.slice none 0 0) := fun o => (K2.out.alloc o).izcells.2.2.2.2.1; have iz5 : ∀ o, (w2.alloc o).cell? ⟨w.heap.size, 5, none⟩ = some (.int .i64 0) := fun o => (K2.out.alloc o).izcells.2.2.2.2.2; have if0 : ∀ o, (w2.alloc o).frozen? ⟨w.heap.size, 0, none⟩ = false := fun o => (K2.out.alloc o).izfrozen.1; have if1 : ∀ o, (w2.alloc o).frozen? ⟨w.heap.size, 1, none⟩ = false := fun o => (K2.out.alloc o).izfrozen.2.1; have if2 : ∀ o, (w2.alloc o).frozen? ⟨w.heap.size, 2, none⟩ = false := fun o => (K2.out.alloc o).izfrozen.2.2.1; have if3 : ∀ o, (w2.alloc o).frozen? ⟨w.heap.size, 3, none⟩ = false := fun o => (K2.out.alloc o).izfrozen.2.2.2.1; have if4 : ∀ o, (w2.alloc o).frozen? ⟨w.heap.size, 4, none⟩ = false := fun o => (K2.out.alloc o).izfrozen.2.2.2.2.1; have if5 : ∀ o, (w2.alloc o).frozen? ⟨w.heap.size, 5, none⟩ = false := fun o => (K2.out.alloc o).izfrozen.2.2.2.2.2; clear hP hb))
  have hi' : (Try.prog.info? 33).map (·.size) = some 6 := by kernel_rfl
  (try simp only [Exit.inBlock, Exit.then]); refine bodyPost_ret (results_cell2 rfl _ _ w.heap.size 33 _ (0, 0) _ rfl (i_set (K2.out.alloc _) _ _ _ _ _ _) Try.underlying33 rfl hi') rfl ?_
  have hl : ∀ o, Below w.heap.size w (w2.alloc o) := fun o => HB2.out.alloc HB2.out.size _
  exact ⟨F, cf, rfl, ((((((hl _).setCell (p := ⟨w.heap.size, 0, none⟩) (Nat.le_refl _) _).setCell (p := ⟨w.heap.size, 1, none⟩) (Nat.le_refl _) _).setCell (p := ⟨w.heap.size, 2, none⟩) (Nat.le_refl _) _).setCell (p := ⟨w.heap.size, 3, none⟩) (Nat.le_refl _) _).setCell (p := ⟨w.heap.size, 4, none⟩) (Nat.le_refl _) _).setCell (p := ⟨w.heap.size, 5, none⟩) (Nat.le_refl _) _⟩

theorem p1_start (w : World) (o : Obj) : P1At (((w.alloc (.cells #[.int .i64 1, .int .i64 0, .int .i64 0, .int .i64 0, .slice none 0 0, .slice none 0 0, .int .i64 13, .int .i64 0, .int .i64 0, .int .i64 0, .slice none 0 0, .slice none 0 0] 58)).alloc (.cells #[.int .i64 0, .int .i64 1, .slice (some ⟨w.heap.size, 0, none⟩) 2 2] 61)).alloc o) (w.heap.size + 1) w.heap.size 2 := by
  obtain ⟨A, hA⟩ : ∃ A, w.alloc (.cells #[.int .i64 1, .int .i64 0, .int .i64 0, .int .i64 0, .slice none 0 0, .slice none 0 0, .int .i64 13, .int .i64 0, .int .i64 0, .int .i64 0, .slice none 0 0, .slice none 0 0] 58) = A := ⟨_, rfl⟩
  have kA : KAt A w.heap.size (.cells #[.int .i64 1, .int .i64 0, .int .i64 0, .int .i64 0, .slice none 0 0, .slice none 0 0, .int .i64 13, .int .i64 0, .int .i64 0, .int .i64 0, .slice none 0 0, .slice none 0 0] 58 (0, 0)) := by rw [← hA]; exact KAt.new _ _
  have zA : A.heap.size = w.heap.size + 1 := by rw [← hA]; simp
  rw [hA, ← zA]
  have kB := KAt.new A (.cells #[.int .i64 0, .int .i64 1, .slice (some ⟨w.heap.size, 0, none⟩) 2 2] 61 (0, 0))
  have kA2 := (kA.alloc (.cells #[.int .i64 0, .int .i64 1, .slice (some ⟨w.heap.size, 0, none⟩) 2 2] 61 (0, 0))).alloc o
  have kB2 := kB.alloc o
  refine ⟨heap_lt kB2.x, heap_lt kA2.x, ?_, ?_, ?_, fun i hi => ?_⟩
  · rw [cell_of_row _ _ _ _ _ _ kB2.x]; rfl
  · rw [cell_of_row _ _ _ _ _ _ kB2.x]; rfl
  · rw [cell_of_row _ _ _ _ _ _ kB2.x]; rfl
  · rw [cell_of_row _ _ _ _ _ _ kA2.x]
    match i, hi with
    | 0, _ | 1, _ | 2, _ | 3, _ | 4, _ | 5, _ | 6, _ | 7, _ | 8, _ | 9, _ | 10, _ | 11, _ => rfl

def nines : List UInt8 := [49, 50, 51, 52, 53, 54, 55, 56, 57]

theorem sum_nines : Im.sumL nines = 3421780262 := by decide +kernel

theorem nines_at (W : World) (T : TypeId) (f : Nat × Nat) : BysAt (W.alloc (.cells #[.int .u8 49, .int .u8 50, .int .u8 51, .int .u8 52, .int .u8 53, .int .u8 54, .int .u8 55, .int .u8 56, .int .u8 57] T f)) (some ⟨W.heap.size, 0, none⟩) nines := by
  refine ⟨by decide, .inr ⟨W.heap.size, 0, rfl, by simp, fun i hi => ?_⟩⟩
  have hi : i < 9 := hi
  rw [Nat.zero_add, cell_of_row _ _ _ _ _ _ (heap_alloc_new W _)]
  match i, hi with
  | 0, _ | 1, _ | 2, _ | 3, _ | 4, _ | 5, _ | 6, _ | 7, _ | 8, _ => rfl

theorem sum_9 (W : World) (T : TypeId) (f : Nat × Nat) (g : Nat) (hg : g = W.heap.size) : Calls Try.prog 10 #[.slice (some ⟨g, 0, none⟩) 9 9] (W.alloc (.cells #[.int .u8 49, .int .u8 50, .int .u8 51, .int .u8 52, .int .u8 53, .int .u8 54, .int .u8 55, .int .u8 56, .int .u8 57] T f)) fun e w' => e = .returned (.int .u32 3421780262) ∧ Below W.heap.size W w' := by
  subst hg
  have := sum_any (some ⟨W.heap.size, 0, none⟩) nines 9 _ (nines_at W T f)
  rw [sum_nines] at this
  refine this.mono ?_
  rintro e w' ⟨rfl, hb⟩
  exact ⟨rfl, ((Below.refl _ _).alloc (Nat.le_refl _) _).trans (hb.mono (by simp))⟩

def iaBlk (F cf : Nat) : Obj := .cells #[.string ⟨#[97]⟩, .string ⟨#[]⟩, .slice (some ⟨F, 0, none⟩) 1 cf, .slice none 0 0, .slice none 0 0, .int .i64 0] 33 (0, 0)

theorem KAt.iacells {W : World} {m F cf : Nat} (h : KAt W m (iaBlk F cf)) : W.cell? ⟨m, 0, none⟩ = some (.string ⟨#[97]⟩) ∧ W.cell? ⟨m, 2, none⟩ = some (.slice (some ⟨F, 0, none⟩) 1 cf) := by
  refine ⟨?_, ?_⟩
  all_goals (rw [cell_of_row _ _ _ _ _ _ h.x]; rfl)

set_option maxHeartbeats 4000000 in
set_option maxRecDepth 8000 in
theorem awake_24 (w : World) : Calls Try.prog 12 #[] w fun x w' => x = .returned (.bool true) ∧ Below w.heap.size w w' := by
  have CP := Lib.hid (fun F C cf cc W h => pack_p1 F C cf cc W h)
  have CU := Lib.hid (fun g cap W h hc => unpack_p1 g cap W h hc)
  have CS := Lib.hid (fun W T f g hg => sum_9 W T f g hg)
  have HP := Lib.hid (fun o => p1_start w o)
  have HA : ∀ o1 o2 o3, Hid (Below w.heap.size w (((w.alloc o1).alloc o2).alloc o3)) := fun o1 o2 o3 => Lib.hid ((((Below.refl _ _).alloc (Nat.le_refl _) _).alloc (by simp) _).alloc (by simp; omega) _)
  have hcc := fun (W : World) (o : Obj) (C : Array Value) (n c : Nat) => Joins.run_convert_bytes_const_at (P := Try.prog) (W.alloc o) 22 5 C n c (W.heap.size + 1) (by simp) Try.underlying22 Try.underlying5
  go_enter Try.func12, Try.ntmps12
  go_wp2_with (first
    | (go_at_call 13; refine (CP.out _ _ 1 2 _ (HP.out _)).mono ?_; rintro e w1 ⟨g, cap, rfl, hc, hg, hB, hb⟩; have B1 := Lib.hid hB; have HC := Lib.hid hc; have HB1 := Lib.hid ((HA _ _ _).out.trans (hb.mono (HA _ _ _).out.size)); clear hB hc hg hb)
    | (go_at_call 15; refine (CU.out g cap _ B1.out HC.out).mono ?_; rintro e w2 ⟨F, cf, rfl, hb⟩; have hA2 : Below w2.heap.size w2 (w2.alloc (iaBlk F cf)) := (Below.refl _ _).alloc (Nat.le_refl _) _; have B2 := Lib.hid ((B1.out.keep hb).keep hA2); have HB2 := Lib.hid (HB1.out.trans ((hb.trans (hA2.mono hb.size)).mono HB1.out.size)); have K2 := Lib.hid (KAt.new w2 (iaBlk F cf)); clear hb hA2)
    | (go_at_call 10; refine (CS.out (w2.alloc (iaBlk F cf)) _ _ (w2.heap.size + 1) (by simp)).mono ?_; rintro e w3 ⟨rfl, hb⟩; have B3 := B2.out.keep hb; have b7 : w3.cell? ⟨g, 7, none⟩ = some (.int .u8 97) := (TAt.of B3).c 7 (by decide); obtain ⟨i0, i2⟩ := (K2.out.below hb).iacells; have HB3 := Lib.hid (HB2.out.trans (hb.mono HB2.out.size)); have hcap := HC.out; clear hb B3))
  go_ret
  exact ⟨rfl, HB3.out⟩
end Go.Proofs.Ytgbgahdeopedpaa
/- Layer 24's laws, walked: the check sum of any bytes. -/
namespace Go.Proofs.Ytgbgahdeopedpaa
open Go.RowKit
set_option linter.unusedVariables false
attribute [local go_sem] ext_mk size_mk toList_mk get_mk take_drop_len take_tail_len ByteArray.mk_append_mk List.append_toArray

theorem imageSums_any (a : Option Addr) (l : List UInt8) (cap : Nat) (w : World) (h : BysAt w a l) :
    Calls Try.prog 3 #[.slice a l.length cap] w fun e w' => e = .returned (.bool true) ∧ Below w.heap.size w w' := by
  have CS := Lib.hid (fun W h => sum_any a l cap W h)
  have CR := Lib.hid (fun W h => rsum_any a l cap W h)
  have CA := Lib.hid (fun W => awake_24 W)
  have HB := Lib.hid h
  clear h
  go_enter Try.func3, Try.ntmps3
  go_wp2_with (first
    | (go_at_call 10; refine (CS.out _ HB.out).mono ?_; rintro e w1 ⟨rfl, hb⟩; have B1 := Lib.hid (HB.out.below hb); have HB1 := Lib.hid hb; clear hb)
    | (go_at_call 11; refine (CR.out _ B1.out).mono ?_; rintro e w2 ⟨rfl, hb⟩; have HB2 := Lib.hid (HB1.out.trans (hb.mono HB1.out.size)); clear hb)
    | (go_at_call 12; refine (CA.out _).mono ?_; rintro e w3 ⟨rfl, hb⟩; have HB3 := Lib.hid (HB2.out.trans (hb.mono HB2.out.size)); clear hb))
  go_ret
  exact ⟨rfl, HB3.out⟩

theorem bysAt_row {w : World} {x : Addr} {len cap : Nat} {zs : List Int} (hl : len ≤ cap) (hm : cap ≤ maxLen) (hz : zs.length = cap)
    (hcell : ∀ i, i < zs.length → w.cell? (x.add i) = some (.int .u8 (zs.getD i 0))) (hwf : ∀ n ∈ zs, (Lit.int .u8 n).wf = true) : BysAt w (some x) ((zs.take len).map (fun z => UInt8.ofNat z.toNat)) := by
  have hlen : ((zs.take len).map (fun z => UInt8.ofNat z.toNat)).length = len := by rw [List.length_map, List.length_take]; omega
  refine ⟨by omega, ?_⟩
  by_cases h0 : len = 0
  · left; rw [h0, List.take_zero]; rfl
  · right
    obtain ⟨b, off, spot⟩ := x
    have hc := hcell 0 (by omega)
    have hs : spot = none := by simpa [Addr.add] using World.cell?_spot hc
    subst hs
    have hlt : b < w.heap.size := by simpa [Addr.add] using World.block_lt_of_cell? w _ hc
    refine ⟨b, off, rfl, hlt, fun i hi => ?_⟩
    rw [hlen] at hi
    have h := hcell i (by omega)
    have hb := bounds_u8 (hwf (zs.getD i 0) (by rw [List.getD_eq_getElem?_getD, List.getElem?_eq_getElem (by omega)]; simp))
    have e : ((((zs.take len).map (fun z => UInt8.ofNat z.toNat)).getD i 0).toNat : Int) = zs.getD i 0 := by
      have : ((zs.take len).map (fun z => UInt8.ofNat z.toNat)).getD i 0 = UInt8.ofNat (zs.getD i 0).toNat := by
        simp [List.getD_eq_getElem?_getD, hi, show i < zs.length by omega]
      rw [this, UInt8.toNat_ofNat']
      obtain ⟨n, hn⟩ := Int.eq_ofNat_of_zero_le hb.1
      rw [hn] at hb ⊢
      rw [Int.toNat_natCast, Nat.mod_eq_of_lt (by omega)]
    rw [e]
    by_cases h0 : i = 0
    · subst h0; simpa [Addr.add] using h
    · simpa [Addr.add, h0] using h

theorem imageSums_row {w : World} {x : Addr} {len cap : Nat} {zs : List Int} (hl : len ≤ cap) (hm : cap ≤ maxLen) (hz : zs.length = cap)
    (hcell : ∀ i, i < zs.length → w.cell? (x.add i) = some (.int .u8 (zs.getD i 0))) (hwf : ∀ n ∈ zs, (Lit.int .u8 n).wf = true) :
    Calls Try.prog 3 #[.slice (some x) len cap] w fun e w' => e = .returned (.bool true) ∧ Below w.heap.size w w' := by
  have h := imageSums_any (some x) _ cap w (bysAt_row hl hm hz hcell hwf)
  rw [show ((zs.take len).map (fun z => UInt8.ofNat z.toNat)).length = len by rw [List.length_map, List.length_take]; omega] at h
  exact h
end Go.Proofs.Ytgbgahdeopedpaa
