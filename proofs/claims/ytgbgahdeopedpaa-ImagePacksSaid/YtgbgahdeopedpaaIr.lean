/- Walks of layer 16: the reader of bytes at a small program's bytes. -/
import Derived.Test.YtgbgahdeopedpaaIm
import Derived.BigQuiet
namespace Go.Proofs.Ytgbgahdeopedpaa
open Go.RowKit
set_option linter.unusedVariables false
attribute [local go_sem] ext_mk size_mk toList_mk get_mk take_drop_len take_tail_len ByteArray.mk_append_mk List.append_toArray

/-- one box is o; all other blocks are as they were -/
structure BxAt (w W : World) (p : Nat) (o : Obj) : Prop where
  k : KAt W p o
  be : Below p w W
  kp : ∀ j, j < w.heap.size → j ≠ p → W.heap[j]? = w.heap[j]?

theorem BxAt.start {w : World} {p : Nat} {o : Obj} (h : KAt w p o) : BxAt w w p o := ⟨h, Below.refl _ _, fun _ _ _ => rfl⟩

theorem BxAt.trans {a b c : World} {p : Nat} {o o' : Obj} (h : BxAt a b p o) (k : BxAt b c p o') : BxAt a c p o' :=
  ⟨k.k, h.be.trans k.be, fun j hj hn => (k.kp j (Nat.lt_of_lt_of_le hj h.be.size) hn).trans (h.kp j hj hn)⟩

theorem BxAt.set {w W : World} {p i : Nat} {cs : Array Value} {T : TypeId} (h : BxAt w W p (.cells cs T (0, 0))) (v : Value) : BxAt w (W.setCell ⟨p, i, none⟩ v) p (.cells (cs.setIfInBounds i v) T (0, 0)) :=
  ⟨⟨heap_setCell_same (i := i) _ _ _ _ v h.k.x⟩, h.be.setCell (p := ⟨p, i, none⟩) (Nat.le_refl _) _, fun j hj hn => (Below.heap_setCell _ _ _ _ hn).trans (h.kp j hj hn)⟩

theorem BxAt.below {w W V : World} {p : Nat} {o : Obj} (h : BxAt w W p o) (hb : Below W.heap.size W V) : BxAt w V p o :=
  ⟨h.k.below hb, h.be.trans (hb.mono (Nat.le_of_lt (heap_lt h.k.x))), fun j hj hn => (hb.block j (Nat.lt_of_lt_of_le hj h.be.size)).trans (h.kp j hj hn)⟩

theorem BxAt.alloc {w W : World} {p : Nat} {o : Obj} (h : BxAt w W p o) (q : Obj) : BxAt w (W.alloc q) p o := h.below ((Below.refl _ _).alloc (Nat.le_refl _) _)

theorem BxAt.drew {w W : World} {p : Nat} {o : Obj} (h : BxAt w W p o) : BxAt w W.drew p o := h.below ((Below.refl _ _).drew)

theorem BxAt.put {w W : World} {p : Nat} {o : Obj} (h : BxAt w W p o) (hp : p < w.heap.size) (a : Addr) (h1 : w.heap.size ≤ a.block) (h2 : a.block ≠ p) (v : Value) : BxAt w (W.setCell a v) p o :=
  ⟨h.k.put a (fun e => h2 e.symm) v, h.be.trans ⟨rfl, rfl, rfl, by simp [World.setCell], fun k hk => Below.heap_setCell _ _ _ _ (by omega)⟩, fun j hj hn => (Below.heap_setCell _ _ _ _ (by omega)).trans (h.kp j hj hn)⟩

theorem BxAt.cell {w W : World} {p : Nat} {o : Obj} (h : BxAt w W p o) {a : Addr} (ha : a.block < w.heap.size) (hn : a.block ≠ p) : W.cell? a = w.cell? a := World.cell?_of_block (h.kp _ ha hn)

theorem BxAt.blk {w W : World} {p m : Nat} {o q : Obj} (h : BxAt w W p o) (hm : KAt w m q) (hn : m ≠ p) : KAt W m q := ⟨(h.kp m (heap_lt hm.x) hn).trans hm.x⟩

/-- the reader's box -/
def dBlk (g cap at' : Nat) : Obj := .cells #[.slice (some ⟨g, 0, none⟩) 19 cap, .int .i64 at', .bool false] 94 (0, 0)

theorem KAt.dcells {W : World} {p g cap i : Nat} (h : KAt W p (dBlk g cap i)) : W.cell? ⟨p, 0, none⟩ = some (.slice (some ⟨g, 0, none⟩) 19 cap) ∧ W.cell? ⟨p, 1, none⟩ = some (.int .i64 i) ∧ W.cell? ⟨p, 2, none⟩ = some (.bool false) ∧ W.frozen? ⟨p, 1, none⟩ = false ∧ W.frozen? ⟨p, 2, none⟩ = false := by
  refine ⟨?_, ?_, ?_, frozen_of_row _ _ _ _ _ h.x, frozen_of_row _ _ _ _ _ h.x⟩
  all_goals (rw [cell_of_row _ _ _ _ _ _ h.x]; rfl)

/-- the bytes lie -/
structure SAt (w : World) (g : Nat) (p : Nat) : Prop where
  l : g < w.heap.size
  n : g ≠ p
  c : ∀ i, i < 19 → w.cell? ⟨g, i, none⟩ = some (.int .u8 ((encL.getD i 0).toNat : Int))

theorem SAt.bx {w W : World} {g p : Nat} {o : Obj} (h : SAt w g p) (k : BxAt w W p o) : SAt W g p :=
  ⟨Nat.lt_of_lt_of_le h.l k.be.size, h.n, fun i hi => (k.cell (a := ⟨g, i, none⟩) h.l h.n).trans (h.c i hi)⟩

theorem SAt.below {w W : World} {g p : Nat} (h : SAt w g p) (hb : Below w.heap.size w W) : SAt W g p :=
  ⟨Nat.lt_of_lt_of_le h.l hb.size, h.n, fun i hi => (hb.cell (p := ⟨g, i, none⟩) h.l).trans (h.c i hi)⟩

set_option maxHeartbeats 4000000 in
set_option maxRecDepth 8000 in
theorem plain_r (p g cap i : Nat) (c : Int) (w : World) (hk : KAt w p (dBlk g cap i)) (hS : SAt w g p) (hi : i < 19) (hc : ((encL.getD i 0).toNat : Int) = c) (h1 : c = 0 ∨ c = 1 ∨ c = 2 ∨ c = 13) :
    Calls Try.prog 56 #[.pointer (some ⟨p, 0, none⟩)] w fun x w' => x = .returned (.int .u64 c) ∧ BxAt w w' p (dBlk g cap (i + 1)) := by
  have B0 := Lib.hid (BxAt.start hk)
  have b0 : w.cell? ⟨g, i, none⟩ = some (.int .u8 c) := by rw [hS.c i hi, hc]
  obtain ⟨d0, d1, d2, z1, z2⟩ := hk.dcells
  have k1 : decide (19 ≤ (i : Int)) = false := decide_eq_false (by omega)
  have k2 : IntKind.i64.wrap ((i : Int) + 1) = ((i + 1 : Nat) : Int) := IntWalk.i64_in _ (by omega)
  have k3 : (i : Int).toNat = i := Int.toNat_natCast i
  clear hk hS hc
  rcases h1 with rfl | rfl | rfl | rfl
  ·
    go_enter Try.func56, Try.ntmps56
    go_wp2_with fail
    go_loopw [3, 4] (fun v3 v4 wr => v3 = .int .u64 0 ∧ v4 = .int .i64 0 ∧ wr = w) (fun _ _ _ => 0)
    case atStart => exact ⟨rfl, rfl, rfl⟩
    case round =>
      obtain ⟨rfl, rfl, rfl⟩ := hrel
      go_wp2_with fail
      go_quiet (fail)
      go_wp2_with fail
      go_quiet (fail)
      go_wp2_with fail
      go_ret
      refine ⟨?_, ((B0.out.below (below_drewN (Below.refl _ _) _)).set (i := 1) _).set (i := 2) _⟩
      congr 2
  ·
    go_enter Try.func56, Try.ntmps56
    go_wp2_with fail
    go_loopw [3, 4] (fun v3 v4 wr => v3 = .int .u64 0 ∧ v4 = .int .i64 0 ∧ wr = w) (fun _ _ _ => 0)
    case atStart => exact ⟨rfl, rfl, rfl⟩
    case round =>
      obtain ⟨rfl, rfl, rfl⟩ := hrel
      go_wp2_with fail
      go_quiet (fail)
      go_wp2_with fail
      go_quiet (fail)
      go_wp2_with fail
      go_ret
      refine ⟨?_, ((B0.out.below (below_drewN (Below.refl _ _) _)).set (i := 1) _).set (i := 2) _⟩
      congr 2
  ·
    go_enter Try.func56, Try.ntmps56
    go_wp2_with fail
    go_loopw [3, 4] (fun v3 v4 wr => v3 = .int .u64 0 ∧ v4 = .int .i64 0 ∧ wr = w) (fun _ _ _ => 0)
    case atStart => exact ⟨rfl, rfl, rfl⟩
    case round =>
      obtain ⟨rfl, rfl, rfl⟩ := hrel
      go_wp2_with fail
      go_quiet (fail)
      go_wp2_with fail
      go_quiet (fail)
      go_wp2_with fail
      go_ret
      refine ⟨?_, ((B0.out.below (below_drewN (Below.refl _ _) _)).set (i := 1) _).set (i := 2) _⟩
      congr 2
  ·
    go_enter Try.func56, Try.ntmps56
    go_wp2_with fail
    go_loopw [3, 4] (fun v3 v4 wr => v3 = .int .u64 0 ∧ v4 = .int .i64 0 ∧ wr = w) (fun _ _ _ => 0)
    case atStart => exact ⟨rfl, rfl, rfl⟩
    case round =>
      obtain ⟨rfl, rfl, rfl⟩ := hrel
      go_wp2_with fail
      go_quiet (fail)
      go_wp2_with fail
      go_quiet (fail)
      go_wp2_with fail
      go_ret
      refine ⟨?_, ((B0.out.below (below_drewN (Below.refl _ _) _)).set (i := 1) _).set (i := 2) _⟩
      congr 2

theorem small_r (p g cap i : Nat) (c : Int) (w : World) (hk : KAt w p (dBlk g cap i)) (hS : SAt w g p) (hi : i < 19) (hc : ((encL.getD i 0).toNat : Int) = c) (h1 : c = 0 ∨ c = 1 ∨ c = 2 ∨ c = 13) :
    Calls Try.prog 40 #[.pointer (some ⟨p, 0, none⟩)] w fun x w' => x = .returned (.int .i64 c) ∧ BxAt w w' p (dBlk g cap (i + 1)) := by
  have C := Lib.hid (plain_r p g cap i c w hk hS hi hc h1)
  have k1 : decide (4611686018427387904 < c) = false := decide_eq_false (by omega)
  have k2 : IntKind.i64.wrap c = c := IntWalk.i64_in _ (by omega)
  clear hk hS hc h1
  go_enter Try.func40, Try.ntmps40
  go_wp2_with (first | (go_at_call 56; refine C.out.mono ?_; rintro e w1 ⟨rfl, h1⟩))
  go_ret
  exact ⟨rfl, h1⟩

theorem signed_r (p g cap i : Nat) (w : World) (hk : KAt w p (dBlk g cap i)) (hS : SAt w g p) (hi : i < 19) (hc : ((encL.getD i 0).toNat : Int) = 0) :
    Calls Try.prog 57 #[.pointer (some ⟨p, 0, none⟩)] w fun x w' => x = .returned (.int .i64 0) ∧ BxAt w w' p (dBlk g cap (i + 1)) := by
  have C := Lib.hid (plain_r p g cap i 0 w hk hS hi hc (.inl rfl))
  clear hk hS hc
  go_enter Try.func57, Try.ntmps57
  go_wp2_with (first | (go_at_call 56; refine C.out.mono ?_; rintro e w1 ⟨rfl, h1⟩))
  go_ret
  exact ⟨rfl, h1⟩

theorem count_r (p g cap i : Nat) (c k : Int) (w : World) (hk : KAt w p (dBlk g cap i)) (hS : SAt w g p) (hi : i < 19) (hc : ((encL.getD i 0).toNat : Int) = c) (hq : (c = 0 ∧ k = 1) ∨ (c = 0 ∧ k = 8) ∨ (c = 1 ∧ k = 3 ∧ i < 15) ∨ (c = 2 ∧ k = 6 ∧ i ≤ 6)) :
    Calls Try.prog 41 #[.pointer (some ⟨p, 0, none⟩), .int .i64 k] w fun x w' => x = .returned (.int .i64 c) ∧ BxAt w w' p (dBlk g cap (i + 1)) := by
  have C := Lib.hid (plain_r p g cap i c w hk hS hi hc (by omega))
  rcases hq with ⟨rfl, rfl⟩ | ⟨rfl, rfl⟩ | ⟨rfl, rfl, hi2⟩ | ⟨rfl, rfl, hi2⟩
  ·
    have k1 : IntKind.i64.wrap 0 = 0 := IntWalk.i64_in _ (by omega)
    have k3 : IntKind.i64.wrap (19 - ((i : Int) + 1)) = 19 - ((i : Int) + 1) := IntWalk.i64_in _ (by omega)
    have k4 : IntKind.u64.wrap (19 - ((i : Int) + 1)) = 19 - ((i : Int) + 1) := IntWalk.u64_in _ (by omega)
    have k5 : decide (19 - ((i : Int) + 1) < 0) = false := decide_eq_false (by omega)
    clear hk hS hc
    go_enter Try.func41, Try.ntmps41
    go_wp2_with (first | (go_at_call 56; refine C.out.mono ?_; rintro e w1 ⟨rfl, h1⟩; obtain ⟨d0, d1, d2, z1, z2⟩ := h1.k.dcells))
    go_quiet (fail)
    go_wp2_with fail
    go_ret
    exact ⟨rfl, h1.below (below_drewN (Below.refl _ _) _)⟩
  ·
    have k1 : IntKind.i64.wrap 0 = 0 := IntWalk.i64_in _ (by omega)
    have k3 : IntKind.i64.wrap (19 - ((i : Int) + 1)) = 19 - ((i : Int) + 1) := IntWalk.i64_in _ (by omega)
    have k4 : IntKind.u64.wrap (19 - ((i : Int) + 1)) = 19 - ((i : Int) + 1) := IntWalk.u64_in _ (by omega)
    have k5 : decide ((19 - ((i : Int) + 1)) / 8 < 0) = false := decide_eq_false (by omega)
    clear hk hS hc
    go_enter Try.func41, Try.ntmps41
    go_wp2_with (first | (go_at_call 56; refine C.out.mono ?_; rintro e w1 ⟨rfl, h1⟩; obtain ⟨d0, d1, d2, z1, z2⟩ := h1.k.dcells))
    go_quiet (fail)
    go_wp2_with fail
    go_ret
    exact ⟨rfl, h1.below (below_drewN (Below.refl _ _) _)⟩
  ·
    have k1 : IntKind.i64.wrap 1 = 1 := IntWalk.i64_in _ (by omega)
    have k3 : IntKind.i64.wrap (19 - ((i : Int) + 1)) = 19 - ((i : Int) + 1) := IntWalk.i64_in _ (by omega)
    have k4 : IntKind.u64.wrap (19 - ((i : Int) + 1)) = 19 - ((i : Int) + 1) := IntWalk.u64_in _ (by omega)
    have k5 : decide ((19 - ((i : Int) + 1)) / 3 < 1) = false := decide_eq_false (by omega)
    clear hk hS hc
    go_enter Try.func41, Try.ntmps41
    go_wp2_with (first | (go_at_call 56; refine C.out.mono ?_; rintro e w1 ⟨rfl, h1⟩; obtain ⟨d0, d1, d2, z1, z2⟩ := h1.k.dcells))
    go_quiet (fail)
    go_wp2_with fail
    go_ret
    exact ⟨rfl, h1.below (below_drewN (Below.refl _ _) _)⟩
  ·
    have k1 : IntKind.i64.wrap 2 = 2 := IntWalk.i64_in _ (by omega)
    have k3 : IntKind.i64.wrap (19 - ((i : Int) + 1)) = 19 - ((i : Int) + 1) := IntWalk.i64_in _ (by omega)
    have k4 : IntKind.u64.wrap (19 - ((i : Int) + 1)) = 19 - ((i : Int) + 1) := IntWalk.u64_in _ (by omega)
    have k5 : decide ((19 - ((i : Int) + 1)) / 6 < 2) = false := decide_eq_false (by omega)
    clear hk hS hc
    go_enter Try.func41, Try.ntmps41
    go_wp2_with (first | (go_at_call 56; refine C.out.mono ?_; rintro e w1 ⟨rfl, h1⟩; obtain ⟨d0, d1, d2, z1, z2⟩ := h1.k.dcells))
    go_quiet (fail)
    go_wp2_with fail
    go_ret
    exact ⟨rfl, h1.below (below_drewN (Below.refl _ _) _)⟩

theorem x_set {W : World} {m : Nat} {o1 : Int} (h : KAt W m (xBlk o1)) (o a b c : Int) (l v : Value) :
    ((((((W.setCell ⟨m, 0, none⟩ (.int .i64 o)).setCell ⟨m, 1, none⟩ (.int .i64 a)).setCell ⟨m, 2, none⟩ (.int .i64 b)).setCell ⟨m, 3, none⟩ (.int .i64 c)).setCell ⟨m, 4, none⟩ l).setCell ⟨m, 5, none⟩ v).heap[m]? = some (.cells #[.int .i64 o, .int .i64 a, .int .i64 b, .int .i64 c, l, v] 58 (0, 0)) :=
  heap_setCell_same (i := 5) _ _ _ _ _ (heap_setCell_same (i := 4) _ _ _ _ _ (heap_setCell_same (i := 3) _ _ _ _ _ (heap_setCell_same (i := 2) _ _ _ _ _ (heap_setCell_same (i := 1) _ _ _ _ _ (heap_setCell_same (i := 0) _ _ _ _ _ h.x)))))

/-- behind calls of the reader: where it stands, the bytes, a block of the call's own -/
structure NAt (w W : World) (p g cap i m : Nat) (o : Obj) : Prop where
  b : BxAt w W p (dBlk g cap i)
  s : SAt W g p
  e : KAt W m o
  n : m ≠ p

theorem NAt.call {w W V : World} {p g cap i j m : Nat} {o : Obj} (h : NAt w W p g cap i m o) (k : BxAt W V p (dBlk g cap j)) : NAt w V p g cap j m o := ⟨h.b.trans k, h.s.bx k, k.blk h.e h.n, h.n⟩

theorem NAt.below {w W V : World} {p g cap i m : Nat} {o : Obj} (h : NAt w W p g cap i m o) (hb : Below W.heap.size W V) : NAt w V p g cap i m o := ⟨h.b.below hb, h.s.below hb, h.e.below hb, h.n⟩

set_option maxHeartbeats 4000000 in
set_option maxRecDepth 8000 in
theorem insn_r (p g cap i : Nat) (op : Int) (w : World) (hk : KAt w p (dBlk g cap i)) (hS : SAt w g p) (hi : (i = 7 ∧ op = 1) ∨ (i = 13 ∧ op = 13)) :
    Calls Try.prog 42 #[.pointer (some ⟨p, 0, none⟩)] w fun x w' => x = .returned (.agg #[.int .i64 op, .int .i64 0, .int .i64 0, .int .i64 0, .slice none 0 0, .slice none 0 0]) ∧ BxAt w w' p (dBlk g cap (i + 6)) := by
  have CS := Lib.hid (fun i c W h1 h2 h3 h4 h5 => small_r p g cap i c W h1 h2 h3 h4 h5)
  have CG := Lib.hid (fun i W h1 h2 h3 h4 => signed_r p g cap i W h1 h2 h3 h4)
  have CC := Lib.hid (fun i c k W h1 h2 h3 h4 h5 => count_r p g cap i c k W h1 h2 h3 h4 h5)
  have hp := heap_lt hk.x
  have hA : Below w.heap.size w (w.alloc (xBlk 0)) := (Below.refl _ _).alloc (Nat.le_refl _) _
  have N := Lib.hid (NAt.mk ((BxAt.start hk).below hA) (hS.below hA) (KAt.new w (xBlk 0)) (Nat.ne_of_gt hp))
  have HI := Lib.hid hi
  clear hk hS hA hi
  go_enter Try.func42, Try.ntmps42
  go_wp2_with (first
    | (go_at_call 40; refine (CS.out i op _ N.out.b.k N.out.s (by have := HI.out; omega) (by rcases HI.out with ⟨rfl, rfl⟩ | ⟨rfl, rfl⟩ <;> decide) (by have := HI.out; omega)).mono ?_; rintro e w1 ⟨rfl, h1⟩; have N1 := Lib.hid (N.out.call h1); clear N h1)
    | (go_at_call 57; refine (CG.out (i + 1) _ N1.out.b.k N1.out.s (by have := HI.out; omega) (by rcases HI.out with ⟨rfl, rfl⟩ | ⟨rfl, rfl⟩ <;> decide)).mono ?_; rintro e w1 ⟨rfl, h1⟩; have N2 := Lib.hid (N1.out.call h1); clear N1 h1)
    | (go_at_call 57; refine (CG.out (i + 1 + 1) _ N2.out.b.k N2.out.s (by have := HI.out; omega) (by rcases HI.out with ⟨rfl, rfl⟩ | ⟨rfl, rfl⟩ <;> decide)).mono ?_; rintro e w1 ⟨rfl, h1⟩; have N3 := Lib.hid (N2.out.call h1); clear N2 h1)
    | (go_at_call 57; refine (CG.out (i + 1 + 1 + 1) _ N3.out.b.k N3.out.s (by have := HI.out; omega) (by rcases HI.out with ⟨rfl, rfl⟩ | ⟨rfl, rfl⟩ <;> decide)).mono ?_; rintro e w1 ⟨rfl, h1⟩; have N4 := Lib.hid ((N3.out.call h1).below ((Below.refl _ _).alloc (Nat.le_refl _) (xBlk op))); have X4 := Lib.hid (KAt.new w1 (xBlk op)); have E4 := Lib.hid (Nat.ne_of_gt (heap_lt (N3.out.call h1).b.k.x)); clear N3 h1)
    | (go_at_call 41; refine (CC.out (i + 1 + 1 + 1 + 1) 0 1 _ N4.out.b.k N4.out.s (by have := HI.out; omega) (by rcases HI.out with ⟨rfl, rfl⟩ | ⟨rfl, rfl⟩ <;> decide) (.inl ⟨rfl, rfl⟩)).mono ?_; rintro e w2 ⟨rfl, h1⟩; have N5 := Lib.hid (N4.out.call h1); have X5 := Lib.hid (h1.blk X4.out E4.out); clear N4 X4 h1; obtain ⟨x0, x1, x2, x3, x4, x5⟩ := X5.out.xcells))
  go_loopw [4] (fun v4 wr => v4 = .int .i64 0 ∧ wr = w2) (fun _ _ => 0)
  case atStart => exact ⟨rfl, rfl⟩
  case round =>
    obtain ⟨rfl, rfl⟩ := hrel
    go_wp2_with (first
      | (go_at_call 41; refine (CC.out (i + 1 + 1 + 1 + 1 + 1) 0 1 _ N5.out.b.k N5.out.s (by have := HI.out; omega) (by rcases HI.out with ⟨rfl, rfl⟩ | ⟨rfl, rfl⟩ <;> decide) (.inl ⟨rfl, rfl⟩)).mono ?_; rintro e w3 ⟨rfl, h1⟩; have N6 := Lib.hid (N5.out.call h1); have X6 := Lib.hid (h1.blk X5.out E4.out); clear N5 X5 h1 x0 x1 x2 x3 x4 x5; obtain ⟨x0, x1, x2, x3, x4, x5⟩ := X6.out.xcells))
    go_loopw [5] (fun v4 wr => v4 = .int .i64 0 ∧ wr = w3) (fun _ _ => 0)
    case atStart => exact ⟨rfl, rfl⟩
    case round =>
      obtain ⟨rfl, rfl⟩ := hrel
      obtain ⟨y0, y1, y2, y3, y4, y5⟩ := N6.out.e.xcells
      have z0 : wr.frozen? ⟨w.heap.size, 0, none⟩ = false := frozen_of_row _ _ _ _ _ N6.out.e.x
      have z1 : wr.frozen? ⟨w.heap.size, 1, none⟩ = false := frozen_of_row _ _ _ _ _ N6.out.e.x
      have z2 : wr.frozen? ⟨w.heap.size, 2, none⟩ = false := frozen_of_row _ _ _ _ _ N6.out.e.x
      have z3 : wr.frozen? ⟨w.heap.size, 3, none⟩ = false := frozen_of_row _ _ _ _ _ N6.out.e.x
      have z4 : wr.frozen? ⟨w.heap.size, 4, none⟩ = false := frozen_of_row _ _ _ _ _ N6.out.e.x
      have z5 : wr.frozen? ⟨w.heap.size, 5, none⟩ = false := frozen_of_row _ _ _ _ _ N6.out.e.x
      go_wp2_with fail
      have hS : w.heap.size ≠ p := N6.out.n
      have hi' : (Try.prog.info? 58).map (·.size) = some 6 := by kernel_rfl
      (try simp only [Exit.inBlock, Exit.then]); refine bodyPost_ret (results_cell_row rfl _ _ w.heap.size 58 _ (0, 0) _ rfl (x_set N6.out.e op 0 0 0 (.slice none 0 0) (.slice none 0 0)) Try.underlying58 rfl hi') rfl ?_
      exact ⟨rfl, (((((N6.out.b.put hp ⟨_, 0, none⟩ (Nat.le_refl _) hS _).put hp ⟨_, 1, none⟩ (Nat.le_refl _) hS _).put hp ⟨_, 2, none⟩ (Nat.le_refl _) hS _).put hp ⟨_, 3, none⟩ (Nat.le_refl _) hS _).put hp ⟨_, 4, none⟩ (Nat.le_refl _) hS _).put hp ⟨_, 5, none⟩ (Nat.le_refl _) hS _⟩
end Go.Proofs.Ytgbgahdeopedpaa
