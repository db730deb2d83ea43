/- Walks of layer 16: the forms of a small program. -/
import Derived.Test.YtgbgahdeopedpaaIf
namespace Go.Proofs.Ytgbgahdeopedpaa
open Go.RowKit
set_option linter.unusedVariables false
attribute [local go_sem] ext_mk size_mk toList_mk get_mk take_drop_len take_tail_len ByteArray.mk_append_mk List.append_toArray

theorem ixf_empty (a : Option Addr) (c : Nat) (f : Value) (w : World) : Calls Try.prog 84 #[.slice a 0 c, f] w fun x w' => x = .returned (.int .i64 (-1)) ∧ w' = w := by
  go_enter Try.func84, Try.ntmps84
  go_wp2
  go_loopw [8] (fun vi wr => vi = .int .i64 0 ∧ wr = w) (fun vi _ => 0)
  case atStart => exact ⟨rfl, rfl⟩
  case round =>
    obtain ⟨rfl, rfl⟩ := hrel
    go_wp2
    go_ret
    exact ⟨rfl, rfl⟩

theorem cof_empty (a : Option Addr) (c : Nat) (f : Value) (w : World) : Calls Try.prog 61 #[.slice a 0 c, f] w fun x w' => x = .returned (.bool false) ∧ w' = w := by
  go_enter Try.func61, Try.ntmps61
  go_wp2_with (go_at_call 84; refine (ixf_empty _ _ _ _).mono ?_; rintro e w' ⟨rfl, rfl⟩)
  go_ret
  exact ⟨rfl, rfl⟩

/-- a small program lies here: one function of two instructions -/
structure P1At (w : World) (F C cc : Nat) : Prop where
  fl : F < w.heap.size
  cl : C < w.heap.size
  f0 : w.cell? ⟨F, 0, none⟩ = some (.int .i64 0)
  f1 : w.cell? ⟨F, 1, none⟩ = some (.int .i64 1)
  f2 : w.cell? ⟨F, 2, none⟩ = some (.slice (some ⟨C, 0, none⟩) 2 cc)
  c : ∀ i, i < 12 → w.cell? ⟨C, i, none⟩ = some ([Value.int .i64 1, .int .i64 0, .int .i64 0, .int .i64 0, .slice none 0 0, .slice none 0 0, .int .i64 13, .int .i64 0, .int .i64 0, .int .i64 0, .slice none 0 0, .slice none 0 0].getD i (.int .i64 0))

theorem P1At.below {w w' : World} {F C cc : Nat} (h : P1At w F C cc) (hb : Below w.heap.size w w') : P1At w' F C cc := by
  have e : ∀ k, w'.cell? ⟨F, k, none⟩ = w.cell? ⟨F, k, none⟩ := fun k => hb.cell (p := ⟨F, k, none⟩) h.fl
  have g : ∀ k, w'.cell? ⟨C, k, none⟩ = w.cell? ⟨C, k, none⟩ := fun k => hb.cell (p := ⟨C, k, none⟩) h.cl
  exact ⟨Nat.lt_of_lt_of_le h.fl hb.size, Nat.lt_of_lt_of_le h.cl hb.size, by rw [e]; exact h.f0, by rw [e]; exact h.f1, by rw [e]; exact h.f2, fun i hi => by rw [g]; exact h.c i hi⟩

def Box3 (W : World) (m : Nat) (a b c : Value) : Prop := W.cell? ⟨m, 0, none⟩ = some a ∧ W.cell? ⟨m, 1, none⟩ = some b ∧ W.cell? ⟨m, 2, none⟩ = some c

theorem box3_below {W V : World} {m : Nat} {a b c : Value} (hl : m < W.heap.size) (h : Box3 W m a b c) (hb : Below W.heap.size W V) : Box3 V m a b c := by
  have e : ∀ k, V.cell? ⟨m, k, none⟩ = W.cell? ⟨m, k, none⟩ := fun k => hb.cell (p := ⟨m, k, none⟩) hl
  unfold Box3; rw [e, e, e]; exact h

set_option maxHeartbeats 4000000 in
set_option maxRecDepth 8000 in
theorem forms_p1 (b F C cf cc : Nat) (pr al : Value) (w : World) (hW : WBlk w b (.slice (some ⟨F, 0, none⟩) 1 cf) (.slice none 0 0) (.slice none 0 0) (.int .i64 0) pr al) (hP : P1At w F C cc) :
    Calls Try.prog 49 #[.pointer (some ⟨b, 0, none⟩)] w fun x w' => x = .returned (.tuple #[.int .i64 0, .int .i64 0, .int .i64 0]) ∧ Below w.heap.size w w' := by
  have HP := Lib.hid hP
  have CI := Lib.hid (fun n e h0 h1 W => ins_any n e h0 h1 W)
  have C1 := Lib.hid (fun p W => form_fix p C cc W)
  have C2 := Lib.hid (fun p W => form_halt p C cc W)
  obtain ⟨⟨e0, e1, e2, e3, _, _⟩, _⟩ := hW.cells
  have g0 := hP.f0
  have hb0 : Below w.heap.size w (w.alloc (.cells #[.slice (some ⟨F, 0, none⟩) 1 cf, .slice none 0 0, .slice none 0 0, .int .i64 0] 31)) := (Below.refl _ _).alloc (Nat.le_refl _) _
  have HB0 := Lib.hid hb0
  clear hW hP hb0
  go_enter Try.func49, Try.ntmps49
  go_wp2_with (first
    | (go_at_call 61; refine (cof_empty _ _ _ _).mono ?_; rintro e w' ⟨rfl, rfl⟩; have g0 : (w.alloc (.cells #[.slice (some ⟨F, 0, none⟩) 1 cf, .slice none 0 0, .slice none 0 0, .int .i64 0] 31)).cell? ⟨F, 0, none⟩ = some (.int .i64 0) := (HP.out.below HB0.out).f0)
    | (go_at_call 63; refine (CI.out _ _ (by decide) (by decide) _).mono ?_; rintro e w' ⟨rfl, rfl⟩))
  go_loopw [65] (fun vi wr => (vi = .int .i64 0 ∨ vi = .int .i64 1) ∧ Below w.heap.size w wr) (fun vi _ => 1 - (intOf vi).toNat)
  case atStart => exact ⟨.inl rfl, HB0.out⟩
  case round =>
    obtain ⟨hv, hbr⟩ := hrel
    obtain ⟨W0, hW0⟩ : ∃ W, W = wr := ⟨_, rfl⟩
    subst hW0
    rcases hv with rfl | rfl
    · have hP2 := HP.out.below hbr
      have p0 := hP2.f0
      have p1 := hP2.f1
      have p2 := hP2.f2
      clear hP2
      go_wp2_with fail
      go_loopw [95] (fun vj wq => (vj = .int .i64 0 ∨ vj = .int .i64 1 ∨ vj = .int .i64 2) ∧ Below w.heap.size w wq ∧ W0.heap.size < wq.heap.size ∧ Box3 wq W0.heap.size (.int .i64 0) (.int .i64 1) (.slice (some ⟨C, 0, none⟩) 2 cc)) (fun vj _ => 2 - (intOf vj).toNat)
      case atStart => exact ⟨.inl rfl, hbr.alloc hbr.size _, by simp, by simp, by simp, by simp⟩
      case round =>
        obtain ⟨hv, hbq, hmlt, hm⟩ := hrel
        rcases hv with rfl | rfl | rfl
        ·
          have c0 : wr.cell? ⟨C, 0, none⟩ = some (.int .i64 1) := (HP.out.below hbq).c 0 (by decide)
          have c1 : wr.cell? ⟨C, 0 + 1, none⟩ = some (.int .i64 0) := (HP.out.below hbq).c (0 + 1) (by decide)
          have c2 : wr.cell? ⟨C, 0 + 2, none⟩ = some (.int .i64 0) := (HP.out.below hbq).c (0 + 2) (by decide)
          have c3 : wr.cell? ⟨C, 0 + 3, none⟩ = some (.int .i64 0) := (HP.out.below hbq).c (0 + 3) (by decide)
          have c4 : wr.cell? ⟨C, 0 + 4, none⟩ = some (.slice none 0 0) := (HP.out.below hbq).c (0 + 4) (by decide)
          have c5 : wr.cell? ⟨C, 0 + 5, none⟩ = some (.slice none 0 0) := (HP.out.below hbq).c (0 + 5) (by decide)
          have m0 := hm.1
          have m1 := hm.2.1
          have m2 := hm.2.2
          go_wp2_with (go_at_call 64; refine (C1.out _ _).mono ?_; rintro e w4 ⟨rfl, hb4⟩; have hbw4 := (hbq.trans (((Below.refl w.heap.size wr).alloc hbq.size _).trans (hb4.mono (by have := hbq.size; simp; omega)))); have hm4 := box3_below hmlt hm (((Below.refl wr.heap.size wr).alloc (Nat.le_refl _) _).trans (hb4.mono (by simp))))
          go_roundw
          case rel => exact ⟨.inr (.inl rfl), hbw4, by have := hb4.size; simp at this; omega, hm4⟩
          case measure => simp [intOf]
        ·
          have c0 : wr.cell? ⟨C, 6, none⟩ = some (.int .i64 13) := (HP.out.below hbq).c 6 (by decide)
          have c1 : wr.cell? ⟨C, 6 + 1, none⟩ = some (.int .i64 0) := (HP.out.below hbq).c (6 + 1) (by decide)
          have c2 : wr.cell? ⟨C, 6 + 2, none⟩ = some (.int .i64 0) := (HP.out.below hbq).c (6 + 2) (by decide)
          have c3 : wr.cell? ⟨C, 6 + 3, none⟩ = some (.int .i64 0) := (HP.out.below hbq).c (6 + 3) (by decide)
          have c4 : wr.cell? ⟨C, 6 + 4, none⟩ = some (.slice none 0 0) := (HP.out.below hbq).c (6 + 4) (by decide)
          have c5 : wr.cell? ⟨C, 6 + 5, none⟩ = some (.slice none 0 0) := (HP.out.below hbq).c (6 + 5) (by decide)
          have m0 := hm.1
          have m1 := hm.2.1
          have m2 := hm.2.2
          go_wp2_with (go_at_call 64; refine (C2.out _ _).mono ?_; rintro e w4 ⟨rfl, hb4⟩; have hbw4 := (hbq.trans (((Below.refl w.heap.size wr).alloc hbq.size _).trans (hb4.mono (by have := hbq.size; simp; omega)))); have hm4 := box3_below hmlt hm (((Below.refl wr.heap.size wr).alloc (Nat.le_refl _) _).trans (hb4.mono (by simp))))
          go_roundw
          case rel => exact ⟨.inr (.inr rfl), hbw4, by have := hb4.size; simp at this; omega, hm4⟩
          case measure => simp [intOf]
        · go_wp2_with fail
          go_roundw
          case rel => exact ⟨.inr rfl, hbq⟩
          case measure => simp [intOf]
    · go_wp2_with fail
      go_ret3
      exact ⟨rfl, hbr⟩
end Go.Proofs.Ytgbgahdeopedpaa
