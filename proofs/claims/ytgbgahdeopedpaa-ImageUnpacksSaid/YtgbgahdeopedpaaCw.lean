/- Walks of layer 16: the world of a program, which primitives allocate with it. -/
import Derived.Test.YtgbgahdeopedpaaIw
namespace Go.Proofs.Ytgbgahdeopedpaa
open Go.RowKit
set_option linter.unusedVariables false
attribute [local go_sem] ext_mk size_mk toList_mk get_mk take_drop_len take_tail_len ByteArray.mk_append_mk List.append_toArray

def allocL (k : Nat) : List Value := (List.range k).map fun (i : Nat) => Value.bool (allocB (i : Int))

theorem allocL_succ (k : Nat) : allocL k ++ [Value.bool (allocB k)] = allocL (k + 1) := by simp [allocL, List.range_succ]

theorem addr_plain (g j : Nat) : (⟨g, 0, none⟩ : Addr).add j = ⟨g, j, none⟩ := by
  unfold Addr.add
  by_cases h0 : j = 0
  · subst h0; rfl
  · rw [if_neg h0]; simp

/-- a program's world: its box, the primitives, which of them allocate -/
def WoAt (w : World) (b : Nat) (fa sa ra : Option Addr) (fn sn rn fc sc rc : Nat) (en : Int) : Prop :=
  ∃ g cap h c, WBlk w b (.slice fa fn fc) (.slice sa sn sc) (.slice ra rn rc) (.int .i64 en) (.slice (some ⟨g, 0, none⟩) 61 cap) (.slice (some ⟨h, 0, none⟩) 61 c) ∧ PrAt w g ∧ h < w.heap.size ∧ ∀ i, i < 61 → w.cell? ⟨h, i, none⟩ = some (.bool (allocB (i : Nat)))

theorem WoAt.below {w V : World} {b : Nat} {fa sa ra : Option Addr} {fn sn rn fc sc rc : Nat} {en : Int} (h : WoAt w b fa sa ra fn sn rn fc sc rc en) (hb : Below w.heap.size w V) : WoAt V b fa sa ra fn sn rn fc sc rc en := by
  obtain ⟨g, cap, k, c, h1, h2, h3, h4⟩ := h
  exact ⟨g, cap, k, c, h1.below hb, h2.below hb, Nat.lt_of_lt_of_le h3 hb.size, fun i hi => (hb.cell (p := ⟨k, i, none⟩) h3).trans (h4 i hi)⟩

set_option maxHeartbeats 4000000 in
set_option maxRecDepth 8000 in
theorem worldOf_full (fa sa ra : Option Addr) (fn sn rn fc sc rc : Nat) (en : Int) (w : World) :
    Calls Try.prog 48 #[.agg #[.slice fa fn fc, .slice sa sn sc, .slice ra rn rc, .int .i64 en]] w fun e w' =>
      ∃ b, e = .returned (.pointer (some ⟨b, 0, none⟩)) ∧ WoAt w' b fa sa ra fn sn rn fc sc rc en ∧ Below w.heap.size w w' := by
  have CP := Lib.hid (fun W => prims_at W)
  have CA := Lib.hid (fun n W => allocates_any n W)
  have hS0 : ∀ o, WS w (w.alloc o).drew := fun o => ⟨by simp, ((Below.refl _ _).alloc (Nat.le_refl _) _).drew⟩
  go_enter Try.func48, Try.ntmps48
  go_wp2_with fail
  go_region_held3 (fun w' => w'.cell? ⟨w.heap.size, 0, none⟩ = some (.slice fa fn fc) ∧ w'.cell? ⟨w.heap.size, 1, none⟩ = some (.slice sa sn sc) ∧ w'.cell? ⟨w.heap.size, 2, none⟩ = some (.slice ra rn rc) ∧ w'.cell? ⟨w.heap.size, 3, none⟩ = some (.int .i64 en) ∧ WS w w')
    (first
      | (go_keep; done)
      | (refine ⟨?_, ?_, ?_, ?_, hS0 _⟩ <;> (go_keep; done))
      | (go_split_ands; exact ⟨WS.cell (by assumption) (by assumption) hbx, WS.cell (by assumption) (by assumption) hbx, WS.cell (by assumption) (by assumption) hbx, WS.cell (by assumption) (by assumption) hbx, WS.keep (by assumption) hbx⟩)
      | (go_split_ands; exact ⟨WS.cell (by assumption) (by assumption) ((Below.refl _ _).alloc (Nat.le_refl _) _), WS.cell (by assumption) (by assumption) ((Below.refl _ _).alloc (Nat.le_refl _) _), WS.cell (by assumption) (by assumption) ((Below.refl _ _).alloc (Nat.le_refl _) _), WS.cell (by assumption) (by assumption) ((Below.refl _ _).alloc (Nat.le_refl _) _), WS.keep (by assumption) ((Below.refl _ _).alloc (Nat.le_refl _) _)⟩))
    (first | (go_at_call 59; (with_reducible refine (CP.out _).mono ?_); rintro e w1 ⟨g, cap, rfl, hcap, hP, hgw, hbx⟩))
  obtain ⟨b, hbe⟩ : ∃ b, w1.heap.size = b := ⟨_, rfl⟩
  obtain ⟨w2, hw2⟩ : ∃ W, w1.alloc (.cells #[.slice fa fn fc, .slice sa sn sc, .slice ra rn rc, .int .i64 en, .slice (some ⟨g, 0, none⟩) 61 cap, .slice none 0 0] 114) = W := ⟨_, rfl⟩
  have hW2 : WBlk w2 b (.slice fa fn fc) (.slice sa sn sc) (.slice ra rn rc) (.int .i64 en) (.slice (some ⟨g, 0, none⟩) 61 cap) (.slice none 0 0) := by subst hw2; subst hbe; exact heap_alloc_new _ _
  have hB2 : Below b w1 w2 := by subst hw2; subst hbe; exact (Below.refl _ _).alloc (Nat.le_refl _) _
  have hS2 : WS w w2 := by rw [← hw2]; go_split_ands; assumption
  have hgb : g < b := by rw [← hbe]; exact hP.1
  have hP2 : PrAt w2 g := hP.below (by subst hbe; exact hB2)
  have hb1 : w.heap.size ≤ b := by have := hS2.be.size; have h2 := hW2.lt; rw [← hw2] at this; have h3 : (w1.alloc (.cells #[.slice fa fn fc, .slice sa sn sc, .slice ra rn rc, .int .i64 en, .slice (some ⟨g, 0, none⟩) 61 cap, .slice none 0 0] 114)).heap.size = b + 1 := (by simp [hbe]); have h4 := hS2.lt; rw [← hw2, h3] at h4; omega
  rw [hbe, hw2]
  have hl2 := hW2.lt
  obtain ⟨⟨e0, e1, e2, e3, e4, e5⟩, f5⟩ := hW2.cells
  have HW2 := Lib.hid hW2
  clear hW2 hw2 hP hgw hS0 CP hcap
  go_wp2_with fail
  go_loopw [14] (fun vi wr => ∃ (k : Nat) (al : Value) (cs : List Value), vi = .int .i64 k ∧ k ≤ 61 ∧ WBlk wr b (.slice fa fn fc) (.slice sa sn sc) (.slice ra rn rc) (.int .i64 en) (.slice (some ⟨g, 0, none⟩) 61 cap) al ∧ wr.ownsRow (b + 1) 4 1 al k cs ∧ cs = allocL k ∧ Below b w2 wr) (fun vi _ => 61 - (intOf vi).toNat)
  case atStart => exact ⟨0, _, [], rfl, by decide, HW2.out, World.ownsRow_nil _ _ _ _, rfl, Below.refl _ _⟩
  case round =>
    obtain ⟨k, al, cs, rfl, hk, hWr, hown, hcs, hbr⟩ := hrel
    have hlr := hWr.lt
    obtain ⟨⟨r0, r1, r2, r3, r4, r5⟩, q5⟩ := hWr.cells
    by_cases hlt : k < 61
    · have HWr := Lib.hid hWr
      have HOwn := Lib.hid hown
      clear hWr hown hP2 hS2 hB2 e0 e1 e2 e3 e4 e5 f5 hl2
      go_wp2_with fail
      go_region_law (first
        | (go_simp; go_at_call 60; refine (CA.out _ _).mono ?_; rintro e w3 ⟨rfl, hb3⟩; have hb3w : Below wr.heap.size wr w3 := ((Below.refl _ _).drew).trans hb3; have hW3 := HWr.out.below hb3w; have hown3 := row_below HOwn.out hb3w; have r53 := hW3.cells.1.2.2.2.2.2; have q53 := hW3.cells.2; have r5a : ∀ o, (w3.alloc o).cell? ⟨b, 5, none⟩ = some al := fun o => (hW3.below ((Below.refl _ _).alloc (Nat.le_refl _) o)).cells.1.2.2.2.2.2)
        | (refine step_bool hW3 hown3 hlt rfl _ _ rfl rfl rfl ?_; intro g' cap' V hWv r5v q5v hownV hBv))
      all_goals go_wp2_with fail
      all_goals go_roundw
      all_goals first
        | exact ⟨k + 1, _, _, by go_num, hlt, hWv.set5 _, ownsRow_setCell_below hownV (a := ⟨b, 5, none⟩) (Nat.lt_succ_self b) _, by rw [hcs]; exact allocL_succ k, ((hbr.trans (hb3w.mono (Nat.le_of_lt hlr))).trans hBv).setCell (p := ⟨b, 5, none⟩) (Nat.le_refl _) _⟩
        | (simp [intOf]; omega)
    · obtain rfl : k = 61 := by omega
      go_wp2_with fail
      go_ret
      refine ⟨b, rfl, ?_, hS2.be.trans (hbr.mono hb1)⟩
      obtain ⟨h, c, rfl, h1, h2⟩ := hown.form (by decide)
      refine ⟨g, cap, h, c, hWr, hP2.belowB hgb hbr, h2, fun i hi => ?_⟩
      have := hown.cells (g := h) rfl i (.bool (allocB (i : Int))) (by rw [hcs]; simp [allocL, hi])
      rwa [addr_plain] at this
end Go.Proofs.Ytgbgahdeopedpaa
