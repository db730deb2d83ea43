/- Walks of layer 24: a small image is unpacked; a small image and a sum that everybody knows. -/
import Derived.Test.YtgbgahdeopedpaaIx
namespace Go.Proofs.Ytgbgahdeopedpaa
open Go.RowKit
set_option linter.unusedVariables false
attribute [local go_sem] ext_mk size_mk toList_mk get_mk take_drop_len take_tail_len ByteArray.mk_append_mk List.append_toArray

theorem BysAt.conv {W : World} {s : Nat} {l : List UInt8} (h : BysAt W (some ⟨s, 0, none⟩) l) (cap : Nat) : Sem.run Try.prog (convert 22 9 (.slice (some ⟨s, 0, none⟩) l.length cap)) W = .ok (.string ⟨l.toArray⟩) W := conv_bys cap h.new

theorem BysAt.keep {W V : World} {s : Nat} {l : List UInt8} (h : BysAt W (some ⟨s, 0, none⟩) l) (hb : Below W.heap.size W V) : BysAt V (some ⟨s, 0, none⟩) l := h.blk (fun hl => hb.block s hl) hb.size

def izBlk : Obj := .cells #[.string ⟨#[]⟩, .string ⟨#[]⟩, .slice none 0 0, .slice none 0 0, .slice none 0 0, .int .i64 0] 33 (0, 0)

theorem KAt.izcells {W : World} {m : Nat} (h : KAt W m izBlk) : W.cell? ⟨m, 0, none⟩ = some (.string ⟨#[]⟩) ∧ W.cell? ⟨m, 1, none⟩ = some (.string ⟨#[]⟩) ∧ W.cell? ⟨m, 2, none⟩ = some (.slice none 0 0) ∧ W.cell? ⟨m, 3, none⟩ = some (.slice none 0 0) ∧ W.cell? ⟨m, 4, none⟩ = some (.slice none 0 0) ∧ W.cell? ⟨m, 5, none⟩ = some (.int .i64 0) := by
  refine ⟨?_, ?_, ?_, ?_, ?_, ?_⟩
  all_goals (rw [cell_of_row _ _ _ _ _ _ h.x]; rfl)

theorem KAt.izfrozen {W : World} {m : Nat} (h : KAt W m izBlk) : W.frozen? ⟨m, 0, none⟩ = false ∧ W.frozen? ⟨m, 1, none⟩ = false ∧ W.frozen? ⟨m, 2, none⟩ = false ∧ W.frozen? ⟨m, 3, none⟩ = false ∧ W.frozen? ⟨m, 4, none⟩ = false ∧ W.frozen? ⟨m, 5, none⟩ = false :=
  ⟨frozen_of_row _ _ _ _ _ h.x, frozen_of_row _ _ _ _ _ h.x, frozen_of_row _ _ _ _ _ h.x, frozen_of_row _ _ _ _ _ h.x, frozen_of_row _ _ _ _ _ h.x, frozen_of_row _ _ _ _ _ h.x⟩

theorem KAt.ocells {W : World} {m : Nat} {v0 v1 v2 : Value} (h : KAt W m (oBlk v0 v1 v2)) : W.cell? ⟨m, 0, none⟩ = some v0 ∧ W.cell? ⟨m, 1, none⟩ = some v1 ∧ W.cell? ⟨m, 2, none⟩ = some v2 := by
  refine ⟨?_, ?_, ?_⟩
  all_goals (rw [cell_of_row _ _ _ _ _ _ h.x]; rfl)

theorem i_set {W : World} {m : Nat} (h : KAt W m izBlk) (a b c d e f : Value) :
    ((((((W.setCell ⟨m, 0, none⟩ a).setCell ⟨m, 1, none⟩ b).setCell ⟨m, 2, none⟩ c).setCell ⟨m, 3, none⟩ d).setCell ⟨m, 4, none⟩ e).setCell ⟨m, 5, none⟩ f).heap[m]? = some (.cells #[a, b, c, d, e, f] 33 (0, 0)) :=
  heap_setCell_same (i := 5) _ _ _ _ _ (heap_setCell_same (i := 4) _ _ _ _ _ (heap_setCell_same (i := 3) _ _ _ _ _ (heap_setCell_same (i := 2) _ _ _ _ _ (heap_setCell_same (i := 1) _ _ _ _ _ (heap_setCell_same (i := 0) _ _ _ _ _ h.x)))))

set_option maxHeartbeats 4000000 in
set_option maxRecDepth 8000 in
theorem unpack_p1 (g cap : Nat) (w : World) (hB : BysAt w (some ⟨g, 0, none⟩) imgL) (hc : 35 ≤ cap) :
    Calls Try.prog 15 #[.slice (some ⟨g, 0, none⟩) 35 cap] w fun x w' => ∃ F cf, x = .returned (.tuple #[.agg #[.string ⟨#[97]⟩, .string ⟨#[]⟩, .slice (some ⟨F, 0, none⟩) 1 cf, .slice none 0 0, .slice none 0 0, .int .i64 0], .int .i64 0]) ∧ Below w.heap.size w w' := by
  have CS := Lib.hid (fun W h => sections_p1 g cap W h hc)
  have CD := Lib.hid (fun s c W h => decode_p1 s c W h)
  have hA : Below w.heap.size w (w.alloc izBlk) := (Below.refl _ _).alloc (Nat.le_refl _) _
  have K := Lib.hid (KAt.new w izBlk)
  have HA := Lib.hid hA
  have HB := Lib.hid (hB.keep hA)
  clear hA hB
  go_enter Try.func15, Try.ntmps15
  go_wp2_with (first
    | (go_at_call 26; refine (CS.out _ HB.out).mono ?_; rintro e w1 ⟨s0, s1, s2, rfl, h0, h1, h2, hb⟩; have hb2 : Below w1.heap.size w1 (w1.alloc (oBlk (.slice (some ⟨s0, 0, none⟩) 1 1) (.slice (some ⟨s1, 0, none⟩) 0 0) (.slice (some ⟨s2, 0, none⟩) 19 19))) := (Below.refl _ _).alloc (Nat.le_refl _) _; have H0 := Lib.hid (h0.keep hb2); have H1 := Lib.hid (h1.keep hb2); have H2 := Lib.hid (h2.keep hb2); have K1 := Lib.hid ((K.out.below hb).below hb2); have HB1 := Lib.hid (HA.out.trans ((hb.trans (hb2.mono hb.size)).mono HA.out.size)); have O1 := Lib.hid (KAt.new w1 (oBlk (.slice (some ⟨s0, 0, none⟩) 1 1) (.slice (some ⟨s1, 0, none⟩) 0 0) (.slice (some ⟨s2, 0, none⟩) 19 19))); clear h0 h1 h2 hb hb2)
    | (go_at_call 27; refine (CD.out s2 19 _ H2.out).mono ?_; rintro e w2 ⟨F, C, cf, cc, rfl, hP, hb⟩; have K2 := Lib.hid (K1.out.below hb); have H0 := Lib.hid (H0.out.keep hb); have H1 := Lib.hid (H1.out.keep hb); have O2 := Lib.hid (O1.out.below hb); have HB2 := Lib.hid (HB1.out.trans (hb.mono HB1.out.size)); have o0 : ∀ o, (w2.alloc o).cell? ⟨w1.heap.size, 0, none⟩ = some (.slice (some ⟨s0, 0, none⟩) 1 1) := fun o => (O2.out.alloc o).ocells.1; have o1 : ∀ o, (w2.alloc o).cell? ⟨w1.heap.size, 1, none⟩ = some (.slice (some ⟨s1, 0, none⟩) 0 0) := fun o => (O2.out.alloc o).ocells.2.1; have cv0 : ∀ o, Sem.run Try.prog (convert 22 9 (.slice (some ⟨s0, 0, none⟩) 1 1)) (w2.alloc o) = .ok (.string ⟨#[97]⟩) (w2.alloc o) := fun o => (H0.out.keep ((Below.refl _ _).alloc (Nat.le_refl _) o)).conv 1; have cv1 : ∀ o, Sem.run Try.prog (convert 22 9 (.slice (some ⟨s1, 0, none⟩) 0 0)) (w2.alloc o) = .ok (.string ⟨#[]⟩) (w2.alloc o) := fun o => (H1.out.keep ((Below.refl _ _).alloc (Nat.le_refl _) o)).conv 0; have iz0 : ∀ o, (w2.alloc o).cell? ⟨w.heap.size, 0, none⟩ = some (.string ⟨#[]⟩) := fun o => (K2.out.alloc o).izcells.1; have iz1 : ∀ o, (w2.alloc o).cell? ⟨w.heap.size, 1, none⟩ = some (.string ⟨#[]⟩) := fun o => (K2.out.alloc o).izcells.2.1; have iz2 : ∀ o, (w2.alloc o).cell? ⟨w.heap.size, 2, none⟩ = some (.slice none 0 0) := fun o => (K2.out.alloc o).izcells.2.2.1; have iz3 : ∀ o, (w2.alloc o).cell? ⟨w.heap.size, 3, none⟩ = some (.slice none 0 0) := fun o => (K2.out.alloc o).izcells.2.2.2.1; have iz4 : ∀ o, (w2.alloc o).cell? ⟨w.heap.size, 4, none⟩ = some (.slice none 0 0) := fun o => (K2.out.alloc o).izcells.2.2.2.2.1; have iz5 : ∀ o, (w2.alloc o).cell? ⟨w.heap.size, 5, none⟩ = some (.int .i64 0) := fun o => (K2.out.alloc o).izcells.2.2.2.2.2; have if0 : ∀ o, (w2.alloc o).frozen? ⟨w.heap.size, 0, none⟩ = false := fun o => (K2.out.alloc o).izfrozen.1; have if1 : ∀ o, (w2.alloc o).frozen? ⟨w.heap.size, 1, none⟩ = false := fun o => (K2.out.alloc o).izfrozen.2.1; have if2 : ∀ o, (w2.alloc o).frozen? ⟨w.heap.size, 2, none⟩ = false := fun o => (K2.out.alloc o).izfrozen.2.2.1; have if3 : ∀ o, (w2.alloc o).frozen? ⟨w.heap.size, 3, none⟩ = false := fun o => (K2.out.alloc o).izfrozen.2.2.2.1; have if4 : ∀ o, (w2.alloc o).frozen? ⟨w.heap.size, 4, none⟩ = false := fun o => (K2.out.alloc o).izfrozen.2.2.2.2.1; have if5 : ∀ o, (w2.alloc o).frozen? ⟨w.heap.size, 5, none⟩ = false := fun o => (K2.out.alloc o).izfrozen.2.2.2.2.2; clear hP hb))
  have hi' : (Try.prog.info? 33).map (·.size) = some 6 := by kernel_rfl
  (try simp only [Exit.inBlock, Exit.then]); refine bodyPost_ret (results_cell2 rfl _ _ w.heap.size 33 _ (0, 0) _ rfl (i_set (K2.out.alloc _) _ _ _ _ _ _) Try.underlying33 rfl hi') rfl ?_
  have hl : ∀ o, Below w.heap.size w (w2.alloc o) := fun o => HB2.out.alloc HB2.out.size _
  exact ⟨F, cf, rfl, ((((((hl _).setCell (p := ⟨w.heap.size, 0, none⟩) (Nat.le_refl _) _).setCell (p := ⟨w.heap.size, 1, none⟩) (Nat.le_refl _) _).setCell (p := ⟨w.heap.size, 2, none⟩) (Nat.le_refl _) _).setCell (p := ⟨w.heap.size, 3, none⟩) (Nat.le_refl _) _).setCell (p := ⟨w.heap.size, 4, none⟩) (Nat.le_refl _) _).setCell (p := ⟨w.heap.size, 5, none⟩) (Nat.le_refl _) _⟩

theorem p1_start (w : World) (o : Obj) : P1At (((w.alloc (.cells #[.int .i64 1, .int .i64 0, .int .i64 0, .int .i64 0, .slice none 0 0, .slice none 0 0, .int .i64 13, .int .i64 0, .int .i64 0, .int .i64 0, .slice none 0 0, .slice none 0 0] 58)).alloc (.cells #[.int .i64 0, .int .i64 1, .slice (some ⟨w.heap.size, 0, none⟩) 2 2] 61)).alloc o) (w.heap.size + 1) w.heap.size 2 := by
  obtain ⟨A, hA⟩ : ∃ A, w.alloc (.cells #[.int .i64 1, .int .i64 0, .int .i64 0, .int .i64 0, .slice none 0 0, .slice none 0 0, .int .i64 13, .int .i64 0, .int .i64 0, .int .i64 0, .slice none 0 0, .slice none 0 0] 58) = A := ⟨_, rfl⟩
  have kA : KAt A w.heap.size (.cells #[.int .i64 1, .int .i64 0, .int .i64 0, .int .i64 0, .slice none 0 0, .slice none 0 0, .int .i64 13, .int .i64 0, .int .i64 0, .int .i64 0, .slice none 0 0, .slice none 0 0] 58 (0, 0)) := by rw [← hA]; exact KAt.new _ _
  have zA : A.heap.size = w.heap.size + 1 := by rw [← hA]; simp
  rw [hA, ← zA]
  have kB := KAt.new A (.cells #[.int .i64 0, .int .i64 1, .slice (some ⟨w.heap.size, 0, none⟩) 2 2] 61 (0, 0))
  have kA2 := (kA.alloc (.cells #[.int .i64 0, .int .i64 1, .slice (some ⟨w.heap.size, 0, none⟩) 2 2] 61 (0, 0))).alloc o
  have kB2 := kB.alloc o
  refine ⟨heap_lt kB2.x, heap_lt kA2.x, ?_, ?_, ?_, fun i hi => ?_⟩
  · rw [cell_of_row _ _ _ _ _ _ kB2.x]; rfl
  · rw [cell_of_row _ _ _ _ _ _ kB2.x]; rfl
  · rw [cell_of_row _ _ _ _ _ _ kB2.x]; rfl
  · rw [cell_of_row _ _ _ _ _ _ kA2.x]
    match i, hi with
    | 0, _ | 1, _ | 2, _ | 3, _ | 4, _ | 5, _ | 6, _ | 7, _ | 8, _ | 9, _ | 10, _ | 11, _ => rfl

def nines : List UInt8 := [49, 50, 51, 52, 53, 54, 55, 56, 57]

theorem sum_nines : Im.sumL nines = 3421780262 := by decide +kernel

theorem nines_at (W : World) (T : TypeId) (f : Nat × Nat) : BysAt (W.alloc (.cells #[.int .u8 49, .int .u8 50, .int .u8 51, .int .u8 52, .int .u8 53, .int .u8 54, .int .u8 55, .int .u8 56, .int .u8 57] T f)) (some ⟨W.heap.size, 0, none⟩) nines := by
  refine ⟨by decide, .inr ⟨W.heap.size, 0, rfl, by simp, fun i hi => ?_⟩⟩
  have hi : i < 9 := hi
  rw [Nat.zero_add, cell_of_row _ _ _ _ _ _ (heap_alloc_new W _)]
  match i, hi with
  | 0, _ | 1, _ | 2, _ | 3, _ | 4, _ | 5, _ | 6, _ | 7, _ | 8, _ => rfl

theorem sum_9 (W : World) (T : TypeId) (f : Nat × Nat) (g : Nat) (hg : g = W.heap.size) : Calls Try.prog 10 #[.slice (some ⟨g, 0, none⟩) 9 9] (W.alloc (.cells #[.int .u8 49, .int .u8 50, .int .u8 51, .int .u8 52, .int .u8 53, .int .u8 54, .int .u8 55, .int .u8 56, .int .u8 57] T f)) fun e w' => e = .returned (.int .u32 3421780262) ∧ Below W.heap.size W w' := by
  subst hg
  have := sum_any (some ⟨W.heap.size, 0, none⟩) nines 9 _ (nines_at W T f)
  rw [sum_nines] at this
  refine this.mono ?_
  rintro e w' ⟨rfl, hb⟩
  exact ⟨rfl, ((Below.refl _ _).alloc (Nat.le_refl _) _).trans (hb.mono (by simp))⟩

def iaBlk (F cf : Nat) : Obj := .cells #[.string ⟨#[97]⟩, .string ⟨#[]⟩, .slice (some ⟨F, 0, none⟩) 1 cf, .slice none 0 0, .slice none 0 0, .int .i64 0] 33 (0, 0)

theorem KAt.iacells {W : World} {m F cf : Nat} (h : KAt W m (iaBlk F cf)) : W.cell? ⟨m, 0, none⟩ = some (.string ⟨#[97]⟩) ∧ W.cell? ⟨m, 2, none⟩ = some (.slice (some ⟨F, 0, none⟩) 1 cf) := by
  refine ⟨?_, ?_⟩
  all_goals (rw [cell_of_row _ _ _ _ _ _ h.x]; rfl)

set_option maxHeartbeats 4000000 in
set_option maxRecDepth 8000 in
theorem awake_24 (w : World) : Calls Try.prog 12 #[] w fun x w' => x = .returned (.bool true) ∧ Below w.heap.size w w' := by
  have CP := Lib.hid (fun F C cf cc W h => pack_p1 F C cf cc W h)
  have CU := Lib.hid (fun g cap W h hc => unpack_p1 g cap W h hc)
  have CS := Lib.hid (fun W T f g hg => sum_9 W T f g hg)
  have HP := Lib.hid (fun o => p1_start w o)
  have HA : ∀ o1 o2 o3, Hid (Below w.heap.size w (((w.alloc o1).alloc o2).alloc o3)) := fun o1 o2 o3 => Lib.hid ((((Below.refl _ _).alloc (Nat.le_refl _) _).alloc (by simp) _).alloc (by simp; omega) _)
  have hcc := fun (W : World) (o : Obj) (C : Array Value) (n c : Nat) => Joins.run_convert_bytes_const_at (P := Try.prog) (W.alloc o) 22 5 C n c (W.heap.size + 1) (by simp) Try.underlying22 Try.underlying5
  go_enter Try.func12, Try.ntmps12
  go_wp2_with (first
    | (go_at_call 13; refine (CP.out _ _ 1 2 _ (HP.out _)).mono ?_; rintro e w1 ⟨g, cap, rfl, hc, hg, hB, hb⟩; have B1 := Lib.hid hB; have HC := Lib.hid hc; have HB1 := Lib.hid ((HA _ _ _).out.trans (hb.mono (HA _ _ _).out.size)); clear hB hc hg hb)
    | (go_at_call 15; refine (CU.out g cap _ B1.out HC.out).mono ?_; rintro e w2 ⟨F, cf, rfl, hb⟩; have hA2 : Below w2.heap.size w2 (w2.alloc (iaBlk F cf)) := (Below.refl _ _).alloc (Nat.le_refl _) _; have B2 := Lib.hid ((B1.out.keep hb).keep hA2); have HB2 := Lib.hid (HB1.out.trans ((hb.trans (hA2.mono hb.size)).mono HB1.out.size)); have K2 := Lib.hid (KAt.new w2 (iaBlk F cf)); clear hb hA2)
    | (go_at_call 10; refine (CS.out (w2.alloc (iaBlk F cf)) _ _ (w2.heap.size + 1) (by simp)).mono ?_; rintro e w3 ⟨rfl, hb⟩; have B3 := B2.out.keep hb; have b7 : w3.cell? ⟨g, 7, none⟩ = some (.int .u8 97) := (TAt.of B3).c 7 (by decide); obtain ⟨i0, i2⟩ := (K2.out.below hb).iacells; have HB3 := Lib.hid (HB2.out.trans (hb.mono HB2.out.size)); have hcap := HC.out; clear hb B3))
  go_ret
  exact ⟨rfl, HB3.out⟩
end Go.Proofs.Ytgbgahdeopedpaa
