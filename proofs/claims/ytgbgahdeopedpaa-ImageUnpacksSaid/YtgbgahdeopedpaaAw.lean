/- Walks of layer 24: a small image and a sum that everybody knows. -/
import Derived.Test.YtgbgahdeopedpaaGn
import Derived.Lib.SmallJoins
namespace Go.Proofs.Ytgbgahdeopedpaa
open Go.RowKit
set_option linter.unusedVariables false
attribute [local go_sem] ext_mk size_mk toList_mk get_mk take_drop_len take_tail_len ByteArray.mk_append_mk List.append_toArray

def nines : List UInt8 := [49, 50, 51, 52, 53, 54, 55, 56, 57]

theorem sum_nines : Im.sumL nines = 3421780262 := by decide +kernel

theorem nines_at (W : World) (T : TypeId) (f : Nat × Nat) : BysAt (W.alloc (.cells #[.int .u8 49, .int .u8 50, .int .u8 51, .int .u8 52, .int .u8 53, .int .u8 54, .int .u8 55, .int .u8 56, .int .u8 57] T f)) (some ⟨W.heap.size, 0, none⟩) nines := by
  refine ⟨by decide, .inr ⟨W.heap.size, 0, rfl, by simp, fun i hi => ?_⟩⟩
  have hi : i < 9 := hi
  rw [Nat.zero_add, cell_of_row _ _ _ _ _ _ (heap_alloc_new W _)]
  match i, hi with
  | 0, _ | 1, _ | 2, _ | 3, _ | 4, _ | 5, _ | 6, _ | 7, _ | 8, _ => rfl

theorem sum_9 (W : World) (T : TypeId) (f : Nat × Nat) (g : Nat) (hg : g = W.heap.size) : Calls Try.prog 10 #[.slice (some ⟨g, 0, none⟩) 9 9] (W.alloc (.cells #[.int .u8 49, .int .u8 50, .int .u8 51, .int .u8 52, .int .u8 53, .int .u8 54, .int .u8 55, .int .u8 56, .int .u8 57] T f)) fun e w' => e = .returned (.int .u32 3421780262) ∧ Below W.heap.size W w' := by
  subst hg
  have := sum_any (some ⟨W.heap.size, 0, none⟩) nines 9 _ (nines_at W T f)
  rw [sum_nines] at this
  refine this.mono ?_
  rintro e w' ⟨rfl, hb⟩
  exact ⟨rfl, ((Below.refl _ _).alloc (Nat.le_refl _) _).trans (hb.mono (by simp))⟩

/-- the small program -/
def pq : Pg := ⟨[⟨0, 1, [⟨1, 0, 0, 0, [], []⟩, ⟨13, 0, 0, 0, [], []⟩]⟩], [], [], 0⟩

theorem pq_start (w : World) (o : Obj) : PgAt (((w.alloc (.cells #[.int .i64 1, .int .i64 0, .int .i64 0, .int .i64 0, .slice none 0 0, .slice none 0 0, .int .i64 13, .int .i64 0, .int .i64 0, .int .i64 0, .slice none 0 0, .slice none 0 0] 58)).alloc (.cells #[.int .i64 0, .int .i64 1, .slice (some ⟨w.heap.size, 0, none⟩) 2 2] 61)).alloc o) (some ⟨w.heap.size + 1, 0, none⟩) none none pq := by
  obtain ⟨A, hA⟩ : ∃ A, w.alloc (.cells #[.int .i64 1, .int .i64 0, .int .i64 0, .int .i64 0, .slice none 0 0, .slice none 0 0, .int .i64 13, .int .i64 0, .int .i64 0, .int .i64 0, .slice none 0 0, .slice none 0 0] 58) = A := ⟨_, rfl⟩
  have kA : KAt A w.heap.size (.cells #[.int .i64 1, .int .i64 0, .int .i64 0, .int .i64 0, .slice none 0 0, .slice none 0 0, .int .i64 13, .int .i64 0, .int .i64 0, .int .i64 0, .slice none 0 0, .slice none 0 0] 58 (0, 0)) := by rw [← hA]; exact KAt.new _ _
  have zA : A.heap.size = w.heap.size + 1 := by rw [← hA]; simp
  rw [hA, ← zA]
  have kB := KAt.new A (.cells #[.int .i64 0, .int .i64 1, .slice (some ⟨w.heap.size, 0, none⟩) 2 2] 61 (0, 0))
  have kA2 := (kA.alloc (.cells #[.int .i64 0, .int .i64 1, .slice (some ⟨w.heap.size, 0, none⟩) 2 2] 61 (0, 0))).alloc o
  have kB2 := kB.alloc o
  have hn : ∀ (W : World) (k : IntKind), IntsAt k W none [] := fun W k => ⟨by decide, .inl rfl⟩
  refine ⟨⟨by decide, .inr ⟨_, 0, rfl, fun i f hf => ?_⟩⟩, ⟨by decide, (fun s hs => absurd hs (List.not_mem_nil)), .inl rfl⟩, hn _ _, (fun u hu => absurd hu (List.not_mem_nil))⟩
  match i, hf with
  | 0, hf =>
    obtain rfl := Option.some.inj hf
    refine ⟨some ⟨w.heap.size, 0, none⟩, 2, ?_, ?_, ?_, by decide, .inr ⟨_, 0, rfl, fun j x hx => ?_⟩⟩
    · rw [cell_of_row _ _ _ _ _ _ kB2.x]; rfl
    · rw [cell_of_row _ _ _ _ _ _ kB2.x]; rfl
    · rw [cell_of_row _ _ _ _ _ _ kB2.x]; rfl
    · match j, hx with
      | 0, hx =>
        obtain rfl := Option.some.inj hx
        refine ⟨none, 0, none, 0, ?_, ?_, ?_, ?_, ?_, ?_, hn _ _, hn _ _⟩
        all_goals (rw [cell_of_row _ _ _ _ _ _ kA2.x]; rfl)
      | 1, hx =>
        obtain rfl := Option.some.inj hx
        refine ⟨none, 0, none, 0, ?_, ?_, ?_, ?_, ?_, ?_, hn _ _, hn _ _⟩
        all_goals (rw [cell_of_row _ _ _ _ _ _ kA2.x]; rfl)

theorem unset_pq : unsetS [⟨1, 0, 0, 0, [], []⟩, ⟨13, 0, 0, 0, [], []⟩] 0 = -1 := by
  have h := finS_eq (code := [⟨1, 0, 0, 0, [], []⟩, ⟨13, 0, 0, 0, [], []⟩]) (ps := 0) (n := 2) (by decide +kernel)
  unfold unsetS
  rw [← h]
  decide +kernel

theorem encR_pq : encR pq = (progE pq, 0) := by
  have h : checkL pq = (0, 0, 0) := by
    unfold checkL
    rw [if_neg (by decide +kernel)]
    unfold pq
    dsimp only
    unfold checkF
    rw [if_neg (by decide +kernel), if_neg (by rw [show (0 : Int).toNat = 0 from rfl, unset_pq]; decide)]
    rfl
  unfold encR
  rw [h, if_neg (by decide), if_pos (by decide +kernel)]

theorem packR_pq : ((packR [97] [] pq).2 = 0 ∧ ((packR [97] [] pq).1.length = 35 ∧ (packR [97] [] pq).1.getD 7 0 = 97)) := by
  unfold packR
  rw [if_neg (by decide), encR_pq, if_neg (by decide)]
  decide +kernel

theorem pack_pq (fa sa ra : Option Addr) (fc sc rc : Nat) (W : World) (h : PgAt W fa sa ra pq) : Calls Try.prog 13 #[.agg #[.string ⟨#[97]⟩, .string ⟨#[]⟩, .slice fa 1 fc, .slice sa 0 sc, .slice ra 0 rc, .int .i64 0]] W fun e w' => ∃ v, e = .returned (.tuple #[v, .int .i64 0]) ∧ OwnB w' W.heap.size v (packR [97] [] pq).1 ∧ Below W.heap.size W w' := by
  have := pack_any [97] [] fa sa ra fc sc rc pq W (by decide) (by decide) h
  rw [packR_pq.1] at this; exact this

theorem unpack_pq (a : Option Addr) (cap : Nat) (W : World) (h1 : BysAt W a (packR [97] [] pq).1) (h2 : 35 ≤ cap) : Calls Try.prog 15 #[.slice a 35 cap] W fun e w' => ∃ xa xb xc xd xe xf, e = .returned (.tuple #[.agg #[.string ⟨#[97]⟩, .string ⟨#[]⟩, .slice xa 1 xb, .slice xc 0 xd, .slice xe 0 xf, .int .i64 0], .int .i64 0]) ∧ Below W.heap.size W w' := by
  have h := unpack_any a cap _ W h1 (by rw [packR_pq.2.1]; exact h2)
  rw [unpack_img packR_pq.1 (fun u hu => absurd hu (List.not_mem_nil)), packR_pq.2.1] at h
  refine h.mono ?_
  rintro e w' ⟨xa, xb, xc, xd, xe, xf, q, _, hb⟩
  exact ⟨xa, xb, xc, xd, xe, xf, q, hb⟩

set_option maxHeartbeats 4000000 in
set_option maxRecDepth 8000 in
theorem awake_24 (w : World) : Calls Try.prog 12 #[] w fun x w' => x = .returned (.bool true) ∧ Below w.heap.size w w' := by
  have CP := Lib.hid (fun fa sa ra fc sc rc W h => pack_pq fa sa ra fc sc rc W h)
  have CU2 := Lib.hid (fun a cap W h1 h2 => unpack_pq a cap W h1 h2)
  obtain ⟨-, h2, h3⟩ := packR_pq
  obtain ⟨B, hR⟩ : ∃ t, (packR [97] [] pq).1 = t := ⟨_, rfl⟩
  rw [hR] at h2 h3 CP CU2
  have HL := Lib.hid h2
  have H7 := Lib.hid h3
  have CS := Lib.hid (fun W T f g hg => sum_9 W T f g hg)
  have HP := Lib.hid (fun o => pq_start w o)
  have HA : ∀ o1 o2 o3, Hid (Below w.heap.size w (((w.alloc o1).alloc o2).alloc o3)) := fun o1 o2 o3 => Lib.hid ((((Below.refl _ _).alloc (Nat.le_refl _) _).alloc (by simp) _).alloc (by simp; omega) _)
  have hcc := fun (W : World) (o : Obj) (C : Array Value) (n c : Nat) => Joins.run_convert_bytes_const_at (P := Try.prog) (W.alloc o) 22 5 C n c (W.heap.size + 1) (by simp) Try.underlying22 Try.underlying5
  clear hR h2 h3
  go_enter Try.func12, Try.ntmps12
  go_wp2_with (first
    | (go_at_call 13; (with_reducible refine (CP.out _ _ _ 1 0 0 _ (HP.out _)).mono ?_); rintro e w1 ⟨v, rfl, hB, hb⟩; have OB := Lib.hid hB; obtain ⟨g, cap, rfl⟩ := hB.some (by rw [HL.out]; decide); have hcp : 35 ≤ cap := (by have := ownB_cap hB; rw [HL.out] at this; exact this); have HC := Lib.hid hcp; have HB1 := Lib.hid ((HA _ _ _).out.trans (hb.mono (HA _ _ _).out.size)); clear hB hcp hb; rw [HL.out])
    | (go_at_call 15; (with_reducible refine (CU2.out (some ⟨g, 0, none⟩) cap _ OB.out.bys HC.out).mono ?_); rintro e w2 ⟨xa, xb, xc, xd, xe, xf, rfl, hb⟩; have hA2 : ∀ o, Below w2.heap.size w2 (w2.alloc o) := (fun o => (Below.refl _ _).alloc (Nat.le_refl _) o); have B2 := Lib.hid (fun o => (OB.out.keep hb).keep (hA2 o)); have HB2 := Lib.hid (fun o => (HB1.out.trans ((hb.trans ((hA2 o).mono hb.size)).mono HB1.out.size))); have K2 := Lib.hid (fun cs => KAt.new w2 (.cells cs 33 (0, 0))); clear hb hA2)
    | (go_at_call 10; refine (CS.out (w2.alloc _) _ _ (w2.heap.size + 1) (by simp)).mono ?_; rintro e w3 ⟨rfl, hb⟩; have B3 := (B2.out _).keep hb; have b7 : w3.cell? ⟨g, 7, none⟩ = some (.int .u8 97) := (by have := bys_at0 B3.bys (i := 7) (by rw [HL.out]; decide); rw [H7.out] at this; exact this); obtain ⟨i0, i1, i2, -⟩ := mkbox_cells ((K2.out _).below hb); have HB3 := Lib.hid ((HB2.out _).trans (hb.mono (HB2.out _).size)); have hcap := HC.out; clear hb B3))
  go_ret
  exact ⟨rfl, HB3.out⟩
end Go.Proofs.Ytgbgahdeopedpaa
