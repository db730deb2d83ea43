/- Walks of layer 16: the words of the kinds. -/
import Derived.Test.YtokjkligechcoaaGreatDoorKq
set_option linter.unusedVariables false
namespace Go.Proofs.YtokjkligechcoaaGreatDoor
open Go.RowKit
attribute [local go_sem] ext_mk size_mk toList_mk get_mk take_drop_len take_tail_len ByteArray.mk_append_mk List.append_toArray
/-- the word of a kind -/
def kindS (k : Int) : List UInt8 := match k.toNat with
 | 1 => [116, 117, 112, 108, 101] | 2 => [99, 108, 111, 115, 117, 114, 101] | 3 => [100, 97, 116, 97] | 4 => [99, 101, 108, 108] | _ => []
theorem kdKeyed : Maps.Keyed Tryz.prog 124 := Maps.int_keyed Tryz.underlying124
theorem kdKey (op : Int) (h : I8b op) : keyOf Tryz.prog 124 (.int .i64 op) = some (.int .i64 op) := Maps.keyOf_int_mk Tryz.underlying124 (by
 obtain ⟨h1, h2⟩ := h
 have e1 : IntKind.i64.min = -9223372036854775808 := by decide
 have e2 : IntKind.i64.max = 9223372036854775807 := by decide
 show (decide (IntKind.i64.min ≤ op) && decide (op ≤ IntKind.i64.max)) = true
 rw [e1, e2, decide_eq_true h1, decide_eq_true h2]; rfl)
def kindsD : DataW Unit := (((((DataW.map []).put (.int .i64 1) (strD (kindS 1))).put (.int .i64 2) (strD (kindS 2))).put (.int .i64 3) (strD (kindS 3))).put (.int .i64 4) (strD (kindS 4)))
theorem kindsD_0 : kindsD.atKey (.int .i64 (((0 : Nat) : Int))) (.lit (.string [])) = .lit (.string (kindS ((0 : Nat) : Int))) := by kernel_rfl
theorem kindsD_1 : kindsD.atKey (.int .i64 (((1 : Nat) : Int))) (.lit (.string [])) = .lit (.string (kindS ((1 : Nat) : Int))) := by kernel_rfl
theorem kindsD_2 : kindsD.atKey (.int .i64 (((2 : Nat) : Int))) (.lit (.string [])) = .lit (.string (kindS ((2 : Nat) : Int))) := by kernel_rfl
theorem kindsD_3 : kindsD.atKey (.int .i64 (((3 : Nat) : Int))) (.lit (.string [])) = .lit (.string (kindS ((3 : Nat) : Int))) := by kernel_rfl
theorem kindsD_4 : kindsD.atKey (.int .i64 (((4 : Nat) : Int))) (.lit (.string [])) = .lit (.string (kindS ((4 : Nat) : Int))) := by kernel_rfl
theorem kindsD_at (op : Nat) (h : op < 5) : kindsD.atKey (.int .i64 (op : Int)) (.lit (.string [])) = .lit (.string (kindS (op : Int))) :=
 match op, h with
 | 0, _ => kindsD_0
 | 1, _ => kindsD_1
 | 2, _ => kindsD_2
 | 3, _ => kindsD_3
 | 4, _ => kindsD_4
set_option maxHeartbeats 2000000 in
set_option maxRecDepth 4000 in
theorem kinds_ex (w : World) : Calls Tryz.prog 64 #[] w fun e w' => ∃ M, e = .returned (.map (some M)) ∧ Below w.heap.size w w' ∧ ∀ op, 0 ≤ op ∧ op ≤ 4 → ∀ V, Below w'.heap.size w' V → (Instr.lookup 122 (.map (some M)) (.int .i64 op) false).run Tryz.prog V = .ok (.string ⟨(kindS op).toArray⟩) V := by
 have hmm := @run_makeMap Tryz.prog
 have hown := World.ownsMap_made w Tryz.prog 124 (plainElem (H := Unit) Tryz.prog 9)
 have hb : Below w.heap.size w (w.alloc (.map #[] 0)) := (Below.refl _ _).alloc (Nat.le_refl _) _
 go_enter Tryz.func64, Tryz.ntmps64
 go_wp2_with (first
  | (refine wpList_insert_own _ rfl _ _ _ 122 rfl 124 9 kdKeyed Tryz.underlying122 (plainElem Tryz.prog 9) w.heap.size 0 _ rfl hown (by decide) (.int .i64 1) (.string ⟨(kindS 1).toArray⟩) _ rfl rfl (kdKey 1 ⟨by decide, by decide⟩) _ [] (plainElem_string Tryz.underlying9 (by decide)) ?_; clear hown; intro w1 hown hgrow1; have hb1 := hb.grown hgrow1 hb.size (fun k hk => by injection hk with hk; omega); clear hb hgrow1; have hb := hb1; clear hb1)
  | (refine wpList_insert_own _ rfl _ _ _ 122 rfl 124 9 kdKeyed Tryz.underlying122 (plainElem Tryz.prog 9) w.heap.size 1 _ rfl hown (by decide) (.int .i64 2) (.string ⟨(kindS 2).toArray⟩) _ rfl rfl (kdKey 2 ⟨by decide, by decide⟩) _ [] (plainElem_string Tryz.underlying9 (by decide)) ?_; clear hown; intro w1 hown hgrow1; have hb1 := hb.grown hgrow1 hb.size (fun k hk => by injection hk with hk; omega); clear hb hgrow1; have hb := hb1; clear hb1)
  | (refine wpList_insert_own _ rfl _ _ _ 122 rfl 124 9 kdKeyed Tryz.underlying122 (plainElem Tryz.prog 9) w.heap.size 2 _ rfl hown (by decide) (.int .i64 3) (.string ⟨(kindS 3).toArray⟩) _ rfl rfl (kdKey 3 ⟨by decide, by decide⟩) _ [] (plainElem_string Tryz.underlying9 (by decide)) ?_; clear hown; intro w1 hown hgrow1; have hb1 := hb.grown hgrow1 hb.size (fun k hk => by injection hk with hk; omega); clear hb hgrow1; have hb := hb1; clear hb1)
  | (refine wpList_insert_own _ rfl _ _ _ 122 rfl 124 9 kdKeyed Tryz.underlying122 (plainElem Tryz.prog 9) w.heap.size 3 _ rfl hown (by decide) (.int .i64 4) (.string ⟨(kindS 4).toArray⟩) _ rfl rfl (kdKey 4 ⟨by decide, by decide⟩) _ [] (plainElem_string Tryz.underlying9 (by decide)) ?_; clear hown; intro w1 hown hgrow1; have hb1 := hb.grown hgrow1 hb.size (fun k hk => by injection hk with hk; omega); clear hb hgrow1; have hb := hb1; clear hb1))
 go_ret
 refine ⟨w.heap.size, rfl, hb, fun op h1 h3 W hW => ?_⟩
 obtain ⟨n, rfl⟩ := Int.eq_ofNat_of_zero_le h1
 have h2 : W.ownsMap Tryz.prog 124 (plainElem (H := Unit) Tryz.prog 9) w.heap.size 4 kindsD := hown.kept (row := none) ⟨hW.os, hW.tape, hW.output, hW.size, fun b hb' _ => hW.block b hb'⟩ (by simp)
 exact lookup_str h2 kdKeyed Tryz.underlying122 Tryz.underlying9 (zero_string W) (kdKey _ ⟨by omega, by omega⟩) (kindsD_at n (by omega))
end Go.Proofs.YtokjkligechcoaaGreatDoor
