/- Walks of layer 3: a string written as a constant, on both sides; what every law asks besides. -/
import Derived.Test.YtkjdigojajcgkaaGreatDoorSw10
import Derived.Test.YtkjdigojajcgkaaGreatDoorBy
namespace Go.Proofs.YtkjdigojajcgkaaGreatDoor
open Go.RowKit
open St
set_option linter.unusedVariables false
attribute [local go_sem] ext_mk size_mk toList_mk get_mk take_drop_len take_tail_len ByteArray.mk_append_mk

theorem shown_next {l : List UInt8} {k : Nat} {x : UInt8} (h : l[k]? = some x) : shownAll (l.take (k + 1)) = shownAll (l.take k) ++ shown x := by
  rw [take_snoc h]; unfold shownAll; rw [List.flatMap_append]; simp

theorem esc_no {l : List UInt8} (h : rightB l = false) : escB l = [] ∧ escE l = 1 := by
  have h1 : ¬ l.length ≤ 65536 := of_decide_eq_false h
  unfold escB escE; rw [if_neg (fun g => h1 g.1), if_neg h1]; exact ⟨rfl, rfl⟩

theorem esc_over {l : List UInt8} (h : rightB l = true) (ho : 65536 < (shownAll l).length) : escB l = [] ∧ escE l = 2 := by
  have h1 := right_le h
  unfold escB escE; rw [if_neg (by omega), if_pos h1, if_neg (by omega)]; exact ⟨rfl, rfl⟩

theorem esc_fine {l : List UInt8} (h : rightB l = true) (ho : (shownAll l).length ≤ 65536) : escB l = shownAll l ∧ escE l = 0 := by
  have h1 := right_le h
  unfold escB escE; rw [if_pos ⟨h1, ho⟩, if_pos h1, if_pos ho]; exact ⟨rfl, rfl⟩

set_option maxHeartbeats 2000000 in
set_option maxRecDepth 100000 in
theorem sescape_any (l : List UInt8) (w : World) (hv : StrVars w) (hl : l.length ≤ 140737488351232) :
    Calls Tryz.prog 35 #[.string ⟨l.toArray⟩] w fun e w' => e = .returned (.tuple #[.string ⟨(escB l).toArray⟩, .int .i64 (escE l)]) ∧ Below w.heap.size w w' := by
  have HV := Lib.hid hv
  clear hv
  cases hr : rightB l
  · have HE := Lib.hid (esc_no hr)
    go_enter Tryz.func35, Tryz.ntmps35
    go_wp2_with (go_at_call 58; refine (sright_any _ _).mono ?_; rintro e w' ⟨rfl, rfl⟩)
    go_ret2
    exact ⟨ret_text HE.out.1.symm HE.out.2.symm, Below.refl _ _⟩
  · have hl6 := right_le hr
    go_enter Tryz.func35, Tryz.ntmps35
    go_wp2_with (go_at_call 58; refine (sright_any _ _).mono ?_; rintro e w' ⟨rfl, rfl⟩)
    go_loopw [11] (fun vi wr => ∃ (k : Nat) (acc : List UInt8), vi = .int .i64 k ∧ k ≤ l.length ∧ acc.length ≤ 4 * k ∧ Bld w.heap.size w.heap.size acc wr ∧ Below w.heap.size w wr ∧ Hid (shownAll (l.take k) = acc)) (fun vi _ => l.length - (intOf vi).toNat)
    case atStart => exact ⟨0, [], rfl, by omega, by simp, Bld.fresh w, (Below.refl _ _).alloc (Nat.le_refl _) _, Lib.hid rfl⟩
    case round =>
      obtain ⟨k, acc, rfl, hk, hacc, hbld, hbw, HR⟩ := hrel
      have hsz := hbw.size
      by_cases hlt : k < l.length
      · obtain ⟨x, hxl⟩ : ∃ x, l[k] = x := ⟨_, rfl⟩
        have HX := Lib.hid (show l[k]? = some x by rw [List.getElem?_eq_getElem hlt, hxl])
        have hs4 := shown_len x
        have HN := Lib.hid (show shownAll (l.take (k + 1)) = acc ++ shown x by rw [shown_next HX.out, HR.out])
        go_wp2_with (go_at_call 59; refine (sescaped_any x _ (HV.out.below hbw)).mono ?_; rintro e w1 ⟨rfl, hb1⟩)
        have hsz1 := hb1.size
        have hbld1 : Bld w.heap.size w.heap.size acc w1 := hbld.below hb1
        have hbw1 := hbw.trans (hb1.mono hsz)
        go_wp2_with (go_at_call 36; refine (ws_any _ _ acc (shown x) _ hbld1 (by omega) (by omega)).mono ?_; rintro e w2 ⟨⟨v2, rfl⟩, hb2, hw2⟩)
        go_roundw
        case rel => exact ⟨k + 1, acc ++ shown x, by go_num, by omega, by simp; omega, hb2, hbw1.trans hw2, HN⟩
        case measure => simp [intOf]; omega
      · obtain rfl : k = l.length := by omega
        have hall := HR.out
        rw [List.take_length] at hall
        have HF := Lib.hid hall
        clear hall
        by_cases ho : 65536 < acc.length
        · have HE := Lib.hid (esc_over hr (by rw [HF.out]; exact ho))
          go_wp2_with (go_at_call 41; refine (wlen_any _ _ acc _ hbld).mono ?_; rintro e w' ⟨rfl, rfl⟩)
          go_ret2
          exact ⟨ret_text HE.out.1.symm HE.out.2.symm, hbw⟩
        · have HE := Lib.hid (esc_fine hr (by rw [HF.out]; omega))
          go_wp2_with (first | (go_at_call 41; refine (wlen_any _ _ acc _ hbld).mono ?_; rintro e w' ⟨rfl, rfl⟩) | (go_at_call 38; refine (wstr_any _ _ acc _ hbld hsz).mono ?_; rintro e w1 ⟨rfl, hb1, hw1⟩))
          go_ret2
          exact ⟨ret_text (by rw [HE.out.1, HF.out]) HE.out.2.symm, hbw.trans hw1⟩

/-- 'append(b, s...)' with the row named by what it owns -/
theorem app_more {w : World} {ops : Array Oper} {rest : List Oper} {o : Oper} {a : Act} {Q : Exit → Act → World → Prop} {base : Nat} {v : Value} {l : List UInt8} (hown : OwnB w base v l) (hgd : o.guard = none) (sl x : Operand)
    (ho : o.op = .call { callee := .builtin .append, args := #[sl, x], argTypes := #[66, 9] })
    (s : List UInt8) (hs : a.eval sl = v) (hx : a.eval x = .string ⟨s.toArray⟩)
    (hb : l.length + s.length ≤ 140737488355328) (hbase : base ≤ w.heap.size)
    (h : ∀ v' w', OwnB w' base v' (l ++ s) → Below base w w' → wpList Tryz.prog ops Q rest (a.put o.dst v') w') : wpList Tryz.prog ops Q (o :: rest) a w :=
  app_str hgd sl x ho base v l s hs hown hx hb hbase (fun v' w' h1 h2 _ => h v' w' h1 h2)

set_option maxHeartbeats 2000000 in
set_option maxRecDepth 100000 in
theorem srescape_any (l : List UInt8) (w : World) (hl : l.length ≤ 140737488351232) :
    Calls Tryz.prog 50 #[.string ⟨l.toArray⟩] w fun e w' => e = .returned (.tuple #[.string ⟨(escB l).toArray⟩, .int .i64 (escE l)]) ∧ Below w.heap.size w w' := by
  cases hr : rightB l
  · have HE := Lib.hid (esc_no hr)
    go_enter Tryz.func50, Tryz.ntmps50
    go_wp2_with (go_at_call 79; refine (srright_any _ _).mono ?_; rintro e w' ⟨rfl, rfl⟩)
    go_ret2
    exact ⟨ret_text HE.out.1.symm HE.out.2.symm, Below.refl _ _⟩
  · have hl6 := right_le hr
    go_enter Tryz.func50, Tryz.ntmps50
    go_wp2_with (go_at_call 79; refine (srright_any _ _).mono ?_; rintro e w' ⟨rfl, rfl⟩)
    go_loopw [4, 5] (fun vb vi wr => ∃ (k : Nat) (acc : List UInt8), vi = .int .i64 k ∧ k ≤ l.length ∧ acc.length ≤ 4 * k ∧ OwnB wr w.heap.size vb acc ∧ Below w.heap.size w wr ∧ Hid (shownAll (l.take k) = acc)) (fun _ vi _ => l.length - (intOf vi).toNat)
    case atStart => exact ⟨0, [], rfl, by omega, by simp, OwnB.nil _ _, Below.refl _ _, Lib.hid rfl⟩
    case round =>
      obtain ⟨k, acc, rfl, hk, hacc, hown, hbw, HR⟩ := hrel
      have hsz := hbw.size
      by_cases hlt : k < l.length
      · obtain ⟨x, hxl⟩ : ∃ x, l[k] = x := ⟨_, rfl⟩
        have HX := Lib.hid (show l[k]? = some x by rw [List.getElem?_eq_getElem hlt, hxl])
        have hs4 := shown_len x
        have HN := Lib.hid (show shownAll (l.take (k + 1)) = acc ++ shown x by rw [shown_next HX.out, HR.out])
        go_wp2_with (first | (go_at_call 80; refine (rshown_any x _).mono ?_; rintro e w1 ⟨rfl, hb1⟩; have hown1 := hown.below hb1 (fun g hg => (hown.lt g hg).2); have hsz1 := hb1.size; have hbw1 := hbw.trans (hb1.mono hsz)) | (at_builtin; refine app_more hown1 rfl _ _ rfl (shown x) rfl rfl (by omega) (by omega) ?_; intro v' w2 hown2 hb2))
        go_roundw
        case rel => exact ⟨k + 1, acc ++ shown x, by go_num, by omega, by simp; omega, hown2, hbw1.trans hb2, HN⟩
        case measure => simp [intOf]; omega
      · obtain rfl : k = l.length := by omega
        have hall := HR.out
        rw [List.take_length] at hall
        have HF := Lib.hid hall
        clear hall
        have hcv := conv_own hown
        by_cases ho : 65536 < acc.length
        · have HE := Lib.hid (esc_over hr (by rw [HF.out]; exact ho))
          rcases hown.2 with ⟨rfl, h0⟩ | ⟨g, cap, cur, rfl, _⟩
          · omega
          go_wp2_with fail
          go_ret2
          exact ⟨ret_text HE.out.1.symm HE.out.2.symm, hbw⟩
        · have HE := Lib.hid (esc_fine hr (by rw [HF.out]; omega))
          rcases hown.2 with ⟨rfl, h0⟩ | ⟨g, cap, cur, rfl, _⟩
          · go_wp2_with fail
            go_ret2
            exact ⟨ret_text (by rw [HE.out.1, HF.out]) HE.out.2.symm, hbw⟩
          · go_wp2_with fail
            go_ret2
            exact ⟨ret_text (by rw [HE.out.1, HF.out]) HE.out.2.symm, hbw⟩
end Go.Proofs.YtkjdigojajcgkaaGreatDoor
