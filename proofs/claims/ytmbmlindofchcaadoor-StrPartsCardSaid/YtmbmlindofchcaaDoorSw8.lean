/- Walks of layer 3: a constant read. -/
import Derived.Test.YtmbmlindofchcaaDoorSw7
import Derived.Test.YtmbmlindofchcaaDoorSr
import Derived.Test.YtmbmlindofchcaaDoorShelf2
import Derived.OwnWalk
namespace Go.Proofs.YtmbmlindofchcaaDoor
open Go.RowKit
open St
set_option linter.unusedVariables false
attribute [local go_sem] ext_mk size_mk toList_mk get_mk take_drop_len take_tail_len ByteArray.mk_append_mk

/-- A builder of the call's own that holds these bytes. -/
def Bld (B b : Nat) (l : List UInt8) (w : World) : Prop := Lib.IsBuilderF 54 5 B b (Lib.byteCells l) w

theorem Bld.fresh (w : World) : Bld w.heap.size w.heap.size [] (w.alloc (.cells #[.pointer none, .slice none 0 0] 54)) :=
  Lib.IsBuilderF.of (Lib.fresh_isBuilder _ _ w)

theorem bcells_len (l : List UInt8) : (Lib.byteCells l).length = l.length := by simp [Lib.byteCells]

theorem bcells_app (l s : List UInt8) : Lib.byteCells (l ++ s) = Lib.byteCells l ++ Lib.byteCells s := by simp [Lib.byteCells]

theorem bcells_one (x : UInt8) : Lib.byteCells [x] = [.int .u8 (x.toNat : Int)] := rfl

theorem wb_any (B b : Nat) (l : List UInt8) (x : UInt8) (w : World) (h : Bld B b l w) (hlen : l.length + 1 ≤ 140737488355328) (hB : B ≤ w.heap.size) :
    Calls Tryd.prog 28 #[.pointer (some ⟨b, 0, none⟩), .int .u8 (x.toNat : Int)] w fun e w' => e = .returned .nilIface ∧ Bld B b (l ++ [x]) w' ∧ Below B w w' := by
  refine (Tryd.Builder_WriteByte_k B b (Lib.byteCells l) (x.toNat : Int) w h (by rw [bcells_len]; exact hlen) hB).mono ?_
  rintro e w' ⟨rfl, h1, h2, _⟩
  refine ⟨rfl, ?_, h2⟩
  unfold Bld; rw [bcells_app, bcells_one]; exact .inr h1

theorem ws_any (B b : Nat) (l s : List UInt8) (w : World) (h : Bld B b l w) (hlen : l.length + s.length ≤ 140737488355328) (hB : B ≤ w.heap.size) :
    Calls Tryd.prog 30 #[.pointer (some ⟨b, 0, none⟩), .string ⟨s.toArray⟩] w fun e w' => (∃ v, e = .returned v) ∧ Bld B b (l ++ s) w' ∧ Below B w w' := by
  refine (Tryd.Builder_WriteString_k B b (Lib.byteCells l) ⟨s.toArray⟩ w h (by rw [bcells_len, size_mk]; exact hlen) hB).mono ?_
  rintro e w' ⟨rfl, h1, h2, _⟩
  refine ⟨⟨_, rfl⟩, ?_, h2⟩
  unfold Bld; rw [bcells_app]; exact .inr h1

theorem wlen_any (B b : Nat) (l : List UInt8) (w : World) (h : Bld B b l w) :
    Calls Tryd.prog 31 #[.pointer (some ⟨b, 0, none⟩)] w fun e w' => e = .returned (.int .i64 (l.length : Int)) ∧ w = w' := by
  refine (Tryd.Builder_Len_f B b (Lib.byteCells l) w h).mono ?_
  rintro e w' ⟨rfl, hw⟩
  exact ⟨by rw [bcells_len], hw.symm⟩

theorem wstr_any (B b : Nat) (l : List UInt8) (w : World) (h : Bld B b l w) (hB : B ≤ w.heap.size) :
    Calls Tryd.prog 32 #[.pointer (some ⟨b, 0, none⟩)] w fun e w' => e = .returned (.string ⟨l.toArray⟩) ∧ Bld B b l w' ∧ Below B w w' := by
  refine (Tryd.Builder_String_any_k B b l w h hB).mono ?_
  rintro e w' ⟨rfl, h1, h2, _⟩
  exact ⟨rfl, h1, h2⟩

theorem ret_read {b c : List UInt8} {n m e f : Int} (h1 : b = c) (h2 : n = m) (h3 : e = f) : Ending.returned (.tuple #[.string ⟨b.toArray⟩, .int .i64 n, .int .i64 e]) = .returned (.tuple #[.string ⟨c.toArray⟩, .int .i64 m, .int .i64 f]) := by rw [h1, h2, h3]

theorem Bld.below {B b : Nat} {l : List UInt8} {w w' : World} (h : Bld B b l w) (hb : Below w.heap.size w w') : Bld B b l w' := by
  have keep : ∀ p, Lib.BuilderAtF 54 5 B b p (Lib.byteCells l) w → Lib.BuilderAtF 54 5 B b p (Lib.byteCells l) w' := by
    rintro p ⟨h1, v, h2, h3, h4⟩
    have hlt : ∀ (k : Nat) (o : Obj), w.heap[k]? = some o → k < w.heap.size := fun k o hk => by
      rcases Nat.lt_or_ge k w.heap.size with h | h
      · exact h
      · rw [Array.getElem?_eq_none h] at hk; cases hk
    refine ⟨h1, v, by rw [hb.block b (hlt _ _ h2)]; exact h2, ⟨h3.1, ?_⟩, h4⟩
    rcases h3.2 with h5 | ⟨g, cap, cur, fz, e1, e2, e3, e4⟩
    · exact .inl h5
    · exact .inr ⟨g, cap, cur, fz, e1, e2, by rw [hb.block g (hlt _ _ e3)]; exact e3, e4⟩
  exact h.elim (fun x => .inl (keep _ x)) (fun x => .inr (keep _ x))

theorem drop_tail (l : List UInt8) (k : Nat) : (l.drop k).tail = l.drop (k + 1) := by rw [List.tail_drop]

theorem rest_acc_le {l acc x : List UInt8} {k : Nat} (h : rest l k acc = (x, none)) : acc.length ≤ x.length := by
  unfold rest at h
  obtain ⟨y, h1, _⟩ := rd_acc _ _ _ 0 _ [] _ h
  rw [h1, List.length_append]; omega

set_option maxHeartbeats 4000000 in
set_option maxRecDepth 100000 in
theorem sread_any (l : List UInt8) (w : World) (he : ErrAt w) (hl : l.length ≤ 9223372036854770000) (hb : l.length ≤ 140737488351232 ∨ ∃ x, rdAll l = (x, none) ∧ x.length ≤ 65536) :
    Calls Tryd.prog 13 #[.string ⟨l.toArray⟩] w fun e w' => e = .returned (.tuple #[.string ⟨(readB l).toArray⟩, .int .i64 (readN l), .int .i64 (readE l)]) ∧ Below w.heap.size w w' := by
  have HErr := Lib.hid he
  have HBd := Lib.hid hb
  clear he hb
  go_enter Tryd.func13, Tryd.ntmps13
  go_wp2_with fail
  go_loopw [6] (fun vi wr => ∃ (k : Nat) (acc : List UInt8), vi = .int .i64 k ∧ k ≤ l.length ∧ acc.length ≤ k ∧ Bld w.heap.size w.heap.size acc wr ∧ Below w.heap.size w wr ∧ Hid (rdAll l = rest l k acc)) (fun vi _ => l.length - (intOf vi).toNat)
  case atStart => exact ⟨0, [], rfl, by omega, by simp, Bld.fresh w, (Below.refl _ _).alloc (Nat.le_refl _) _, Lib.hid (rest_start l)⟩
  case round =>
    obtain ⟨k, acc, rfl, hk, hacc, hbld, hbw, HR⟩ := hrel
    have hsz := hbw.size
    by_cases hlt : k < l.length
    · have hA : acc.length ≤ 140737488351231 := by
        rcases HBd.out with h | ⟨x, hx, h⟩
        · omega
        · have := rest_acc_le (HR.out.symm.trans hx); omega
      obtain ⟨x, hxl⟩ : ∃ x, l[k] = x := ⟨_, rfl⟩
      have hx : l[k]? = some x := by rw [List.getElem?_eq_getElem hlt, hxl]
      have HX := Lib.hid hx
      clear hx
      by_cases b1 : (x.toNat : Int) < 32
      · have hbad := bad_of (c := x) (.inl b1)
        have HE := Lib.hid (read_bad (HR.out.trans (rest_bad HX.out hbad)))
        clear hbad
        go_wp2
        go_ret3
        exact ⟨ret_read HE.out.1.symm HE.out.2.1.symm HE.out.2.2.symm, hbw⟩
      have c1 : decide ((x.toNat : Int) < 32) = false := decide_eq_false b1
      by_cases b2 : 126 < (x.toNat : Int)
      · have hbad := bad_of (c := x) (.inr (.inl b2))
        have HE := Lib.hid (read_bad (HR.out.trans (rest_bad HX.out hbad)))
        clear hbad
        go_wp2
        go_ret3
        exact ⟨ret_read HE.out.1.symm HE.out.2.1.symm HE.out.2.2.symm, hbw⟩
      have c2 : decide (126 < (x.toNat : Int)) = false := decide_eq_false b2
      by_cases b3 : (x.toNat : Int) = 34
      · have hbad := bad_of (c := x) (.inr (.inr b3))
        have k3 : ((x.toNat : Int) == 34) = true := by simp; omega
        clear b3
        have HE := Lib.hid (read_bad (HR.out.trans (rest_bad HX.out hbad)))
        clear hbad
        go_wp2
        go_ret3
        exact ⟨ret_read HE.out.1.symm HE.out.2.1.symm HE.out.2.2.symm, hbw⟩
      have c3 : ((x.toNat : Int) == 34) = false := by simp; omega
      have hgood := bad_not (c := x) (by omega)
      clear b3
      by_cases h92 : x = 92
      · subst h92
        have hs := said_any (l.drop k)
        cases hesc : esc (l.drop (k + 1)) with
        | none =>
          have hse := said_none (l := l.drop k) (by rw [drop_tail]; exact hesc)
          have HE := Lib.hid (read_bad (HR.out.trans (rest_no HX.out hesc)))
          rw [hse.1, hse.2] at hs
          have HS := Lib.hid hs
          clear hs hse hesc hgood
          go_wp2_with (go_at_call 29; refine (HS.out _ (HErr.out.below hbw) (by rw [List.length_drop]; omega)).mono ?_; rintro e w1 ⟨rfl, hb1⟩)
          go_ret3
          exact ⟨ret_read HE.out.1.symm HE.out.2.1.symm HE.out.2.2.symm, hbw.trans (hb1.mono hsz)⟩
        | some p =>
          obtain ⟨t, n⟩ := p
          have hse := said_some (l := l.drop k) (by rw [drop_tail]; exact hesc)
          have hel := esc_len hesc
          have HR2 := Lib.hid (HR.out.trans (rest_esc HX.out hesc))
          rw [hse.1, hse.2] at hs
          have HS := Lib.hid hs
          rw [List.length_drop] at hel
          obtain ⟨n1, n2, t1⟩ := hel
          clear hs hse hesc hgood
          have kn : ((n : Int) + 1 == 0) = false := by simp; omega
          go_wp2_with (go_at_call 29; refine (HS.out _ (HErr.out.below hbw) (by rw [List.length_drop]; omega)).mono ?_; rintro e w1 ⟨rfl, hb1⟩)
          have hsz1 := hb1.size
          have hbld1 : Bld w.heap.size w.heap.size acc w1 := hbld.below hb1
          have hbw1 := hbw.trans (hb1.mono hsz)
          go_wp2_with (go_at_call 30; refine (ws_any _ _ acc t _ hbld1 (by omega) (by omega)).mono ?_; rintro e w2 ⟨⟨v2, rfl⟩, hb2, hw2⟩)
          go_roundw
          case rel => exact ⟨k + 1 + n, acc ++ t, (by first | rfl | (congr 1; omega)), by omega, by simp; omega, hb2, hbw1.trans hw2, HR2⟩
          case measure => simp [intOf]; omega
      · have HR2 := Lib.hid (HR.out.trans (rest_plain HX.out hgood h92))
        have m92 : ((x.toNat : Int) == 92) = false := nbeq (y := 92) h92
        go_wp2_with (go_at_call 28; refine (wb_any _ _ acc x _ hbld (by omega) hsz).mono ?_; rintro e w1 ⟨rfl, hb1, hw1⟩)
        go_roundw
        case rel => exact ⟨k + 1, acc ++ [x], by go_num, by omega, by simp; omega, hb1, hbw.trans hw1, HR2⟩
        case measure => simp [intOf]; omega
    · obtain rfl : k = l.length := by omega
      have HF := Lib.hid (HR.out.trans (rest_end (Nat.le_refl _)))
      by_cases ho : 65536 < acc.length
      · have HE := Lib.hid (read_long HF.out ho)
        go_wp2_with (go_at_call 31; refine (wlen_any _ _ acc _ hbld).mono ?_; rintro e w' ⟨rfl, rfl⟩)
        go_ret3
        exact ⟨ret_read HE.out.1.symm HE.out.2.1.symm HE.out.2.2.symm, hbw⟩
      · have HE := Lib.hid (read_fine HF.out (by omega))
        go_wp2_with (first | (go_at_call 31; refine (wlen_any _ _ acc _ hbld).mono ?_; rintro e w' ⟨rfl, rfl⟩) | (go_at_call 32; refine (wstr_any _ _ acc _ hbld hsz).mono ?_; rintro e w1 ⟨rfl, hb1, hw1⟩))
        go_ret3
        exact ⟨ret_read HE.out.1.symm HE.out.2.1.symm HE.out.2.2.symm, hbw.trans hw1⟩
end Go.Proofs.YtmbmlindofchcaaDoor
