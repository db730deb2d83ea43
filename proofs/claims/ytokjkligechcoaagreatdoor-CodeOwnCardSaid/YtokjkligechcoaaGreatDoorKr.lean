/- The library's builder: what a call has written so far. -/
import Derived.Test.YtokjkligechcoaaGreatDoorShelf2
import Derived.Test.YtokjkligechcoaaGreatDoorKq
set_option linter.unusedVariables false
namespace Go.Proofs.YtokjkligechcoaaGreatDoor
open _root_.Go.Lib (hid)
open Go.RowKit
/-- A builder of the call's own that holds these bytes. -/
def Bld (B b : Nat) (l : List UInt8) (w : World) : Prop := Lib.IsBuilderF 94 5 B b (Lib.byteCells l) w
theorem Bld.fresh (w : World) : Bld w.heap.size w.heap.size [] (w.alloc (.cells #[.pointer none, .slice none 0 0] 94)) :=
 Lib.IsBuilderF.of (Lib.fresh_isBuilder _ _ w)
theorem bcells_len (l : List UInt8) : (Lib.byteCells l).length = l.length := by simp [Lib.byteCells]
theorem bcells_app (l s : List UInt8) : Lib.byteCells (l ++ s) = Lib.byteCells l ++ Lib.byteCells s := by simp [Lib.byteCells]
theorem ws_any (B b : Nat) (l s : List UInt8) (w : World) (h : Bld B b l w) (hlen : l.length + s.length ≤ 140737488355328) (hB : B ≤ w.heap.size) :
  Calls Tryz.prog 48 #[.pointer (some ⟨b, 0, none⟩), .string ⟨s.toArray⟩] w fun e w' => (∃ v, e = .returned v) ∧ Bld B b (l ++ s) w' ∧ Below B w w' := by
 refine (Tryz.Builder_WriteString_k B b (Lib.byteCells l) ⟨s.toArray⟩ w h (by rw [bcells_len, size_mk]; exact hlen) hB).mono ?_
 rintro e w' ⟨rfl, h1, h2, _⟩
 refine ⟨⟨_, rfl⟩, ?_, h2⟩
 unfold Bld; rw [bcells_app]; exact .inr h1
theorem wlen_any (B b : Nat) (l : List UInt8) (w : World) (h : Bld B b l w) :
  Calls Tryz.prog 51 #[.pointer (some ⟨b, 0, none⟩)] w fun e w' => e = .returned (.int .i64 (l.length : Int)) ∧ w = w' := by
 refine (Tryz.Builder_Len_f B b (Lib.byteCells l) w h).mono ?_
 rintro e w' ⟨rfl, hw⟩
 exact ⟨by rw [bcells_len], hw.symm⟩
theorem wstr_any (B b : Nat) (l : List UInt8) (w : World) (h : Bld B b l w) (hB : B ≤ w.heap.size) :
  Calls Tryz.prog 56 #[.pointer (some ⟨b, 0, none⟩)] w fun e w' => e = .returned (.string ⟨l.toArray⟩) ∧ Bld B b l w' ∧ Below B w w' := by
 refine (Tryz.Builder_String_any_k B b l w h hB).mono ?_
 rintro e w' ⟨rfl, h1, h2, _⟩
 exact ⟨rfl, h1, h2⟩
theorem Bld.below {B b : Nat} {l : List UInt8} {w w' : World} (h : Bld B b l w) (hb : Below w.heap.size w w') : Bld B b l w' := by
 have keep : ∀ p, Lib.BuilderAtF 94 5 B b p (Lib.byteCells l) w → Lib.BuilderAtF 94 5 B b p (Lib.byteCells l) w' := by
  rintro p ⟨h1, v, h2, h3, h4⟩
  have hlt : ∀ (k : Nat) (o : Obj), w.heap[k]? = some o → k < w.heap.size := fun k o hk => by
   rcases Nat.lt_or_ge k w.heap.size with h | h
   ·exact h
   ·rw [Array.getElem?_eq_none h] at hk; cases hk
  refine ⟨h1, v, by rw [hb.block b (hlt _ _ h2)]; exact h2, ⟨h3.1, ?_⟩, h4⟩
  rcases h3.2 with h5 | ⟨g, cap, cur, fz, e1, e2, e3, e4⟩
  ·exact .inl h5
  ·exact .inr ⟨g, cap, cur, fz, e1, e2, by rw [hb.block g (hlt _ _ e3)]; exact e3, e4⟩
 exact h.elim (fun x => .inl (keep _ x)) (fun x => .inr (keep _ x))
attribute [local go_sem] ext_mk size_mk toList_mk get_mk take_drop_len take_tail_len ByteArray.mk_append_mk List.append_toArray
theorem ws_k (B b : Nat) (l s : List UInt8) (w : World) (h : Bld B b l w) (hlen : l.length + s.length ≤ 140737488355328) (hB : B ≤ w.heap.size) :
  Calls Tryz.prog 48 #[.pointer (some ⟨b, 0, none⟩), .string ⟨s.toArray⟩] w fun e w' => (∃ v, e = .returned v) ∧ Bld B b (l ++ s) w' ∧ Below B w w' ∧ Lib.OthersKept 5 (some b) w w' := by
 refine (Tryz.Builder_WriteString_k B b (Lib.byteCells l) ⟨s.toArray⟩ w h (by rw [bcells_len, size_mk]; exact hlen) hB).mono ?_
 rintro e w' ⟨rfl, h1, h2, h3⟩
 refine ⟨⟨_, rfl⟩, ?_, h2, h3⟩
 unfold Bld; rw [bcells_app]; exact .inr h1
theorem KAt.oth {W V : World} {q b : Nat} {cs : Array Value} {T : TypeId} {fz : Nat × Nat} (h : KAt W q (.cells cs T fz)) (ho : Lib.OthersKept 5 (some b) W V) (hq : q ≠ b) (hT : T ≠ 5) : KAt V q (.cells cs T fz) :=
 ⟨ho q _ h.x (fun e => hq (by injection e)) (fun c fz' e => hT (by injection e))⟩
theorem conv_one (W : World) : Sem.run Tryz.prog (convert 40 9 (.slice (some ⟨W.heap.size, 0, none⟩) 1 1)) (W.alloc (.cells #[.int .u8 97] 5)) = .ok (.string ⟨#[97]⟩) (W.alloc (.cells #[.int .u8 97] 5)) := by
 refine conv_bys (l := [97]) 1 ?_
 exact World.news_of_block (heap_alloc_new _ _)
theorem escaped_a (w : World) : Calls Tryz.prog 151 #[.int .u8 97] w fun e w' => e = .returned (.string ⟨#[97]⟩) ∧ Below w.heap.size w w' := by
 have kc := conv_one
 go_enter Tryz.func151, Tryz.ntmps151
 go_wp2_with fail
 go_ret
 exact ⟨rfl, (Below.refl _ _).alloc (Nat.le_refl _) _⟩
theorem right_a (w : World) : Calls Tryz.prog 150 #[.string ⟨#[97]⟩] w fun e w' => e = .returned (.bool true) ∧ w = w' := by
 go_enter Tryz.func150, Tryz.ntmps150
 go_wp2
 go_ret
 exact ⟨rfl, rfl⟩
set_option maxHeartbeats 2000000 in
theorem sescape_a (w : World) : Calls Tryz.prog 106 #[.string ⟨#[97]⟩] w fun e w' => e = .returned (.tuple #[.string ⟨#[97]⟩, .int .i64 0]) ∧ Below w.heap.size w w' := by
 have CE := hid (fun W => escaped_a W)
 have CR := hid (fun W => right_a W)
 have F := hid (Bld.fresh w)
 have HB0 := hid (show Below w.heap.size w (w.alloc (.cells #[.pointer none, .slice none 0 0] 94)) from (Below.refl _ _).alloc (Nat.le_refl _) _)
 go_enter Tryz.func106, Tryz.ntmps106
 go_wp2_with (go_at_call 150; refine (CR.out _).mono ?_; rintro e w1 ⟨rfl, rfl⟩)
 go_loopw [11] (fun v11 wr => ∃ k : Nat, v11 = .int .i64 (k : Int) ∧ k ≤ 1 ∧ Below w.heap.size w wr ∧ Bld w.heap.size w.heap.size (([97] : List UInt8).take k) wr) (fun v11 _ => 1 - (intOf v11).toNat)
 case atStart => exact ⟨0, rfl, by decide, HB0.out, F.out⟩
 case round =>
  obtain ⟨k, rfl, hk, hb, hd⟩ := hrel
  have HB := hid hb
  have HD := hid hd
  clear hb hd
  match k, hk with
  | 0, _ =>
   go_wp2_with (first
    | (go_at_call 151; refine (CE.out _).mono ?_; rintro e w2 ⟨rfl, hb2⟩; have D2 := hid (HD.out.below hb2); have B2 := hid (HB.out.trans (hb2.mono HB.out.size)); clear hb2)
    | (go_at_call 48; refine (ws_k w.heap.size w.heap.size [] [97] _ D2.out (by decide) B2.out.size).mono ?_; rintro e w3 ⟨⟨v, rfl⟩, hd3, hb3, -⟩; have D3 := hid hd3; have B3 := hid (B2.out.trans hb3); clear hd3 hb3))
   go_roundw
   case rel => exact ⟨1, rfl, Nat.le_refl _, B3.out, D3.out⟩
   case measure => simp [intOf]
  | 1, _ =>
   go_wp2_with (first
    | (go_at_call 51; refine (wlen_any w.heap.size w.heap.size [97] _ HD.out).mono ?_; rintro e w4 ⟨rfl, rfl⟩)
    | (go_at_call 56; refine (wstr_any w.heap.size w.heap.size [97] _ HD.out HB.out.size).mono ?_; rintro e w5 ⟨rfl, hd5, hb5⟩; have B5 := hid (HB.out.trans hb5); clear hb5 hd5))
   go_ret2
   exact ⟨rfl, B5.out⟩
set_option maxHeartbeats 2000000 in
theorem escape_a (w : World) : Calls Tryz.prog 50 #[.string ⟨#[97]⟩] w fun e w' => e = .returned (.string ⟨#[97]⟩) ∧ Below w.heap.size w w' := by
 have CE := hid (fun W => sescape_a W)
 have F := hid (Bld.fresh w)
 have HB0 := hid (show Below w.heap.size w (w.alloc (.cells #[.pointer none, .slice none 0 0] 94)) from (Below.refl _ _).alloc (Nat.le_refl _) _)
 go_enter Tryz.func50, Tryz.ntmps50
 go_wp2_with fail
 go_loopw [0] (fun v0 wr => ∃ k : Nat, v0 = .string ⟨(([97] : List UInt8).drop k).toArray⟩ ∧ k ≤ 1 ∧ Below w.heap.size w wr ∧ Bld w.heap.size w.heap.size (([97] : List UInt8).take k) wr) (fun v0 _ => match v0 with | .string s => s.size | _ => 0)
 case atStart => exact ⟨0, rfl, by decide, HB0.out, F.out⟩
 case round =>
  obtain ⟨k, rfl, hk, hb, hd⟩ := hrel
  have HB := hid hb
  have HD := hid hd
  clear hb hd
  match k, hk with
  | 0, _ =>
   go_wp2_with (first
    | (go_at_call 106; refine (CE.out _).mono ?_; rintro e w2 ⟨rfl, hb2⟩; have D2 := hid (HD.out.below hb2); have B2 := hid (HB.out.trans (hb2.mono HB.out.size)); clear hb2)
    | (go_at_call 48; refine (ws_k w.heap.size w.heap.size [] [97] _ D2.out (by decide) B2.out.size).mono ?_; rintro e w3 ⟨⟨v, rfl⟩, hd3, hb3, -⟩; have D3 := hid hd3; have B3 := hid (B2.out.trans hb3); clear hd3 hb3))
   go_roundw
   case rel => exact ⟨1, rfl, Nat.le_refl _, B3.out, D3.out⟩
   case measure => decide
  | 1, _ =>
   go_wp2_with (go_at_call 56; refine (wstr_any w.heap.size w.heap.size [97] _ HD.out HB.out.size).mono ?_; rintro e w5 ⟨rfl, hd5, hb5⟩; have B5 := hid (HB.out.trans hb5); clear hb5 hd5)
   go_ret
   exact ⟨rfl, B5.out⟩
end Go.Proofs.YtokjkligechcoaaGreatDoor
