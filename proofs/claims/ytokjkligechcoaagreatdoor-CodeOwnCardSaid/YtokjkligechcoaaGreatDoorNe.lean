/- Walks of layer 16: any string in a program's text: it is written, and is not too long. -/
import Derived.Test.YtokjkligechcoaaGreatDoorNd
import Derived.Test.YtokjkligechcoaaGreatDoorKr
set_option linter.unusedVariables false
namespace Go.Proofs.YtokjkligechcoaaGreatDoor
open _root_.Go.Lib (hid)
open Go.RowKit
attribute [local go_sem] ext_mk size_mk toList_mk get_mk take_drop_len take_tail_len ByteArray.mk_append_mk List.append_toArray
theorem conv_x (x : UInt8) (n : Int) (hn : (x.toNat : Int) = n) (W : World) : Sem.run Tryz.prog (convert 40 9 (.slice (some ⟨W.heap.size, 0, none⟩) 1 1)) (W.alloc (.cells #[.int .u8 n] 5)) = .ok (.string ⟨#[x]⟩) (W.alloc (.cells #[.int .u8 n] 5)) := by
 subst hn
 exact conv_bys (l := [x]) 1 (World.news_of_block (heap_alloc_new _ _))
set_option maxHeartbeats 2000000 in
set_option maxRecDepth 4000 in
theorem escaped_w (x : UInt8) (w : World) (hV : PrVars w) : Calls Tryz.prog 151 #[.int .u8 (x.toNat : Int)] w fun e w' => ∃ s : List UInt8, e = .returned (.string ⟨s.toArray⟩) ∧ s.length ≤ 30 ∧ Below w.heap.size w w' := by
 obtain ⟨n, hn⟩ : ∃ n, x.toNat = n := ⟨_, rfl⟩
 have hlt : n < 256 := by rw [← hn]; exact x.toNat_lt
 have kc := fun W => conv_x x n (by rw [hn]) W
 have km := hid (fun (m : Int) (hm : (n : Int) = m) W => conv_x x m (by rw [hn, hm]) W)
 have HI := hid (Tryz.strconv_Itoa (n : Int) (by omega) (by omega) w hV.2.1)
 rw [hn]
 have hb0 : Below w.heap.size w (w.alloc (.cells #[.int .u8 (n : Int)] 5)) := (Below.refl _ _).alloc (Nat.le_refl _) _
 have HB := hid hb0
 clear hV hn hb0
 by_cases h1 : n = 34
 ·subst h1
  have k2 := km.out 34 rfl
  clear kc
  go_enter Tryz.func151, Tryz.ntmps151
  go_wp2_with fail
  go_ret
  exact ⟨_, rfl, by simp, (Below.refl _ _).alloc (Nat.le_refl _) _⟩
 by_cases h2 : n = 92
 ·subst h2
  have k2 := km.out 92 rfl
  clear kc
  go_enter Tryz.func151, Tryz.ntmps151
  go_wp2_with fail
  go_ret
  exact ⟨_, rfl, by simp, (Below.refl _ _).alloc (Nat.le_refl _) _⟩
 have g1 : ((n : Int) == 34) = false := by simp; omega
 have g2 : ((n : Int) == 92) = false := by simp; omega
 have g3 : ¬ (n : Int) = 34 := by omega
 have g4 : ¬ (n : Int) = 92 := by omega
 by_cases h3 : 7 ≤ n ∧ n ≤ 13
 ·clear g1 g2 g3 g4 kc HB
  have : n = 7 ∨ n = 8 ∨ n = 9 ∨ n = 10 ∨ n = 11 ∨ n = 12 ∨ n = 13 := by omega
  rcases this with rfl | rfl | rfl | rfl | rfl | rfl | rfl
  all_goals
   go_enter Tryz.func151, Tryz.ntmps151
   go_wp2_with fail
   go_ret
   exact ⟨_, rfl, by decide, Below.refl _ _⟩
 by_cases h4 : n < 32
 ·have kd := fun W => conv_x (UInt8.ofNat (n + 64)) ((n : Int) + 64) (by simp; omega) W
  have HB2 := hid (show Below w.heap.size w (w.alloc (.cells #[.int .u8 ((n : Int) + 64)] 5)) from (Below.refl _ _).alloc (Nat.le_refl _) _)
  clear h1 h2 kc
  rcases Nat.lt_or_ge n 7 with h5 | h5
  ·clear h3
   go_enter Tryz.func151, Tryz.ntmps151
   go_wp2_with fail
   go_ret
   exact ⟨_, rfl, by simp, HB2.out⟩
  ·have h6 : 13 < n := by omega
   clear h3
   go_enter Tryz.func151, Tryz.ntmps151
   go_wp2_with fail
   go_ret
   exact ⟨_, rfl, by simp, HB2.out⟩
 have h6 : 13 < n := by omega
 by_cases h5 : 127 ≤ n
 ·have hl := itoa_len2 (n := (n : Int)) ⟨by omega, by omega⟩
  clear h1 h2 h3 kc
  go_enter Tryz.func151, Tryz.ntmps151
  go_wp2_with (go_at_call 105; refine HI.out.mono ?_; rintro e w1 ⟨rfl, k, os, hw⟩; have hb1 := Lib.below_grow w.heap.size w (Nat.le_refl _) k os; rw [← hw] at hb1; have B1 := hid hb1; clear hw hb1)
  go_ret
  exact ⟨_, rfl, by simp; omega, B1.out⟩
 ·clear h1 h2 h3
  go_enter Tryz.func151, Tryz.ntmps151
  go_wp2_with fail
  go_ret
  exact ⟨[x], rfl, by simp, HB.out⟩
theorem right_w (l : List UInt8) (w : World) (hl : l.length ≤ 10000) : Calls Tryz.prog 150 #[.string ⟨l.toArray⟩] w fun e w' => e = .returned (.bool true) ∧ w = w' := by
 go_enter Tryz.func150, Tryz.ntmps150
 go_wp2
 go_ret
 exact ⟨ret_bool (by simp; omega), rfl⟩
set_option maxHeartbeats 2000000 in
set_option maxRecDepth 4000 in
theorem sescape_w (l : List UInt8) (w : World) (hV : PrVars w) (hl : l.length ≤ 10000) : Calls Tryz.prog 106 #[.string ⟨l.toArray⟩] w fun e w' => ∃ (s : List UInt8) (z : Int), e = .returned (.tuple #[.string ⟨s.toArray⟩, .int .i64 z]) ∧ s.length ≤ 30 * l.length ∧ Below w.heap.size w w' := by
 have CE := hid (fun x W (h : Below w.heap.size w W) => escaped_w x W (hV.below h))
 have CR := hid (fun W => right_w l W hl)
 have F := hid (Bld.fresh w)
 have HB0 := hid (show Below w.heap.size w (w.alloc (.cells #[.pointer none, .slice none 0 0] 94)) from (Below.refl _ _).alloc (Nat.le_refl _) _)
 clear hV
 go_enter Tryz.func106, Tryz.ntmps106
 go_wp2_with (go_at_call 150; refine (CR.out _).mono ?_; rintro e w1 ⟨rfl, rfl⟩)
 go_loopw [11] (fun v11 wr => ∃ (k : Nat) (acc : List UInt8), v11 = .int .i64 (k : Int) ∧ k ≤ l.length ∧ acc.length ≤ 30 * k ∧ Below w.heap.size w wr ∧ Bld w.heap.size w.heap.size acc wr) (fun v11 _ => l.length - (intOf v11).toNat)
 case atStart => exact ⟨0, [], rfl, Nat.zero_le _, by simp, HB0.out, F.out⟩
 case round =>
  obtain ⟨k, acc, rfl, hk, hacc, hb, hd⟩ := hrel
  have HB := hid hb
  have HD := hid hd
  clear hb hd
  by_cases hlt : k < l.length
  ·obtain ⟨x, hxl⟩ : ∃ x, l[k] = x := ⟨_, rfl⟩
   go_wp2_with (first
    | (go_at_call 151; refine (CE.out x _ HB.out).mono ?_; rintro e w2 ⟨s, rfl, hs, hb2⟩; have D2 := hid (HD.out.below hb2); have B2 := hid (HB.out.trans (hb2.mono HB.out.size)); clear hb2)
    | (go_at_call 48; refine (ws_any w.heap.size w.heap.size acc s _ D2.out (by omega) B2.out.size).mono ?_; rintro e w3 ⟨⟨v, rfl⟩, hd3, hb3⟩; have D3 := hid hd3; have B3 := hid (B2.out.trans hb3); clear hd3 hb3))
   go_roundw
   case rel => exact ⟨k + 1, acc ++ s, by go_num, hlt, by simp; omega, B3.out, D3.out⟩
   case measure => simp only [intOf]; omega
  ·by_cases ho : 65536 < acc.length
   ·go_wp2_with (go_at_call 51; refine (wlen_any w.heap.size w.heap.size acc _ HD.out).mono ?_; rintro e w4 ⟨rfl, rfl⟩)
    go_ret2
    exact ⟨[], _, rfl, by simp, HB.out⟩
   ·go_wp2_with (first
     | (go_at_call 51; refine (wlen_any w.heap.size w.heap.size acc _ HD.out).mono ?_; rintro e w4 ⟨rfl, rfl⟩)
     | (go_at_call 56; refine (wstr_any w.heap.size w.heap.size acc _ HD.out HB.out.size).mono ?_; rintro e w5 ⟨rfl, hd5, hb5⟩; have B5 := hid (HB.out.trans hb5); clear hb5 hd5))
    go_ret2
    exact ⟨acc, _, rfl, by omega, B5.out⟩
set_option maxHeartbeats 2000000 in
set_option maxRecDepth 4000 in
theorem escape_w (l : List UInt8) (w : World) (hV : PrVars w) (hl : l.length ≤ 65536) : Calls Tryz.prog 50 #[.string ⟨l.toArray⟩] w fun e w' => ∃ s : List UInt8, e = .returned (.string ⟨s.toArray⟩) ∧ s.length ≤ 2000000 ∧ Below w.heap.size w w' := by
 have CE := hid (fun p W (hp : p.length ≤ 10000) (h : Below w.heap.size w W) => sescape_w p W (hV.below h) hp)
 have F := hid (Bld.fresh w)
 have HB0 := hid (show Below w.heap.size w (w.alloc (.cells #[.pointer none, .slice none 0 0] 94)) from (Below.refl _ _).alloc (Nat.le_refl _) _)
 clear hV
 go_enter Tryz.func50, Tryz.ntmps50
 go_wp2_with fail
 go_loopw [0] (fun v0 wr => ∃ (p q acc : List UInt8), v0 = .string ⟨q.toArray⟩ ∧ p.length + q.length ≤ 65536 ∧ acc.length ≤ 30 * p.length ∧ Below w.heap.size w wr ∧ Bld w.heap.size w.heap.size acc wr) (fun v0 _ => match v0 with | .string s => s.size | _ => 0)
 case atStart => exact ⟨[], l, [], rfl, by simpa using hl, by simp, HB0.out, F.out⟩
 case round =>
  obtain ⟨p, q, acc, rfl, hpq, hacc, hb, hd⟩ := hrel
  have HB := hid hb
  have HD := hid hd
  clear hb hd
  by_cases hlt : 0 < q.length
  ·by_cases h1 : q.length ≤ 10000
   ·have hm : min (q.length : Int) 10000 = (q.length : Int) := by omega
    go_wp2_with (first
     | (go_at_call 106; refine (CE.out q _ h1 HB.out).mono ?_; rintro e w2 ⟨s, z, rfl, hs, hb2⟩; have D2 := hid (HD.out.below hb2); have B2 := hid (HB.out.trans (hb2.mono HB.out.size)); clear hb2)
     | (go_at_call 48; refine (ws_any w.heap.size w.heap.size acc s _ D2.out (by omega) B2.out.size).mono ?_; rintro e w3 ⟨⟨v, rfl⟩, hd3, hb3⟩; have D3 := hid hd3; have B3 := hid (B2.out.trans hb3); clear hd3 hb3))
    go_roundw
    case rel => exact ⟨p ++ q, [], acc ++ s, rfl, by simp; omega, by simp; omega, B3.out, D3.out⟩
    case measure =>
     show (ByteArray.size ⟨([] : List UInt8).toArray⟩) < ByteArray.size ⟨q.toArray⟩
     rw [size_mk, size_mk]; simpa using hlt
   ·have hm : min (q.length : Int) 10000 = 10000 := by omega
    have hp : (q.take 10000).length = 10000 := by simp; omega
    go_wp2_with (first
     | (go_at_call 106; refine (CE.out (q.take 10000) _ (by omega) HB.out).mono ?_; rintro e w2 ⟨s, z, rfl, hs, hb2⟩; have D2 := hid (HD.out.below hb2); have B2 := hid (HB.out.trans (hb2.mono HB.out.size)); clear hb2)
     | (go_at_call 48; refine (ws_any w.heap.size w.heap.size acc s _ D2.out (by omega) B2.out.size).mono ?_; rintro e w3 ⟨⟨v, rfl⟩, hd3, hb3⟩; have D3 := hid hd3; have B3 := hid (B2.out.trans hb3); clear hd3 hb3))
    go_roundw
    case rel => exact ⟨p ++ q.take 10000, q.drop 10000, acc ++ s, by simp, by simp; omega, by simp; omega, B3.out, D3.out⟩
    case measure =>
     show (ByteArray.size ⟨(q.drop 10000).toArray⟩) < ByteArray.size ⟨q.toArray⟩
     rw [size_mk, size_mk, List.length_drop]; omega
  ·go_wp2_with (go_at_call 56; refine (wstr_any w.heap.size w.heap.size acc _ HD.out HB.out.size).mono ?_; rintro e w5 ⟨rfl, hd5, hb5⟩; have B5 := hid (HB.out.trans hb5); clear hb5 hd5)
   go_ret
   exact ⟨acc, rfl, by omega, B5.out⟩
theorem upper_w (l : List UInt8) (w : World) (hl : l.length ≤ 16) (ha : ∀ b ∈ l, b.toNat < 128) : Calls Tryz.prog 52 #[.string ⟨l.toArray⟩] w fun e w' => ∃ s : List UInt8, e = .returned (.string ⟨s.toArray⟩) ∧ s.length = l.length ∧ Below w.heap.size w w' := by
 refine (Tryz.strings_ToUpper_ascii ⟨l.toArray⟩ w (by rw [size_mk]; omega) (fun j b e => ha b (List.mem_of_getElem? e))).mono ?_
 rintro e w' ⟨rfl, hb⟩
 exact ⟨_, rfl, by simp [Lib.toUpperA], hb⟩
theorem rep_w (n : Nat) (w : World) (hn : n ≤ 16) : Calls Tryz.prog 54 #[.string ⟨#[48]⟩, .int .i64 (n : Int)] w fun e w' => ∃ s : List UInt8, e = .returned (.string ⟨s.toArray⟩) ∧ s.length = n ∧ Below w.heap.size w w' := by
 refine (Tryz.strings_Repeat ⟨#[48]⟩ n w (by omega) (by show 1 * n ≤ _; omega)).mono ?_
 rintro e w' ⟨rfl, hb⟩
 exact ⟨_, rfl, by simp [Lib.repeatL_length], hb⟩
end Go.Proofs.YtokjkligechcoaaGreatDoor
