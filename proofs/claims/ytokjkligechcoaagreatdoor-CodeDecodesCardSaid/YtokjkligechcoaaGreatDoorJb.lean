/- Walks of layer 16's reference: the reader of numbers, at any bytes. -/
import Derived.Test.YtokjkligechcoaaGreatDoorGj
set_option linter.unusedVariables false
namespace Go.Proofs.YtokjkligechcoaaGreatDoor
open _root_.Go.Lib (hid)
open Go.RowKit
attribute [local go_sem] ext_mk size_mk toList_mk get_mk take_drop_len take_tail_len ByteArray.mk_append_mk List.append_toArray
section
/-- a number in at most nine groups of seven bits, read: f: how many groups may follow -/
def natF (l : List UInt8) : Nat → Nat → Nat → Nat × Nat × Bool
 | 0, at', _ => (0, at', true)
 | f + 1, at', n =>
  if l.length ≤ at' then (0, at', true)
  else if (l.getD at' 0).toNat < 128 then (n + (l.getD at' 0).toNat % 128 * 2 ^ (7 * (8 - f)), at' + 1, decide ((l.getD at' 0).toNat = 0 ∧ f < 8))
  else natF l f (at' + 1) (n + (l.getD at' 0).toNat % 128 * 2 ^ (7 * (8 - f)))
def natL (l : List UInt8) (at' : Nat) (bad : Bool) : Nat × Nat × Bool := if bad then (0, at', true) else natF l 9 at' 0
theorem natF_le (l : List UInt8) : ∀ f at' n, at' ≤ l.length → (natF l f at' n).2.1 ≤ l.length := by
 intro f
 induction f with
 | zero => intro a n h; exact h
 | succ f ih =>
  intro a n h
  unfold natF
  split
  ·exact h
  ·split
   ·show a + 1 ≤ _; omega
   ·exact ih _ _ (by omega)
theorem natL_le (l : List UInt8) (i : Nat) (bad : Bool) (h : i ≤ l.length) : (natL l i bad).2.1 ≤ l.length := by
 unfold natL; split
 ·exact h
 ·exact natF_le l 9 i 0 h
theorem natF_lt (l : List UInt8) : ∀ f at' n, f ≤ 9 → n < 2 ^ (7 * (9 - f)) → (natF l f at' n).1 < 9223372036854775808 := by
 intro f
 induction f with
 | zero => intro a n _ h; show (0 : Nat) < _; decide
 | succ f ih =>
  intro a n hf hn
  have hp : n + (l.getD a 0).toNat % 128 * 2 ^ (7 * (8 - f)) < 2 ^ (7 * (9 - f)) := by
   have e : 7 * (9 - f) = 7 * (8 - f) + 7 := by omega
   rw [show 7 * (9 - (f + 1)) = 7 * (8 - f) by omega] at hn
   rw [e, Nat.pow_add]
   have : (l.getD a 0).toNat % 128 < 128 := Nat.mod_lt _ (by decide)
   have h2 : (l.getD a 0).toNat % 128 * 2 ^ (7 * (8 - f)) ≤ 127 * 2 ^ (7 * (8 - f)) := Nat.mul_le_mul_right _ (by omega)
   have h3 : (2 : Nat) ^ 7 = 128 := rfl
   rw [h3]
   omega
  unfold natF
  split
  ·show (0 : Nat) < _; decide
  ·split
   ·show n + _ < _
    refine Nat.lt_of_lt_of_le hp ?_
    have : 2 ^ (7 * (9 - f)) ≤ 2 ^ 63 := Nat.pow_le_pow_right (by decide) (by omega)
    have h3 : (2 : Nat) ^ 63 = 9223372036854775808 := rfl
    omega
   ·exact ih _ _ (by omega) hp
theorem natL_lt (l : List UInt8) (i : Nat) (bad : Bool) : (natL l i bad).1 < 9223372036854775808 := by
 unfold natL; split
 ·show (0 : Nat) < _; decide
 ·exact natF_lt l 9 i 0 (Nat.le_refl _) (by decide)
/-- the reference's reader's box -/
def rbBlk (v : Value) (at' : Nat) (bad : Bool) : Obj := .cells #[v, .int .i64 at', .bool bad] 113 (0, 0)
theorem KAt.rbcells {W : World} {p : Nat} {v : Value} {i : Nat} {bad : Bool} (h : KAt W p (rbBlk v i bad)) : W.cell? ⟨p, 0, none⟩ = some v ∧ W.cell? ⟨p, 1, none⟩ = some (.int .i64 i) ∧ W.cell? ⟨p, 2, none⟩ = some (.bool bad) ∧ W.frozen? ⟨p, 1, none⟩ = false ∧ W.frozen? ⟨p, 2, none⟩ = false := by
 refine ⟨?_, ?_, ?_, frozen_of_row _ _ _ _ _ h.x, frozen_of_row _ _ _ _ _ h.x⟩
 all_goals (rw [cell_of_row _ _ _ _ _ _ h.x]; rfl)
set_option maxHeartbeats 4000000 in
set_option maxRecDepth 8000 in
theorem rnat_rd (p : Nat) (a : Option Addr) (l : List UInt8) (cap i0 : Nat) (bad : Bool) (w0 w : World) (hk : KAt w p (rbBlk (.slice a l.length cap) i0 bad)) (hB : BysAt w0 a l) (h0 : w0.heap.size ≤ p) (hb0 : Below w0.heap.size w0 w) (hi : i0 ≤ l.length) :
  Calls Tryz.prog 60 #[.pointer (some ⟨p, 0, none⟩)] w fun x w' => x = .returned (.int .i64 ((natL l i0 bad).1 : Nat)) ∧ BxAt w w' p (rbBlk (.slice a l.length cap) (natL l i0 bad).2.1 (natL l i0 bad).2.2) := by
 have B0 := hid (BxAt.start hk)
 have HB := hid hB
 have HB0 := hid hb0
 have hm : (l.length : Int) ≤ 9223372036854775807 := by have := hB.1; unfold maxLen at this; omega
 cases bad with
 | true =>
  obtain ⟨d0, d1, d2, z1, z2⟩ := hk.rbcells
  clear hk hB hb0
  go_enter Tryz.func60, Tryz.ntmps60
  go_wp2_with fail
  go_loopw [3, 4] (fun v3 v4 wr => v3 = .int .u64 0 ∧ v4 = .int .i64 0 ∧ wr = w) (fun _ v4 _ => 0)
  case atStart => exact ⟨rfl, rfl, rfl⟩
  case round =>
   obtain ⟨rfl, rfl, rfl⟩ := hrel
   go_wp2_with fail
   go_ret
   exact ⟨rfl, B0.out⟩
 | false =>
  rw [show natL l i0 false = natF l 9 i0 0 from rfl]
  clear hk hB hb0
  go_enter Tryz.func60, Tryz.ntmps60
  go_wp2_with fail
  go_loopw [3, 4] (fun v3 v4 wr => ∃ f i n k : Nat, f ≤ 9 ∧ k = 9 - f ∧ v3 = .int .u64 (n : Int) ∧ v4 = .int .i64 (k : Int) ∧ n < 2 ^ (7 * k) ∧ i ≤ l.length ∧ natF l 9 i0 0 = natF l f i n ∧ BxAt w wr p (rbBlk (.slice a l.length cap) i false)) (fun _ v4 _ => 9 - (intOf v4).toNat)
  case atStart => exact ⟨9, i0, 0, 0, Nat.le_refl _, rfl, rfl, rfl, by decide, hi, rfl, B0.out⟩
  case round =>
   clear hi
   obtain ⟨f, i, n, k, hf, hk, rfl, rfl, hn, hi, he, hBx⟩ := hrel
   have HE := hid he
   have HX := hid hBx
   obtain ⟨d0, d1, d2, z1, z2⟩ := hBx.k.rbcells
   clear he hBx
   by_cases hle : l.length ≤ i
   ·have k1 : decide ((l.length : Int) ≤ (i : Int)) = true := decide_eq_true (by omega)
    have HU := hid (show natF l f i n = (0, i, true) by cases f with | zero => rfl | succ f => unfold natF; rw [if_pos hle])
    go_wp2_with fail
    go_quiet (fail)
    go_wp2_with fail
    go_ret
    exact ⟨by rw [HE.out, HU.out]; rfl, by rw [HE.out, HU.out]; exact (HX.out.below (below_drewN (Below.refl _ _) _)).set (i := 2) _⟩
   ·have k1 : decide ((l.length : Int) ≤ (i : Int)) = false := decide_eq_false (by omega)
    have k1b : decide ((i : Int) < (l.length : Int)) = true := decide_eq_true (by omega)
    cases f with
    | zero =>
     have k0 : decide ((8 : Int) < (k : Int)) = true := decide_eq_true (by omega)
     go_wp2_with fail
     go_quiet (fail)
     go_wp2_with fail
     go_ret
     exact ⟨by rw [HE.out]; rfl, by rw [HE.out]; exact (HX.out.below (below_drewN (Below.refl _ _) _)).set (i := 2) _⟩
    | succ f =>
     have k0 : decide ((8 : Int) < (k : Int)) = false := decide_eq_false (by omega)
     obtain ⟨b, off, rfl, hc⟩ := bys_get (HB.out.below (HB0.out.trans (HX.out.be.mono h0))) (show i < l.length by omega)
     obtain ⟨c, hcc⟩ : ∃ c, (l.getD i 0).toNat = c := ⟨_, rfl⟩
     have hc256 : c < 256 := by rw [← hcc]; exact (l.getD i 0).toNat_lt
     rw [hcc] at hc
     have HC := hid hcc
     have k2 : IntKind.i64.wrap ((i : Int) + 1) = (i : Int) + 1 := IntWalk.i64_in _ (by omega)
     have hk8 : k = 8 - f := by omega
     subst hk8
     obtain ⟨k, hkk⟩ : ∃ k, 8 - f = k := ⟨_, rfl⟩
     rw [hkk] at hn k0 ⊢
     have hs63 : 7 * k ≤ 56 := by omega
     have hp : n + c % 128 * 2 ^ (7 * k) < 9223372036854775808 ∧ n + c % 128 * 2 ^ (7 * k) < 2 ^ (7 * k + 7) := by
      have h2 : c % 128 * 2 ^ (7 * k) ≤ 127 * 2 ^ (7 * k) := Nat.mul_le_mul_right _ (by omega)
      have h4 : 2 ^ (7 * k) ≤ 2 ^ 56 := Nat.pow_le_pow_right (by decide) hs63
      have h5 : (2 : Nat) ^ 56 = 72057594037927936 := rfl
      have h3 : (2 : Nat) ^ (7 * k + 7) = 128 * 2 ^ (7 * k) := by rw [Nat.pow_add, Nat.mul_comm]
      omega
     have HP := hid hp
     have HV := hid (show bits .or .u64 (n : Int) (IntKind.u64.wrap ((c : Int) % 128 * 2 ^ (7 * k))) = ((n + c % 128 * 2 ^ (7 * k) : Nat) : Int) by
      have e1 : ((c : Int) % 128 * 2 ^ (7 * k)) = ((c % 128 * 2 ^ (7 * k) : Nat) : Int) := by rw [Int.natCast_mul, Int.natCast_pow]; rfl
      rw [e1, IntWalk.u64_in _ (by omega), u64_or_nat n (c % 128 * 2 ^ (7 * k)) (by omega) (by omega), Nat.add_comm, Nat.mul_comm (c % 128), Nat.two_pow_add_eq_or_of_lt hn, Nat.or_comm])
     have HM := hid (show natF l (f + 1) i n = if c < 128 then (n + c % 128 * 2 ^ (7 * k), i + 1, decide (c = 0 ∧ f < 8)) else natF l f (i + 1) (n + c % 128 * 2 ^ (7 * k)) by
      rw [← hkk]
      conv => lhs; unfold natF
      rw [if_neg hle, HC.out])
     have hk9 : k ≤ 8 := by omega
     have HK := hid hkk
     have HF := hid hf
     clear hp hkk hs63
     by_cases hlt : c < 128
     ·have k5 : decide ((c : Int) < 128) = true := decide_eq_true (by omega)
      have HU := hid (HM.out.trans (if_pos hlt))
      obtain ⟨fl, hfl⟩ : ∃ fl, decide (c = 0 ∧ f < 8) = fl := ⟨_, rfl⟩
      rw [hfl] at HU
      have hq : (((c : Int) == 0) = false ∧ fl = false) ∨ (((c : Int) == 0) = true ∧ decide (0 < k) = fl) := by
       have := HK.out
       have := HF.out
       rw [← hfl]
       by_cases h : c = 0
       ·right; refine ⟨by simp [h], ?_⟩; rw [Bool.eq_iff_iff]; simp [h]; omega
       ·left; exact ⟨by simpa using h, by simp [h]⟩
      clear hfl hk hf hcc
      rcases hq with ⟨kz, rfl⟩ | ⟨kz, kf⟩
      ·go_wp2_with fail
       go_quiet (fail)
       go_wp2_with fail
       go_quiet (fail)
       go_wp2_with fail
       go_ret
       refine ⟨?_, ?_⟩
       ·rw [HE.out, HU.out, HV.out, show wrap64 ((n + c % 128 * 2 ^ (7 * k) : Nat) : Int) = ((n + c % 128 * 2 ^ (7 * k) : Nat) : Int) from wrap64_nat _ HP.out.1]; rfl
       ·rw [HE.out, HU.out]; exact ((HX.out.below (below_drewN (Below.refl _ _) _)).set (i := 1) _).set (i := 2) _
      ·go_wp2_with fail
       go_quiet (fail)
       go_wp2_with fail
       go_quiet (fail)
       go_wp2_with fail
       go_ret
       refine ⟨?_, ?_⟩
       ·rw [HE.out, HU.out, HV.out, show wrap64 ((n + c % 128 * 2 ^ (7 * k) : Nat) : Int) = ((n + c % 128 * 2 ^ (7 * k) : Nat) : Int) from wrap64_nat _ HP.out.1]; rfl
       ·rw [HE.out, HU.out]; exact ((HX.out.below (below_drewN (Below.refl _ _) _)).set (i := 1) _).set (i := 2) _
     ·have k5 : decide ((c : Int) < 128) = false := decide_eq_false (by omega)
      have HU := hid (HM.out.trans (if_neg hlt))
      clear hk hf hcc
      go_wp2_with fail
      go_quiet (fail)
      go_wp2_with fail
      go_quiet (fail)
      go_wp2_with fail
      go_roundw
      case rel => exact ⟨f, i + 1, n + c % 128 * 2 ^ (7 * k), k + 1, by have := HF.out; omega, by have := HK.out; have := HF.out; omega, congrArg (fun z => Value.int .u64 z) HV.out, rfl, HP.out.2, by omega, HE.out.trans HU.out, (HX.out.below (below_drewN (Below.refl _ _) _)).set (i := 1) _⟩
      case measure => simp only [intOf]; omega
theorem k1b_of (n j x : Nat) (h : j ≤ n) (hx : n - j = x) (hm : (n : Int) ≤ 9223372036854775807) : wrap64 ((n : Int) - (j : Int)) = (x : Int) := by rw [show ((n : Int) - (j : Int)) = (x : Int) by omega]; exact wrap64_nat x (by omega)
def rsigL (l : List UInt8) (i : Nat) (bad : Bool) : Int × Nat × Bool := (unzig (natL l i bad).1, (natL l i bad).2)
/-- how many there are of what takes a byte at least -/
def rcntL (l : List UInt8) (i : Nat) (bad : Bool) : Nat × Nat × Bool :=
 if l.length - (natL l i bad).2.1 < (natL l i bad).1 then (0, (natL l i bad).2.1, true) else natL l i bad
theorem rsigL_le (l : List UInt8) (i : Nat) (bad : Bool) (h : i ≤ l.length) : (rsigL l i bad).2.1 ≤ l.length := natL_le l i bad h
theorem rcntL_le (l : List UInt8) (i : Nat) (bad : Bool) (h : i ≤ l.length) : (rcntL l i bad).2.1 ≤ l.length := by
 unfold rcntL; split <;> exact natL_le l i bad h
theorem rcntL_fit (l : List UInt8) (i : Nat) (bad : Bool) : (rcntL l i bad).1 ≤ l.length - (rcntL l i bad).2.1 := by
 unfold rcntL; split
 ·exact Nat.zero_le _
 ·rename_i h; exact Nat.le_of_not_lt h
section
variable (p : Nat) (a : Option Addr) (l : List UInt8) (cap i0 : Nat) (bad : Bool) (w0 w : World) (hk : KAt w p (rbBlk (.slice a l.length cap) i0 bad)) (hB : BysAt w0 a l) (h0 : w0.heap.size ≤ p) (hb0 : Below w0.heap.size w0 w) (hi : i0 ≤ l.length)
include hk hB h0 hb0 hi
set_option maxHeartbeats 4000000 in
set_option maxRecDepth 8000 in
theorem rsigned_rd :
  Calls Tryz.prog 118 #[.pointer (some ⟨p, 0, none⟩)] w fun x w' => x = .returned (.int .i64 (rsigL l i0 bad).1) ∧ BxAt w w' p (rbBlk (.slice a l.length cap) (rsigL l i0 bad).2.1 (rsigL l i0 bad).2.2) := by
 have C := hid (rnat_rd p a l cap i0 bad w0 w hk hB h0 hb0 hi)
 have hlt := natL_lt l i0 bad
 unfold rsigL
 obtain ⟨q, hq⟩ : ∃ q, natL l i0 bad = q := ⟨_, rfl⟩
 rw [hq] at C hlt ⊢
 obtain ⟨n, j, f⟩ := q
 have hlt : n < 9223372036854775808 := hlt
 clear hk hB hb0 hi hq
 obtain ⟨m, hm⟩ : ∃ m, n / 2 = m := ⟨_, rfl⟩
 have kh : ((n : Int) / 2) = (m : Int) := by omega
 have hm2 : m < 4611686018427387904 := by omega
 unfold unzig
 rw [show ((n, j, f) : Nat × Nat × Bool).1 = n from rfl, hm]
 by_cases hb : n % 2 = 1
 ·have ka : ((n : Int) % 2 == 1) = true := by rw [beq_iff_eq]; omega
  rw [if_pos hb]
  clear hm hlt
  go_enter Tryz.func118, Tryz.ntmps118
  go_wp2_with (first | (go_at_call 60; (with_reducible refine C.out.mono ?_); rintro e w1 ⟨rfl, hx⟩; have HX := hid hx; clear hx))
  go_ret
  exact ⟨rfl, HX.out⟩
 ·have ka : ((n : Int) % 2 == 1) = false := beq_eq_false_iff_ne.2 (by omega)
  rw [if_neg hb]
  clear hm hlt
  go_enter Tryz.func118, Tryz.ntmps118
  go_wp2_with (first | (go_at_call 60; (with_reducible refine C.out.mono ?_); rintro e w1 ⟨rfl, hx⟩; have HX := hid hx; clear hx))
  go_ret
  exact ⟨rfl, HX.out⟩
set_option maxHeartbeats 4000000 in
set_option maxRecDepth 8000 in
theorem rcount_rd :
  Calls Tryz.prog 61 #[.pointer (some ⟨p, 0, none⟩)] w fun x w' => x = .returned (.int .i64 ((rcntL l i0 bad).1 : Nat)) ∧ BxAt w w' p (rbBlk (.slice a l.length cap) (rcntL l i0 bad).2.1 (rcntL l i0 bad).2.2) := by
 have C := hid (rnat_rd p a l cap i0 bad w0 w hk hB h0 hb0 hi)
 have hlt := natL_lt l i0 bad
 have hjl := natL_le l i0 bad hi
 have hm : (l.length : Int) ≤ 9223372036854775807 := by have := hB.1; unfold maxLen at this; omega
 unfold rcntL
 obtain ⟨q, hq⟩ : ∃ q, natL l i0 bad = q := ⟨_, rfl⟩
 rw [hq] at C hlt hjl ⊢
 obtain ⟨n, j, f⟩ := q
 have hlt : n < 9223372036854775808 := hlt
 have hjl : j ≤ l.length := hjl
 clear hk hB hb0 hi hq
 obtain ⟨x, hx⟩ : ∃ x, l.length - j = x := ⟨_, rfl⟩
 have k1 : IntKind.i64.wrap ((l.length : Int) - (j : Int)) = (x : Int) := by rw [IntWalk.i64_in _ (by omega)]; omega
 have k1b : wrap64 ((l.length : Int) - (j : Int)) = (x : Int) := k1b_of l.length j x hjl hx hm
 rw [show ((n, j, f) : Nat × Nat × Bool).2.1 = j from rfl, show ((n, j, f) : Nat × Nat × Bool).1 = n from rfl, hx]
 clear hx
 by_cases hb : x < n
 ·have kb : decide ((x : Int) < (n : Int)) = true := decide_eq_true (by omega)
  rw [if_pos hb]
  go_enter Tryz.func61, Tryz.ntmps61
  go_wp2_with (first | (go_at_call 60; (with_reducible refine C.out.mono ?_); rintro e w1 ⟨rfl, hx⟩; have HX := hid hx; obtain ⟨d0, d1, d2, z1, z2⟩ := hx.k.rbcells; clear hx))
  go_quiet (fail)
  go_wp2_with fail
  go_ret
  exact ⟨rfl, (HX.out.below (below_drewN (Below.refl _ _) _)).set (i := 2) _⟩
 ·have kb : decide ((x : Int) < (n : Int)) = false := decide_eq_false (by omega)
  rw [if_neg hb]
  go_enter Tryz.func61, Tryz.ntmps61
  go_wp2_with (first | (go_at_call 60; (with_reducible refine C.out.mono ?_); rintro e w1 ⟨rfl, hx⟩; have HX := hid hx; obtain ⟨d0, d1, d2, z1, z2⟩ := hx.k.rbcells; clear hx))
  go_quiet (fail)
  go_wp2_with fail
  go_ret
  exact ⟨rfl, HX.out.below (below_drewN (Below.refl _ _) _)⟩
end
end
section
def rnatI (l : List UInt8) (i : Nat) (bad : Bool) : Int × Nat × Bool := (((natL l i bad).1 : Nat), (natL l i bad).2)
/-- an instruction, read by the reference -/
def insnR (l : List UInt8) (i : Nat) (bad : Bool) : In × Nat × Bool :=
 let s := rnatI l i bad
 let ra := rsigL l s.2.1 s.2.2
 let rb := rsigL l ra.2.1 ra.2.2
 let rc := rsigL l rb.2.1 rb.2.2
 let rn := rcntL l rc.2.1 rc.2.2
 let L := listL (rsigL l) rn.1 rn.2.1 rn.2.2
 let rm := rcntL l L.2.1 L.2.2
 let V := listL (rnatI l) rm.1 rm.2.1 rm.2.2
 (⟨s.1, ra.1, rb.1, rc.1, L.1, V.1⟩, V.2)
theorem rnatI_le (l : List UInt8) (i : Nat) (b : Bool) (h : i ≤ l.length) : (rnatI l i b).2.1 ≤ l.length := natL_le l i b h
theorem insnR_le (l : List UInt8) (i : Nat) (b : Bool) (h : i ≤ l.length) : (insnR l i b).2.1 ≤ l.length := by
 unfold insnR
 dsimp only
 refine listL_le (fun i b hi => rnatI_le l i b hi) _ _ _ ?_
 refine rcntL_le l _ _ ?_
 refine listL_le (fun i b hi => rsigL_le l i b hi) _ _ _ ?_
 refine rcntL_le l _ _ ?_
 exact rsigL_le l _ _ (rsigL_le l _ _ (rsigL_le l _ _ (rnatI_le l _ _ h)))
/-- within the reading of an instruction: the reader, the result's box, the instruction's box -/
structure RMt (w W : World) (p : Nat) (sl : Value) (i : Nat) (bad : Bool) (m : Nat) (o : Obj) : Prop where
 b : BxAt w W p (rbBlk sl i bad)
 r : KAt W w.heap.size (xBlk 0)
 e : KAt W m o
 h : w.heap.size ≤ m
 hp : p < w.heap.size
theorem RMt.call {w W V : World} {p : Nat} {sl : Value} {i j m : Nat} {bad bad' : Bool} {o : Obj} (h : RMt w W p sl i bad m o) (k : BxAt W V p (rbBlk sl j bad')) : RMt w V p sl j bad' m o := by
 have h1 := h.h
 have h2 := h.hp
 exact ⟨h.b.trans k, k.blk h.r (by omega), k.blk h.e (by omega), h1, h2⟩
theorem RMt.below {w W V : World} {p : Nat} {sl : Value} {i m : Nat} {bad : Bool} {o : Obj} (h : RMt w W p sl i bad m o) (hb : Below W.heap.size W V) : RMt w V p sl i bad m o :=
 ⟨h.b.below hb, h.r.below hb, h.e.below hb, h.h, h.hp⟩
theorem RMt.box {w W : World} {p : Nat} {sl : Value} {i m : Nat} {bad : Bool} {o : Obj} (h : RMt w W p sl i bad m o) (q : Obj) : RMt w (W.alloc q) p sl i bad W.heap.size q := by
 have hb : Below W.heap.size W (W.alloc q) := (Below.refl _ _).alloc (Nat.le_refl _) q
 exact ⟨h.b.below hb, h.r.below hb, KAt.new _ _, h.b.be.size, h.hp⟩
theorem RMt.low {w W V : World} {p : Nat} {sl : Value} {i m B : Nat} {bad : Bool} {o : Obj} (h : RMt w W p sl i bad m o) (hb : Below B W V) (hm : m < B) : RMt w V p sl i bad m o := by
 have h1 := h.h
 have h2 := h.hp
 exact ⟨h.b.lowG hb (by omega) (by omega), ⟨by rw [hb.block _ (by omega)]; exact h.r.x⟩, ⟨by rw [hb.block _ hm]; exact h.e.x⟩, h1, h2⟩
/-- and its own row of numbers -/
structure RLt (w W : World) (p : Nat) (sl : Value) (i : Nat) (bad : Bool) (m : Nat) (o : Obj) (base : Nat) (v : Value) (L : List Int) : Prop where
 d : RMt w W p sl i bad m o
 o : W.ownsRow base 3 1 v L.length (ints L)
 h : m < base
 hb : base ≤ W.heap.size
 hr : w.heap.size < m
theorem RLt.call {w W V : World} {p : Nat} {sl : Value} {i j m base : Nat} {bad bad' : Bool} {o : Obj} {v : Value} {L : List Int} (h : RLt w W p sl i bad m o base v L) (k : BxAt W V p (rbBlk sl j bad')) : RLt w V p sl j bad' m o base v L := by
 have h1 := h.h
 have h2 := h.d.h
 have h3 := h.d.hp
 exact ⟨h.d.call k, row_bxG h.o (by omega) k, h.h, Nat.le_trans h.hb k.be.size, h.hr⟩
theorem RLt.below {w W V : World} {p : Nat} {sl : Value} {i m base : Nat} {bad : Bool} {o : Obj} {v : Value} {L : List Int} (h : RLt w W p sl i bad m o base v L) (hb : Below W.heap.size W V) : RLt w V p sl i bad m o base v L :=
 ⟨h.d.below hb, row_below h.o hb, h.h, Nat.le_trans h.hb hb.size, h.hr⟩
theorem RLt.start {w W : World} {p : Nat} {sl : Value} {i m : Nat} {bad : Bool} {o : Obj} (h : RMt w W p sl i bad m o) (hr : w.heap.size < m) : RLt w W p sl i bad m o W.heap.size (.slice none 0 0) [] :=
 ⟨h, World.ownsRow_nil _ _ _ _, heap_lt h.e.x, Nat.le_refl _, hr⟩
theorem RLt.put4 {w W : World} {p : Nat} {sl : Value} {i m base : Nat} {bad : Bool} {op a b c : Int} {v v4 v5 : Value} {L : List Int} (h : RLt w W p sl i bad m (xvBlk op a b c v4 v5) base v L) (u : Value) : RLt w (W.setCell ⟨m, 4, none⟩ u) p sl i bad m (xvBlk op a b c u v5) base v L := by
 have h1 := h.hr
 have h2 := h.d.hp
 exact ⟨⟨h.d.b.put h2 ⟨m, 4, none⟩ h.d.h (by show m ≠ p; omega) u, h.d.r.put ⟨m, 4, none⟩ (by show w.heap.size ≠ m; omega) u, ⟨heap_setCell_same (i := 4) _ _ _ _ u h.d.e.x⟩, h.d.h, h2⟩, ownsRow_setCell_below h.o (a := ⟨m, 4, none⟩) h.h u, h.h, by simpa [World.setCell] using h.hb, h1⟩
theorem RLt.put5 {w W : World} {p : Nat} {sl : Value} {i m base : Nat} {bad : Bool} {op a b c : Int} {v v4 v5 : Value} {L : List Int} (h : RLt w W p sl i bad m (xvBlk op a b c v4 v5) base v L) (u : Value) : RLt w (W.setCell ⟨m, 5, none⟩ u) p sl i bad m (xvBlk op a b c v4 u) base v L := by
 have h1 := h.hr
 have h2 := h.d.hp
 exact ⟨⟨h.d.b.put h2 ⟨m, 5, none⟩ h.d.h (by show m ≠ p; omega) u, h.d.r.put ⟨m, 5, none⟩ (by show w.heap.size ≠ m; omega) u, ⟨heap_setCell_same (i := 5) _ _ _ _ u h.d.e.x⟩, h.d.h, h2⟩, ownsRow_setCell_below h.o (a := ⟨m, 5, none⟩) h.h u, h.h, by simpa [World.setCell] using h.hb, h1⟩
/-- a number put behind the row -/
theorem step_numR {w W : World} {p : Nat} {sl : Value} {i m base : Nat} {bad : Bool} {o' : Obj} {v : Value} {L : List Int} {z : Int} {T : TypeId} {ops : Array Oper} {o : Oper} {a : Act} {K : Act → World → Prop} {Q : Exit → Act → World → Prop} {E : Prop}
  (hC : RLt w W p sl i bad m o' base v L) (hk : L.length ≤ 1000000000) (hgd : o.guard = none) (s x : Operand) (ho : o.op = .call { callee := .builtin .append, args := #[s, x], argTypes := #[56, 56] })
  (hs : a.eval s = v) (hx : a.eval x = .slice (some ⟨W.heap.size, 0, none⟩) 1 1)
  (h : ∀ g k cap V, RLt w V p sl i bad m o' base (.slice (some ⟨g, 0, none⟩) k cap) (L ++ [z]) → Below base W V → K (a.put o.dst (.slice (some ⟨g, 0, none⟩) k cap)) V) :
  if Region.wanted o (yielded ops a.tmps) = true then Oper.wp Tryz.prog o a (W.alloc (.cells #[.int .i64 z] T)) K Q else E := by
 obtain ⟨i0, hi, hz0, hz1, hz2⟩ := info_parts infoInt
 have hm := hC.h
 have hb0 : Below W.heap.size W (W.alloc (.cells #[.int .i64 z] T)) := (Below.refl _ _).alloc (Nat.le_refl _) _
 have hown1 := row_below hC.o hb0
 refine step_append_lies _ hgd s x 56 ho base 3 i0 (.int .i64 0) 1 8 Tryz.underlying56 hi hz0 hz1 hz2 rfl (by decide) v L.length (ints L) hs hown1 ⟨W.heap.size, 0, none⟩ 1 1 [.int .i64 z] hx rfl (World.news_of_block (heap_alloc_new _ _)) (by intro u hu; simp at hu; subst hu; rfl) (by decide) (by unfold maxLen; omega) (by omega) (Nat.le_trans hC.hb hb0.size) _ rfl ?_
 intro g cap V k1 k2 _ _
 have hbe : Below base W V := (hb0.mono hC.hb).trans ((Below.refl base _).grown k2 (Nat.le_trans hC.hb hb0.size) (fun j hj => (hown1.lt j hj).1))
 exact h _ _ _ V ⟨hC.d.low hbe hm, by simpa [ints] using k1, hm, Nat.le_trans hC.hb hbe.size, hC.hr⟩ hbe
section
variable (p : Nat) (a : Option Addr) (l : List UInt8) (cap i0 : Nat) (bad : Bool) (w0 w : World) (hk : KAt w p (rbBlk (.slice a l.length cap) i0 bad)) (hB : BysAt w0 a l) (h0 : w0.heap.size ≤ p) (hb0 : Below w0.heap.size w0 w) (hi : i0 ≤ l.length) (hl : l.length ≤ 16777216)
include hk hB h0 hb0 hi hl
set_option maxHeartbeats 4000000 in
set_option maxRecDepth 8000 in
theorem rinsn_rd :
  Calls Tryz.prog 62 #[.pointer (some ⟨p, 0, none⟩)] w fun x w' => ∃ la lc va vc, x = .returned (.agg #[.int .i64 (insnR l i0 bad).1.op, .int .i64 (insnR l i0 bad).1.a, .int .i64 (insnR l i0 bad).1.b, .int .i64 (insnR l i0 bad).1.c, .slice la (insnR l i0 bad).1.l.length lc, .slice va (insnR l i0 bad).1.lv.length vc]) ∧ BxAt w w' p (rbBlk (.slice a l.length cap) (insnR l i0 bad).2.1 (insnR l i0 bad).2.2) ∧ IntR w' w.heap.size w'.heap.size la (insnR l i0 bad).1.l ∧ IntR w' w.heap.size w'.heap.size va (insnR l i0 bad).1.lv := by
 have hp := heap_lt hk.x
 have CS := hid (fun i b W (h1 : BxAt w W p (rbBlk (.slice a l.length cap) i b)) h2 => rnat_rd p a l cap i b w0 W h1.k hB h0 (hb0.trans (h1.be.mono h0)) h2)
 have CG := hid (fun i b W (h1 : BxAt w W p (rbBlk (.slice a l.length cap) i b)) h2 => rsigned_rd p a l cap i b w0 W h1.k hB h0 (hb0.trans (h1.be.mono h0)) h2)
 have CC := hid (fun i b W (h1 : BxAt w W p (rbBlk (.slice a l.length cap) i b)) h2 => rcount_rd p a l cap i b w0 W h1.k hB h0 (hb0.trans (h1.be.mono h0)) h2)
 have M0 := hid (show RMt w (w.alloc (xBlk 0)) p (.slice a l.length cap) i0 bad w.heap.size (xBlk 0) from ⟨(BxAt.start hk).below ((Below.refl _ _).alloc (Nat.le_refl _) _), KAt.new _ _, KAt.new _ _, Nat.le_refl _, hp⟩)
 unfold insnR
 obtain ⟨s, hs⟩ : ∃ s, rnatI l i0 bad = s := ⟨_, rfl⟩
 obtain ⟨ra, hra⟩ : ∃ s', rsigL l s.2.1 s.2.2 = s' := ⟨_, rfl⟩
 obtain ⟨rb, hrb⟩ : ∃ s', rsigL l ra.2.1 ra.2.2 = s' := ⟨_, rfl⟩
 obtain ⟨rc, hrc⟩ : ∃ s', rsigL l rb.2.1 rb.2.2 = s' := ⟨_, rfl⟩
 obtain ⟨rn, hrn⟩ : ∃ s', rcntL l rc.2.1 rc.2.2 = s' := ⟨_, rfl⟩
 have l0 : s.2.1 ≤ l.length := by rw [← hs]; exact natL_le l i0 bad hi
 have l1 : ra.2.1 ≤ l.length := by rw [← hra]; exact rsigL_le l _ _ l0
 have l2 : rb.2.1 ≤ l.length := by rw [← hrb]; exact rsigL_le l _ _ l1
 have l3 : rc.2.1 ≤ l.length := by rw [← hrc]; exact rsigL_le l _ _ l2
 have l4 : rn.2.1 ≤ l.length := by rw [← hrn]; exact rcntL_le l _ _ l3
 have l5 : rn.1 ≤ l.length := by have := rcntL_fit l rc.2.1 rc.2.2; rw [hrn] at this; omega
 simp only [hs, hra, hrb, hrc, hrn]
 have C0 := hid (fun W h1 => (CS.out i0 bad W h1 hi))
 have C1 := hid (fun W h1 => (CG.out s.2.1 s.2.2 W h1 l0))
 have C2 := hid (fun W h1 => (CG.out ra.2.1 ra.2.2 W h1 l1))
 have C3 := hid (fun W h1 => (CG.out rb.2.1 rb.2.2 W h1 l2))
 have C4 := hid (fun W h1 => (CC.out rc.2.1 rc.2.2 W h1 l3))
 rw [hra] at C1
 rw [hrb] at C2
 rw [hrc] at C3
 rw [hrn] at C4
 have CS0 := hid (show ((natL l i0 bad).1 : Int) = s.1 ∧ (natL l i0 bad).2 = s.2 by rw [← hs]; exact ⟨rfl, rfl⟩)
 rw [CS0.out.1, CS0.out.2] at C0
 clear hk hB hb0 hi hs hra hrb hrc hrn CS0
 go_enter Tryz.func62, Tryz.ntmps62
 go_wp2_with (first
  | (go_at_call 60; (refine (C0.out _ M0.out.b).mono ?_); rintro e w1 ⟨rfl, h1⟩; have M1 := hid (M0.out.call h1); clear M0 h1)
  | (go_at_call 118; (with_reducible refine (C1.out _ M1.out.b).mono ?_); rintro e w2 ⟨rfl, h1⟩; have M2 := hid (M1.out.call h1); clear M1 h1)
  | (go_at_call 118; (with_reducible refine (C2.out _ M2.out.b).mono ?_); rintro e w3 ⟨rfl, h1⟩; have M3 := hid (M2.out.call h1); clear M2 h1)
  | (go_at_call 118; (with_reducible refine (C3.out _ M3.out.b).mono ?_); rintro e w4 ⟨rfl, h1⟩; have HM := hid (heap_lt (M3.out.call h1).r.x); have M4 := hid ((M3.out.call h1).box (xvBlk s.1 ra.1 rb.1 rc.1 (.slice none 0 0) (.slice none 0 0))); clear M3 h1)
  | (go_at_call 61; (refine (C4.out _ M4.out.b).mono ?_); rintro e w5 ⟨rfl, h1⟩; have M5 := hid (M4.out.call h1); clear M4 h1))
 obtain ⟨m, hm⟩ : ∃ m, w4.heap.size = m := ⟨_, rfl⟩
 rw [hm] at M5 HM ⊢
 have S5 := hid (RLt.start M5.out HM.out)
 obtain ⟨B5, hB5⟩ : ∃ B, w5.heap.size = B := ⟨_, rfl⟩
 rw [hB5] at S5
 clear M5 hm hB5
 have HRN := hid l5
 go_loopw [5] (fun v5 wr => ∃ (k i : Nat) (b : Bool) (v : Value) (M : List Int), v5 = .int .i64 (k : Int) ∧ i ≤ l.length ∧ (k ≤ rn.1 ∧ M.length = k) ∧ RLt w wr p (.slice a l.length cap) i b m (xvBlk s.1 ra.1 rb.1 rc.1 v (.slice none 0 0)) B5 v M ∧ listL (rsigL l) rn.1 rn.2.1 rn.2.2 = (M ++ (listL (rsigL l) (rn.1 - k) i b).1, (listL (rsigL l) (rn.1 - k) i b).2)) (fun v5 _ => rn.1 - (intOf v5).toNat)
 case atStart => exact ⟨0, rn.2.1, rn.2.2, _, [], rfl, l4, ⟨Nat.zero_le _, rfl⟩, S5.out, rfl⟩
 case round =>
  clear S5 l0 l1 l2 l3 l4 l5
  obtain ⟨k, i, b, v, M, rfl, hi, hn, hS, he⟩ := hrel
  have HE := hid he
  have S := hid hS
  have HN := hid hn
  have hk1 := hn.1
  have hrn := HRN.out
  obtain ⟨x0, x1, x2, x3, x4, x5, z4, z5⟩ := hS.d.e.xv
  obtain ⟨d0, d1, d2, -, -⟩ := hS.d.b.k.rbcells
  clear he
  by_cases hx : k < rn.1 ∧ b = false
  ·obtain ⟨hn0, rfl⟩ := hx
   obtain ⟨n, hnk⟩ : ∃ n, rn.1 - k = n + 1 := ⟨rn.1 - k - 1, by omega⟩
   have HNK := hid (show rn.1 - (k + 1) = n by omega)
   rw [hnk] at HE
   have hkb : k < 16777216 := by omega
   clear hS hnk hn
   have k0 : decide ((k : Int) < (rn.1 : Int)) = true := decide_eq_true (by omega)
   obtain ⟨r, hr⟩ : ∃ r, rsigL l i false = r := ⟨_, rfl⟩
   have lr : r.2.1 ≤ l.length := by rw [← hr]; exact rsigL_le l _ _ hi
   have CN := hid (fun W h1 => CG.out i false W h1 hi)
   have HE2 := hid (show listL (rsigL l) rn.1 rn.2.1 rn.2.2 = (M ++ [r.1] ++ (listL (rsigL l) n r.2.1 r.2.2).1, (listL (rsigL l) n r.2.1 r.2.2).2) by
    rw [HE.out, listL_succ, hr]; simp)
   rw [hr] at CN
   clear hr
   go_upto_region 6 with (fail)
   go_region_law (first
    | (go_simp; go_at_call 118; refine (CN.out _ (S.out.below (Below.refl _ _).drew).d.b).mono ?_; rintro e w9 ⟨rfl, h1⟩; have S1 := hid ((S.out.below (Below.refl _ _).drew).call h1); have y4 := S1.out.d.e.xv.2.2.2.2.1; have y6 : ∀ o, (w9.alloc o).cell? ⟨m, 4, none⟩ = some v := fun o => (S1.out.below ((Below.refl _ _).alloc (Nat.le_refl _) o)).d.e.xv.2.2.2.2.1)
    | (refine step_numR S1.out (by have := HN.out.2; omega) rfl _ _ rfl rfl rfl ?_; intro g7 k7 c7 V r7 hb7; have y7 := r7.d.e.xv.2.2.2.2.1; have z7 := r7.d.e.xv.2.2.2.2.2.2.1))
   all_goals go_wp2_with fail
   all_goals go_roundw
   all_goals first
    | exact ⟨k + 1, r.2.1, r.2.2, _, M ++ [r.1], rfl, lr, ⟨by omega, by rw [List.length_append, HN.out.2]; rfl⟩, r7.put4 _, by rw [HNK.out]; exact HE2.out⟩
    | (simp only [intOf]; omega)
  ·have hE2 : listL (rsigL l) rn.1 rn.2.1 rn.2.2 = (M, i, b) := by
    rw [HE.out]
    rcases Nat.eq_zero_or_pos (rn.1 - k) with h | h
    ·rw [h, listL_zero]; simp
    ·have hb : b = true := by
      cases b
      ·exact absurd ⟨by omega, rfl⟩ hx
      ·rfl
     rw [hb, listL_bad]; simp
   have kk : ¬ (k < rn.1) ∨ (k < rn.1 ∧ b = true) := by
    rcases Nat.eq_zero_or_pos (rn.1 - k) with h | h
    ·left; omega
    ·right; refine ⟨by omega, ?_⟩
     cases b
     ·exact absurd ⟨by omega, rfl⟩ hx
     ·rfl
   have HE2 := hid hE2
   obtain ⟨hML, ca, cc, rfl, hR⟩ := own_rest hS.o
   have hr1 : m < B5 := hS.h
   have hr2 := hS.hr
   have RR := hid (hR.wide (lo' := m + 1) (by omega) (Nat.le_refl _))
   have HR := hid hr2
   obtain ⟨rm, hrm⟩ : ∃ s', rcntL l i b = s' := ⟨_, rfl⟩
   have l6 : rm.2.1 ≤ l.length := by rw [← hrm]; exact rcntL_le l _ _ hi
   have l7 : rm.1 ≤ l.length := by have := rcntL_fit l i b; rw [hrm] at this; omega
   have C5 := hid (fun W h1 => CC.out i b W h1 hi)
   rw [hrm] at C5
   have HRM := hid hrm
   have HS0 := hid hS.d
   clear hS S HE hE2 hML hR hr1 hr2 hx hrm hn hi
   rcases kk with k0 | ⟨k0, rfl⟩
   all_goals
    go_wp2_with (first
     | (go_at_call 61; (refine (C5.out _ HS0.out.b).mono ?_); rintro e w7 ⟨rfl, h1⟩; have M7 := hid (HS0.out.call h1); have R7 := hid (RR.out.bx h1 (by have := HR.out; have := HS0.out.h; have := HS0.out.hp; omega)); have HZ := hid h1.be.size; clear HS0 RR h1))
    have S7 := hid (RLt.start M7.out HR.out)
    obtain ⟨B7, hB7⟩ : ∃ B, w7.heap.size = B := ⟨_, rfl⟩
    have R8 := hid (R7.out.wide (Nat.le_refl _) (hB7 ▸ HZ.out))
    rw [hB7] at S7
    clear M7 R7 HZ hB7
    have HRM2 := hid l7
    go_loopw [6] (fun v6 wr => ∃ (k i : Nat) (b : Bool) (v : Value) (N : List Int), v6 = .int .i64 (k : Int) ∧ i ≤ l.length ∧ (k ≤ rm.1 ∧ N.length = k) ∧ RLt w wr p (.slice a l.length cap) i b m (xvBlk s.1 ra.1 rb.1 rc.1 (.slice ca M.length cc) v) B7 v N ∧ IntR wr (m + 1) B7 ca M ∧ listL (rnatI l) rm.1 rm.2.1 rm.2.2 = (N ++ (listL (rnatI l) (rm.1 - k) i b).1, (listL (rnatI l) (rm.1 - k) i b).2)) (fun v6 _ => rm.1 - (intOf v6).toNat)
    case atStart => exact ⟨0, rm.2.1, rm.2.2, _, [], rfl, l6, ⟨Nat.zero_le _, rfl⟩, S7.out, R8.out, rfl⟩
    case round =>
     clear S7 R8 l6 l7 d0 d1 d2 x0 x1 x2 x3 x4 x5 z4 z5
     obtain ⟨k, i, b, v, N, rfl, hi, hn, hS, hR, he⟩ := hrel
     have HE := hid he
     have S := hid hS
     have RR := hid hR
     have HN := hid hn
     have hk1 := hn.1
     have hrm := HRM2.out
     obtain ⟨x0, x1, x2, x3, x4, x5, z4, z5⟩ := hS.d.e.xv
     obtain ⟨d0, d1, d2, -, -⟩ := hS.d.b.k.rbcells
     clear he hR
     by_cases hx : k < rm.1 ∧ b = false
     ·obtain ⟨hn0, rfl⟩ := hx
      obtain ⟨n, hnk⟩ : ∃ n, rm.1 - k = n + 1 := ⟨rm.1 - k - 1, by omega⟩
      have HNK := hid (show rm.1 - (k + 1) = n by omega)
      rw [hnk] at HE
      have hkb : k < 16777216 := by omega
      clear hS hnk hn
      have k0 : decide ((k : Int) < (rm.1 : Int)) = true := decide_eq_true (by omega)
      obtain ⟨r, hr⟩ : ∃ r, natL l i false = r := ⟨_, rfl⟩
      have lr : r.2.1 ≤ l.length := by rw [← hr]; exact natL_le l _ _ hi
      have CN := hid (fun W h1 => CS.out i false W h1 hi)
      have HE2 := hid (show listL (rnatI l) rm.1 rm.2.1 rm.2.2 = (N ++ [(r.1 : Int)] ++ (listL (rnatI l) n r.2.1 r.2.2).1, (listL (rnatI l) n r.2.1 r.2.2).2) by
       rw [HE.out, listL_succ]; unfold rnatI; rw [hr]; simp)
      rw [hr] at CN
      clear hr
      go_upto_region 11 with (fail)
      go_region_law (first
       | (go_simp; go_at_call 60; refine (CN.out _ (S.out.below (Below.refl _ _).drew).d.b).mono ?_; rintro e w9 ⟨rfl, h1⟩; have S1 := hid ((S.out.below (Below.refl _ _).drew).call h1); have R1 := hid ((RR.out.low (Below.refl _ _).drew S.out.hb).bx h1 (by have := S.out.hr; have := S.out.d.hp; omega)); have y4 := S1.out.d.e.xv.2.2.2.2.2.1; have y6 : ∀ o, (w9.alloc o).cell? ⟨m, 5, none⟩ = some v := fun o => (S1.out.below ((Below.refl _ _).alloc (Nat.le_refl _) o)).d.e.xv.2.2.2.2.2.1)
       | (refine step_numR S1.out (by have := HN.out.2; omega) rfl _ _ rfl rfl rfl ?_; intro g7 k7 c7 V r7 hb7; have y7 := r7.d.e.xv.2.2.2.2.2.1; have z7 := r7.d.e.xv.2.2.2.2.2.2.2))
      all_goals go_wp2_with fail
      all_goals go_roundw
      all_goals first
       | exact ⟨k + 1, r.2.1, r.2.2, _, N ++ [(r.1 : Int)], rfl, lr, ⟨by omega, by rw [List.length_append, HN.out.2]; rfl⟩, r7.put5 _, (R1.out.low hb7 (Nat.le_refl _)).put _ (Nat.lt_succ_self _) _, by rw [HNK.out]; exact HE2.out⟩
       | (simp only [intOf]; omega)
     ·have hE2 : listL (rnatI l) rm.1 rm.2.1 rm.2.2 = (N, i, b) := by
       rw [HE.out]
       rcases Nat.eq_zero_or_pos (rm.1 - k) with h | h
       ·rw [h, listL_zero]; simp
       ·have hb : b = true := by
         cases b
         ·exact absurd ⟨by omega, rfl⟩ hx
         ·rfl
        rw [hb, listL_bad]; simp
      have kk : ¬ (k < rm.1) ∨ (k < rm.1 ∧ b = true) := by
       rcases Nat.eq_zero_or_pos (rm.1 - k) with h | h
       ·left; omega
       ·right; refine ⟨by omega, ?_⟩
        cases b
        ·exact absurd ⟨by omega, rfl⟩ hx
        ·rfl
      have HE3 := hid hE2
      obtain ⟨hML, va, vc, rfl, hR⟩ := own_rest hS.o
      have R9 := hid (hR.wide (lo' := m + 1) (by have := hS.h; omega) (Nat.le_refl _))
      obtain ⟨y0, y1, y2, y3, y4, y5⟩ := hS.d.r.xcells
      have z0 : wr.frozen? ⟨w.heap.size, 0, none⟩ = false := frozen_of_row _ _ _ _ _ hS.d.r.x
      have z1 : wr.frozen? ⟨w.heap.size, 1, none⟩ = false := frozen_of_row _ _ _ _ _ hS.d.r.x
      have z2 : wr.frozen? ⟨w.heap.size, 2, none⟩ = false := frozen_of_row _ _ _ _ _ hS.d.r.x
      have z3 : wr.frozen? ⟨w.heap.size, 3, none⟩ = false := frozen_of_row _ _ _ _ _ hS.d.r.x
      have z4 : wr.frozen? ⟨w.heap.size, 4, none⟩ = false := frozen_of_row _ _ _ _ _ hS.d.r.x
      have z5 : wr.frozen? ⟨w.heap.size, 5, none⟩ = false := frozen_of_row _ _ _ _ _ hS.d.r.x
      clear hS HE hE2 hML hR hx hn
      rcases kk with k0 | ⟨k0, rfl⟩
      all_goals
       go_wp2_with fail
       have hi' : (Tryz.prog.info? 58).map (·.size) = some 6 := by kernel_rfl
       (try simp only [Exit.inBlock, Exit.then]); refine bodyPost_ret (results_cell_row rfl _ _ w.heap.size 58 _ (0, 0) _ rfl (xv_put S.out.d.r s.1 ra.1 rb.1 rc.1 (.slice ca M.length cc) (.slice va N.length vc)) Tryz.underlying58 rfl hi') rfl ?_
       have hmr := S.out.hr
       have hmb := S.out.h
       have hBz := S.out.hb
       have hmz := S.out.d.hp
       have hzz := heap_lt S.out.d.e.x
       have hX := (((((S.out.d.b.put hp ⟨w.heap.size, 0, none⟩ (Nat.le_refl _) (Nat.ne_of_gt hp) (.int .i64 s.1)).put hp ⟨w.heap.size, 1, none⟩ (Nat.le_refl _) (Nat.ne_of_gt hp) (.int .i64 ra.1)).put hp ⟨w.heap.size, 2, none⟩ (Nat.le_refl _) (Nat.ne_of_gt hp) (.int .i64 rb.1)).put hp ⟨w.heap.size, 3, none⟩ (Nat.le_refl _) (Nat.ne_of_gt hp) (.int .i64 rc.1)).put hp ⟨w.heap.size, 4, none⟩ (Nat.le_refl _) (Nat.ne_of_gt hp) (.slice ca M.length cc)).put hp ⟨w.heap.size, 5, none⟩ (Nat.le_refl _) (Nat.ne_of_gt hp) (.slice va N.length vc)
       have hp6 : ∀ {lo hi : Nat} {a : Option Addr} {L : List Int}, IntR wr lo hi a L → w.heap.size < lo → IntR ((((((wr.setCell ⟨w.heap.size, 0, none⟩ (.int .i64 s.1)).setCell ⟨w.heap.size, 1, none⟩ (.int .i64 ra.1)).setCell ⟨w.heap.size, 2, none⟩ (.int .i64 rb.1)).setCell ⟨w.heap.size, 3, none⟩ (.int .i64 rc.1)).setCell ⟨w.heap.size, 4, none⟩ (.slice ca M.length cc)).setCell ⟨w.heap.size, 5, none⟩ (.slice va N.length vc)) lo hi a L :=
        fun h hl => (((((h.put ⟨_, 0, none⟩ hl _).put ⟨_, 1, none⟩ hl _).put ⟨_, 2, none⟩ hl _).put ⟨_, 3, none⟩ hl _).put ⟨_, 4, none⟩ hl _).put ⟨_, 5, none⟩ hl _
       rw [HE2.out]
       simp only []
       rw [HRM.out, HE3.out]
       exact ⟨ca, cc, va, vc, rfl, hX, (hp6 RR.out (by omega)).wide (by omega) (by simp [World.setCell]; exact hBz), (hp6 R9.out (by omega)).wide (by omega) (by simp [World.setCell])⟩
end
end
end Go.Proofs.YtokjkligechcoaaGreatDoor
