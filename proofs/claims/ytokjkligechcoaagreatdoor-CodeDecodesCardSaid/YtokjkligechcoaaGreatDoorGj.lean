/- Walks of layer 16: the reader of bytes, at any bytes. -/
import Derived.Test.YtokjkligechcoaaGreatDoorLi
import Derived.Test.YtokjkligechcoaaGreatDoorDv
set_option linter.unusedVariables false
namespace Go.Proofs.YtokjkligechcoaaGreatDoor
open _root_.Go.Lib (hid)
open Go.RowKit
attribute [local go_sem] ext_mk size_mk toList_mk get_mk take_drop_len take_tail_len ByteArray.mk_append_mk List.append_toArray
/-- a number in groups of seven bits, read: f: how many groups may follow; at: where; n: what was read. The number; where the reader stands; is it none? -/
def plainF (l : List UInt8) : Nat → Nat → Nat → Nat × Nat × Bool
 | 0, at', _ => (0, at', true)
 | f + 1, at', n =>
  if l.length ≤ at' then (0, at', true)
  else if f = 0 ∧ 1 < (l.getD at' 0).toNat then (0, at' + 1, true)
  else if (l.getD at' 0).toNat < 128 then (n + (l.getD at' 0).toNat % 128 * 2 ^ (7 * (9 - f)), at' + 1, decide ((l.getD at' 0).toNat = 0 ∧ f < 9))
  else plainF l f (at' + 1) (n + (l.getD at' 0).toNat % 128 * 2 ^ (7 * (9 - f)))
def plainL (l : List UInt8) (at' : Nat) : Nat × Nat × Bool := plainF l 10 at' 0
theorem plainF_le (l : List UInt8) : ∀ f at' n, at' ≤ l.length → (plainF l f at' n).2.1 ≤ l.length := by
 intro f
 induction f with
 | zero => intro a n h; exact h
 | succ f ih =>
  intro a n h
  unfold plainF
  split
  ·exact h
  ·split
   ·show a + 1 ≤ _; omega
   ·split
    ·show a + 1 ≤ _; omega
    ·exact ih _ _ (by omega)
theorem plainF_lt (l : List UInt8) : ∀ f at' n, f ≤ 10 → n < 2 ^ (7 * (10 - f)) → (plainF l f at' n).1 < 18446744073709551616 := by
 intro f
 induction f with
 | zero => intro a n _ h; show (0 : Nat) < _; decide
 | succ f ih =>
  intro a n hf hn
  have hc := (l.getD a 0).toNat_lt
  have hp : n + (l.getD a 0).toNat % 128 * 2 ^ (7 * (9 - f)) < 2 ^ (7 * (10 - f)) := by
   have e : 7 * (10 - f) = 7 * (9 - f) + 7 := by omega
   rw [show 7 * (10 - (f + 1)) = 7 * (9 - f) by omega] at hn
   rw [e, Nat.pow_add]
   have : (l.getD a 0).toNat % 128 < 128 := Nat.mod_lt _ (by decide)
   have h2 : (l.getD a 0).toNat % 128 * 2 ^ (7 * (9 - f)) ≤ 127 * 2 ^ (7 * (9 - f)) := Nat.mul_le_mul_right _ (by omega)
   have h3 : (2 : Nat) ^ 7 = 128 := rfl
   rw [h3]
   omega
  unfold plainF
  split
  ·show (0 : Nat) < _; decide
  ·split
   ·show (0 : Nat) < _; decide
   ·rename_i hbig
    split
    ·show n + _ < _
     by_cases h0 : f = 0
     ·subst h0
      have hc1 : (l.getD a 0).toNat ≤ 1 := by
       have := fun q => hbig ⟨rfl, q⟩
       omega
      have h2 : (l.getD a 0).toNat % 128 * 2 ^ (7 * (9 - 0)) ≤ 1 * 2 ^ 63 := Nat.mul_le_mul_right _ (by omega)
      have hn2 : n < 2 ^ 63 := hn
      have h3 : (2 : Nat) ^ 63 = 9223372036854775808 := rfl
      omega
     ·refine Nat.lt_of_lt_of_le hp ?_
      have : 2 ^ (7 * (10 - f)) ≤ 2 ^ 63 := Nat.pow_le_pow_right (by decide) (by omega)
      have h3 : (2 : Nat) ^ 63 = 9223372036854775808 := rfl
      omega
    ·exact ih _ _ (by omega) hp
theorem plainL_lt (l : List UInt8) (at' : Nat) : (plainL l at').1 < 18446744073709551616 := plainF_lt l 10 at' 0 (Nat.le_refl _) (by decide)
theorem plainL_le (l : List UInt8) (at' : Nat) (h : at' ≤ l.length) : (plainL l at').2.1 ≤ l.length := plainF_le l 10 at' 0 h
/-- the reader's box -/
def rdBlk (v : Value) (at' : Nat) (bad : Bool) : Obj := .cells #[v, .int .i64 at', .bool bad] 108 (0, 0)
theorem KAt.rdcells {W : World} {p : Nat} {v : Value} {i : Nat} {bad : Bool} (h : KAt W p (rdBlk v i bad)) : W.cell? ⟨p, 0, none⟩ = some v ∧ W.cell? ⟨p, 1, none⟩ = some (.int .i64 i) ∧ W.cell? ⟨p, 2, none⟩ = some (.bool bad) ∧ W.frozen? ⟨p, 1, none⟩ = false ∧ W.frozen? ⟨p, 2, none⟩ = false := by
 refine ⟨?_, ?_, ?_, frozen_of_row _ _ _ _ _ h.x, frozen_of_row _ _ _ _ _ h.x⟩
 all_goals (rw [cell_of_row _ _ _ _ _ _ h.x]; rfl)
theorem bys_get {W : World} {a : Option Addr} {l : List UInt8} (h : BysAt W a l) {i : Nat} (hi : i < l.length) : ∃ b off, a = some ⟨b, off, none⟩ ∧ W.cell? ⟨b, off + i, none⟩ = some (.int .u8 ((l.getD i 0).toNat : Int)) := by
 rcases h.2 with h | ⟨b, off, ha, hb, hc⟩
 ·subst h; simp at hi
 ·exact ⟨b, off, ha, hc i hi⟩
theorem and127 : ∀ c : Nat, c < 256 → bits .and .u8 (c : Int) 127 = ((c % 128 : Nat) : Int) := by decide +kernel
set_option maxHeartbeats 4000000 in
set_option maxRecDepth 8000 in
theorem plain_rd (p : Nat) (a : Option Addr) (l : List UInt8) (cap i0 : Nat) (bad : Bool) (w0 w : World) (hk : KAt w p (rdBlk (.slice a l.length cap) i0 bad)) (hB : BysAt w0 a l) (h0 : w0.heap.size ≤ p) (hb0 : Below w0.heap.size w0 w) (hi : i0 ≤ l.length) :
  Calls Tryz.prog 116 #[.pointer (some ⟨p, 0, none⟩)] w fun x w' => x = .returned (.int .u64 ((plainL l i0).1 : Nat)) ∧ BxAt w w' p (rdBlk (.slice a l.length cap) (plainL l i0).2.1 (bad || (plainL l i0).2.2)) := by
 have B0 := hid (BxAt.start hk)
 have HB := hid hB
 have HB0 := hid hb0
 have hm : (l.length : Int) ≤ 9223372036854775807 := by have := hB.1; unfold maxLen at this; omega
 clear hk hB hb0
 go_enter Tryz.func116, Tryz.ntmps116
 go_wp2_with fail
 go_loopw [3, 4] (fun v3 v4 wr => ∃ f i n : Nat, f ≤ 10 ∧ v3 = .int .u64 (n : Int) ∧ v4 = .int .i64 ((7 * (10 - f) : Nat) : Int) ∧ n < 2 ^ (7 * (10 - f)) ∧ i ≤ l.length ∧ plainL l i0 = plainF l f i n ∧ BxAt w wr p (rdBlk (.slice a l.length cap) i bad)) (fun _ v4 _ => 70 - (intOf v4).toNat)
 case atStart => exact ⟨10, i0, 0, Nat.le_refl _, rfl, rfl, by decide, hi, rfl, B0.out⟩
 case round =>
  clear hi
  obtain ⟨f, i, n, hf, rfl, rfl, hn, hi, he, hBx⟩ := hrel
  have HE := hid he
  have HX := hid hBx
  obtain ⟨d0, d1, d2, z1, z2⟩ := hBx.k.rdcells
  clear he hBx
  cases f with
  | zero =>
   have k0 : decide (((7 * (10 - 0) : Nat) : Int) < 64) = false := by decide
   go_wp2_with fail
   go_ret
   exact ⟨by rw [HE.out]; rfl, by rw [HE.out]; show BxAt w _ p (rdBlk (.slice a l.length cap) i (bad || true)); rw [Bool.or_true]; exact HX.out.set (i := 2) _⟩
  | succ f =>
   obtain ⟨sh, hsh⟩ : ∃ sh, 7 * (10 - (f + 1)) = sh := ⟨_, rfl⟩
   rw [hsh] at hn ⊢
   have hsh2 : sh = 7 * (9 - f) := by omega
   have hsf : sh ≤ 63 := by omega
   have hs63 : sh = 63 ↔ f = 0 := by omega
   have k0 : decide ((sh : Int) < 64) = true := decide_eq_true (by omega)
   have HS := hid hsh2
   have HF := hid hf
   by_cases hle : l.length ≤ i
   ·have k1 : decide ((l.length : Int) ≤ (i : Int)) = true := decide_eq_true (by omega)
    have HU := hid (show plainF l (f + 1) i n = (0, i, true) by unfold plainF; rw [if_pos hle])
    clear hsh hsh2 hs63 hf
    go_wp2_with fail
    go_quiet (fail)
    go_wp2_with fail
    go_ret
    exact ⟨by rw [HE.out, HU.out]; rfl, by rw [HE.out, HU.out]; show BxAt w _ p (rdBlk (.slice a l.length cap) i (bad || true)); rw [Bool.or_true]; exact (HX.out.below (below_drewN (Below.refl _ _) _)).set (i := 2) _⟩
   ·have k1 : decide ((l.length : Int) ≤ (i : Int)) = false := decide_eq_false (by omega)
    have k1b : decide ((i : Int) < (l.length : Int)) = true := decide_eq_true (by omega)
    obtain ⟨b, off, rfl, hc⟩ := bys_get (HB.out.below (HB0.out.trans (HX.out.be.mono h0))) (show i < l.length by omega)
    obtain ⟨c, hcc⟩ : ∃ c, (l.getD i 0).toNat = c := ⟨_, rfl⟩
    have hc256 : c < 256 := by rw [← hcc]; exact (l.getD i 0).toNat_lt
    rw [hcc] at hc
    have HC := hid hcc
    have k2 : IntKind.i64.wrap ((i : Int) + 1) = (i : Int) + 1 := IntWalk.i64_in _ (by omega)
    have hle' : ¬ l.length ≤ i := hle
    by_cases hbig : f = 0 ∧ 1 < c
    ·have HU := hid (show plainF l (f + 1) i n = (0, i + 1, true) by unfold plainF; rw [if_neg hle', if_pos (by rw [HC.out]; exact hbig)])
     have k3 : ((sh : Int) == 63) = true := by rw [beq_iff_eq]; omega
     have k4 : decide ((1 : Int) < (c : Int)) = true := decide_eq_true (by omega)
     clear hsh hsh2 hs63 hf hcc hbig
     go_wp2_with fail
     go_quiet (fail)
     go_wp2_with fail
     go_quiet (fail)
     go_wp2_with fail
     go_ret
     exact ⟨by rw [HE.out, HU.out]; rfl, by rw [HE.out, HU.out]; show BxAt w _ p (rdBlk (.slice (some ⟨b, off, none⟩) l.length cap) (i + 1) (bad || true)); rw [Bool.or_true]; exact ((HX.out.below (below_drewN (Below.refl _ _) _)).set (i := 1) _).set (i := 2) _⟩
    ·have hp : n + c % 128 * 2 ^ sh < 18446744073709551616 := by
      have h3 : (2 : Nat) ^ 63 = 9223372036854775808 := rfl
      by_cases h : f = 0
      ·have hs : sh = 63 := hs63.2 h
       have hc1 : c ≤ 1 := by have := fun q => hbig ⟨h, q⟩; omega
       have h2 : c % 128 * 2 ^ sh ≤ 1 * 2 ^ sh := Nat.mul_le_mul_right _ (by omega)
       rw [hs] at hn h2 ⊢
       omega
      ·have h2 : c % 128 * 2 ^ sh ≤ 127 * 2 ^ sh := Nat.mul_le_mul_right _ (by omega)
       have h4 : 2 ^ sh ≤ 2 ^ 56 := Nat.pow_le_pow_right (by decide) (by omega)
       have h5 : (2 : Nat) ^ 56 = 72057594037927936 := rfl
       omega
     have hn2 : n + c % 128 * 2 ^ sh < 2 ^ (sh + 7) := by
      have h2 : c % 128 * 2 ^ sh ≤ 127 * 2 ^ sh := Nat.mul_le_mul_right _ (by omega)
      have h3 : (2 : Nat) ^ (sh + 7) = 128 * 2 ^ sh := by rw [Nat.pow_add, Nat.mul_comm]
      omega
     have ka := and127 c hc256
     have HM := hid (show plainF l (f + 1) i n = if c < 128 then (n + c % 128 * 2 ^ sh, i + 1, decide (c = 0 ∧ f < 9)) else plainF l f (i + 1) (n + c % 128 * 2 ^ sh) by
      rw [HS.out]
      conv => lhs; unfold plainF
      rw [if_neg hle', HC.out, if_neg hbig])
     obtain ⟨m, hmm⟩ : ∃ m, c % 128 = m := ⟨_, rfl⟩
     rw [hmm] at ka hp HM hn2
     have HV := hid (show bits .or .u64 (n : Int) (IntKind.u64.wrap ((m : Int) * 2 ^ sh)) = ((n + m * 2 ^ sh : Nat) : Int) by
      have e1 : ((m : Int) * 2 ^ sh) = ((m * 2 ^ sh : Nat) : Int) := by rw [Int.natCast_mul, Int.natCast_pow]; rfl
      rw [e1, IntWalk.u64_in _ (by omega), u64_or_nat n (m * 2 ^ sh) (by omega) (by omega), Nat.add_comm, Nat.mul_comm m, Nat.two_pow_add_eq_or_of_lt hn, Nat.or_comm])
     have HN := hid hn2
     have HHP := hid hp
     have km : IntKind.u64.wrap (m : Int) = (m : Int) := IntWalk.u64_in _ (by omega)
     clear hp hn2 hmm
     have kk : (f = 0 ∧ ((sh : Int) == 63) = true ∧ decide ((1 : Int) < (c : Int)) = false) ∨ (f ≠ 0 ∧ ((sh : Int) == 63) = false) := by
      by_cases h : f = 0
      ·left; exact ⟨h, by rw [beq_iff_eq]; omega, decide_eq_false (by omega)⟩
      ·right; exact ⟨h, beq_eq_false_iff_ne.2 (by omega)⟩
     by_cases hlt : c < 128
     ·have k5 : decide ((c : Int) < 128) = true := decide_eq_true (by omega)
      have HU := hid (HM.out.trans (if_pos hlt))
      have hq : (bad = true) ∨ (bad = false ∧ ((c : Int) == 0) = false ∧ decide (c = 0 ∧ f < 9) = false) ∨ (bad = false ∧ ((c : Int) == 0) = true ∧ decide ((0 : Int) < (sh : Int)) = decide (c = 0 ∧ f < 9)) := by
       cases bad
       ·right
        by_cases h : c = 0
        ·right; refine ⟨rfl, by simp [h], ?_⟩; rw [Bool.eq_iff_iff]; simp [h]; omega
        ·left; exact ⟨rfl, by simpa using h, by simp [h]⟩
       ·left; rfl
      clear hsh hsh2 hs63 hf hcc hbig
      rcases hq with rfl | ⟨rfl, kz, kf⟩ | ⟨rfl, kz, kf⟩
      ·rcases kk with ⟨_, k63, k1c⟩ | ⟨_, k63⟩
       all_goals
        go_wp2_with fail
        go_quiet (fail)
        go_wp2_with fail
        go_quiet (fail)
        go_wp2_with fail
        go_ret
        exact ⟨by rw [HE.out, HU.out]; exact congrArg (fun z => Ending.returned (Value.int .u64 z)) HV.out, by rw [HE.out, HU.out]; exact ((HX.out.below (below_drewN (Below.refl _ _) _)).set (i := 1) _).set (i := 2) _⟩
      ·have HKF := hid kf
       clear kf
       rcases kk with ⟨_, k63, k1c⟩ | ⟨_, k63⟩
       all_goals
        go_wp2_with fail
        go_quiet (fail)
        go_wp2_with fail
        go_quiet (fail)
        go_wp2_with fail
        go_ret
        exact ⟨by rw [HE.out, HU.out]; exact congrArg (fun z => Ending.returned (Value.int .u64 z)) HV.out, by rw [HE.out, HU.out, HKF.out]; exact ((HX.out.below (below_drewN (Below.refl _ _) _)).set (i := 1) _).set (i := 2) _⟩
      ·obtain ⟨fl, hfl⟩ : ∃ fl, decide (c = 0 ∧ f < 9) = fl := ⟨_, rfl⟩
       rw [hfl] at kf HU
       have HKF := hid (show decide (0 < sh) = fl by rw [← kf, Bool.eq_iff_iff]; simp)
       clear hfl kf
       rcases kk with ⟨_, k63, k1c⟩ | ⟨_, k63⟩
       all_goals
        go_wp2_with fail
        go_quiet (fail)
        go_wp2_with fail
        go_quiet (fail)
        go_wp2_with fail
        go_ret
        exact ⟨by rw [HE.out, HU.out]; exact congrArg (fun z => Ending.returned (Value.int .u64 z)) HV.out, by rw [HE.out, HU.out, ← HKF.out]; exact ((HX.out.below (below_drewN (Below.refl _ _) _)).set (i := 1) _).set (i := 2) _⟩
     ·have k5 : decide ((c : Int) < 128) = false := decide_eq_false (by omega)
      have HU := hid (HM.out.trans (if_neg hlt))
      have m7 : IntKind.i64.wrap ((sh : Int) + 7) = (sh : Int) + 7 := IntWalk.i64_in _ (by omega)
      have HSN := hid (show sh + 7 = 7 * (10 - f) by omega)
      have hf1 : f ≤ 10 := by omega
      clear hsh hsh2 hs63 hf hcc hbig
      rcases kk with ⟨_, k63, k1c⟩ | ⟨_, k63⟩
      all_goals
       go_wp2_with fail
       go_quiet (fail)
       go_wp2_with fail
       go_quiet (fail)
       go_wp2_with fail
       go_roundw
      all_goals first
       | exact ⟨f, i + 1, n + m * 2 ^ sh, hf1, congrArg (fun z => Value.int .u64 z) HV.out, congrArg (fun z => Value.int .i64 z) (by rw [← HSN.out]; omega), by rw [← HSN.out]; exact HN.out, by omega, HE.out.trans HU.out, (HX.out.below (below_drewN (Below.refl _ _) _)).set (i := 1) _⟩
       | (simp only [intOf]; omega)
section
/-- a small number, read: the number; where the reader stands; is it none? -/
def smallL (l : List UInt8) (i : Nat) (bad : Bool) : Nat × Nat × Bool :=
 if 4611686018427387904 < (plainL l i).1 then (0, (plainL l i).2.1, true) else ((plainL l i).1, (plainL l i).2.1, bad || (plainL l i).2.2)
/-- how many there are of what takes so many bytes at least -/
def countL (l : List UInt8) (least i : Nat) (bad : Bool) : Nat × Nat × Bool :=
 if (bad || (plainL l i).2.2) = true ∨ (l.length - (plainL l i).2.1) / least < (plainL l i).1 then (0, (plainL l i).2.1, true) else ((plainL l i).1, (plainL l i).2.1, false)
def unzig (u : Nat) : Int := if u % 2 = 1 then -((u / 2 : Nat) : Int) - 1 else ((u / 2 : Nat) : Int)
def signedL (l : List UInt8) (i : Nat) (bad : Bool) : Int × Nat × Bool := (unzig (plainL l i).1, (plainL l i).2.1, bad || (plainL l i).2.2)
theorem smallL_le (l : List UInt8) (i : Nat) (bad : Bool) (h : i ≤ l.length) : (smallL l i bad).2.1 ≤ l.length := by
 unfold smallL; split <;> exact plainL_le l i h
theorem signedL_le (l : List UInt8) (i : Nat) (bad : Bool) (h : i ≤ l.length) : (signedL l i bad).2.1 ≤ l.length := plainL_le l i h
theorem countL_le (l : List UInt8) (d i : Nat) (bad : Bool) (h : i ≤ l.length) : (countL l d i bad).2.1 ≤ l.length := by
 unfold countL; split <;> exact plainL_le l i h
theorem countL_fit (l : List UInt8) (d i : Nat) (bad : Bool) : (countL l d i bad).1 ≤ (l.length - (countL l d i bad).2.1) / d := by
 unfold countL; split
 ·exact Nat.zero_le _
 ·rename_i h; exact Nat.le_of_not_lt fun q => h (Or.inr q)
section
variable (p : Nat) (a : Option Addr) (l : List UInt8) (cap i0 : Nat) (bad : Bool) (w0 w : World) (hk : KAt w p (rdBlk (.slice a l.length cap) i0 bad)) (hB : BysAt w0 a l) (h0 : w0.heap.size ≤ p) (hb0 : Below w0.heap.size w0 w) (hi : i0 ≤ l.length)
include hk hB h0 hb0 hi
set_option maxHeartbeats 4000000 in
set_option maxRecDepth 8000 in
theorem small_rd :
  Calls Tryz.prog 57 #[.pointer (some ⟨p, 0, none⟩)] w fun x w' => x = .returned (.int .i64 ((smallL l i0 bad).1 : Nat)) ∧ BxAt w w' p (rdBlk (.slice a l.length cap) (smallL l i0 bad).2.1 (smallL l i0 bad).2.2) := by
 have C := hid (plain_rd p a l cap i0 bad w0 w hk hB h0 hb0 hi)
 have hlt := plainL_lt l i0
 unfold smallL
 obtain ⟨q, hq⟩ : ∃ q, plainL l i0 = q := ⟨_, rfl⟩
 rw [hq] at C hlt ⊢
 obtain ⟨n, j, f⟩ := q
 have hlt : n < 18446744073709551616 := hlt
 clear hk hB hb0 hi hq
 have kw : IntKind.u64.wrap (n : Int) = (n : Int) := IntWalk.u64_in _ (by omega)
 by_cases hb : 4611686018427387904 < n
 ·have kb : decide ((4611686018427387904 : Int) < (n : Int)) = true := decide_eq_true (by omega)
  rw [show (if 4611686018427387904 < (n, j, f).1 then ((0 : Nat), (n, j, f).2.1, true) else ((n, j, f).1, (n, j, f).2.1, bad || (n, j, f).2.2)) = (0, j, true) from if_pos hb]
  go_enter Tryz.func57, Tryz.ntmps57
  go_wp2_with (first | (go_at_call 116; (with_reducible refine C.out.mono ?_); rintro e w1 ⟨rfl, hx⟩; have HX := hid hx; obtain ⟨d0, d1, d2, z1, z2⟩ := hx.k.rdcells; clear hx))
  go_ret
  exact ⟨rfl, HX.out.set (i := 2) _⟩
 ·have kb : decide ((4611686018427387904 : Int) < (n : Int)) = false := decide_eq_false (by omega)
  have ki : IntKind.i64.wrap (n : Int) = (n : Int) := IntWalk.i64_in _ (by omega)
  rw [show (if 4611686018427387904 < (n, j, f).1 then ((0 : Nat), (n, j, f).2.1, true) else ((n, j, f).1, (n, j, f).2.1, bad || (n, j, f).2.2)) = (n, j, bad || f) from if_neg hb]
  go_enter Tryz.func57, Tryz.ntmps57
  go_wp2_with (first | (go_at_call 116; (with_reducible refine C.out.mono ?_); rintro e w1 ⟨rfl, hx⟩; have HX := hid hx; obtain ⟨d0, d1, d2, z1, z2⟩ := hx.k.rdcells; clear hx))
  go_ret
  exact ⟨rfl, HX.out⟩
set_option maxHeartbeats 4000000 in
set_option maxRecDepth 8000 in
theorem signed_rd :
  Calls Tryz.prog 117 #[.pointer (some ⟨p, 0, none⟩)] w fun x w' => x = .returned (.int .i64 (signedL l i0 bad).1) ∧ BxAt w w' p (rdBlk (.slice a l.length cap) (signedL l i0 bad).2.1 (signedL l i0 bad).2.2) := by
 have C := hid (plain_rd p a l cap i0 bad w0 w hk hB h0 hb0 hi)
 have hlt := plainL_lt l i0
 unfold signedL
 obtain ⟨q, hq⟩ : ∃ q, plainL l i0 = q := ⟨_, rfl⟩
 rw [hq] at C hlt ⊢
 obtain ⟨n, j, f⟩ := q
 have hlt : n < 18446744073709551616 := hlt
 clear hk hB hb0 hi hq
 obtain ⟨m, hm⟩ : ∃ m, n / 2 = m := ⟨_, rfl⟩
 have kh : ((n : Int) / 2) = (m : Int) := by omega
 have hm2 : m < 9223372036854775808 := by omega
 unfold unzig
 rw [show ((n, j, f) : Nat × Nat × Bool).1 = n from rfl, hm]
 by_cases hb : n % 2 = 1
 ·have ka : bits .and .u64 (n : Int) 1 = 1 := by rw [Lib.u64_and1 _ (by omega) (by omega)]; omega
  have kx : IntKind.i64.wrap (bits .xor .u64 (if IntKind.u64.signed = true then -1 else IntKind.u64.max) (m : Int)) = -(m : Int) - 1 := by
   show IntKind.i64.wrap (bits .xor .u64 IntKind.u64.max (m : Int)) = _
   rw [show IntKind.u64.max = ((2 ^ 64 - 1 : Nat) : Int) by decide, bits_xor_u64_nat _ _ (by decide) (by omega), Lib.xor_ones64 m (by omega), IntKind.wrap_i64]
   omega
  rw [if_pos hb]
  clear hm hlt hm2
  go_enter Tryz.func117, Tryz.ntmps117
  go_wp2_with (first | (go_at_call 116; (with_reducible refine C.out.mono ?_); rintro e w1 ⟨rfl, hx⟩; have HX := hid hx; clear hx))
  go_ret
  exact ⟨rfl, HX.out⟩
 ·have ka : bits .and .u64 (n : Int) 1 = 0 := by rw [Lib.u64_and1 _ (by omega) (by omega)]; omega
  have ki : IntKind.i64.wrap (m : Int) = (m : Int) := IntWalk.i64_in _ (by omega)
  rw [if_neg hb]
  clear hm hlt hm2
  go_enter Tryz.func117, Tryz.ntmps117
  go_wp2_with (first | (go_at_call 116; (with_reducible refine C.out.mono ?_); rintro e w1 ⟨rfl, hx⟩; have HX := hid hx; clear hx))
  go_ret
  exact ⟨rfl, HX.out⟩
set_option maxHeartbeats 4000000 in
set_option maxRecDepth 8000 in
theorem count_rd (d : Nat) (hd : d = 1 ∨ d = 3 ∨ d = 6 ∨ d = 8) :
  Calls Tryz.prog 58 #[.pointer (some ⟨p, 0, none⟩), .int .i64 (d : Nat)] w fun x w' => x = .returned (.int .i64 ((countL l d i0 bad).1 : Nat)) ∧ BxAt w w' p (rdBlk (.slice a l.length cap) (countL l d i0 bad).2.1 (countL l d i0 bad).2.2) := by
 have C := hid (plain_rd p a l cap i0 bad w0 w hk hB h0 hb0 hi)
 have hlt := plainL_lt l i0
 have hjl := plainL_le l i0 hi
 have hm : (l.length : Int) ≤ 9223372036854775807 := by have := hB.1; unfold maxLen at this; omega
 unfold countL
 obtain ⟨q, hq⟩ : ∃ q, plainL l i0 = q := ⟨_, rfl⟩
 rw [hq] at C hlt hjl ⊢
 obtain ⟨n, j, f⟩ := q
 have hlt : n < 18446744073709551616 := hlt
 have hjl : j ≤ l.length := hjl
 clear hk hB hb0 hi hq
 have hd0 : 0 < d := by omega
 obtain ⟨g, hg⟩ : ∃ g, (bad || f) = g := ⟨_, rfl⟩
 rw [show ((n, j, f) : Nat × Nat × Bool).2.2 = f from rfl, hg] at C ⊢
 obtain ⟨x, hx⟩ : ∃ x, l.length - j = x := ⟨_, rfl⟩
 obtain ⟨y, hy⟩ : ∃ y, x / d = y := ⟨_, rfl⟩
 have hdl : y ≤ x := by rw [← hy]; exact Nat.div_le_self _ _
 have k1 : IntKind.i64.wrap ((l.length : Int) - (j : Int)) = (x : Int) := by rw [IntWalk.i64_in _ (by omega)]; omega
 have k2 : IntKind.u64.wrap (x : Int) = (x : Int) := IntWalk.u64_in _ (by omega)
 have k3 : IntKind.u64.wrap (d : Int) = (d : Int) := IntWalk.u64_in _ (by omega)
 have k4 : (x : Int) / (d : Int) = (y : Int) := by rw [← hy]; rfl
 rw [show ((n, j, f) : Nat × Nat × Bool).2.1 = j from rfl, show ((n, j, f) : Nat × Nat × Bool).1 = n from rfl, hx, hy]
 have k5 : ((d : Int) == 0) = false := beq_eq_false_iff_ne.2 (by omega)
 have hyl : y < 9223372036854775808 := by omega
 clear hx hy hm hdl
 cases g with
 | true =>
  rw [show (if true = true ∨ y < n then ((0 : Nat), j, true) else (n, j, false)) = (0, j, true) from if_pos (Or.inl rfl)]
  go_enter Tryz.func58, Tryz.ntmps58
  go_wp2_with (first | (go_at_call 116; (with_reducible refine C.out.mono ?_); rintro e w1 ⟨rfl, hx⟩; have HX := hid hx; obtain ⟨d0, d1, d2, z1, z2⟩ := hx.k.rdcells; clear hx))
  go_quiet (fail)
  go_wp2_with fail
  go_ret
  exact ⟨rfl, (HX.out.below (below_drewN (Below.refl _ _) _)).set (i := 2) _⟩
 | false =>
  by_cases hb : y < n
  ·have kb : decide ((y : Int) < (n : Int)) = true := decide_eq_true (by omega)
   rw [show (if false = true ∨ y < n then ((0 : Nat), j, true) else (n, j, false)) = (0, j, true) from if_pos (Or.inr hb)]
   go_enter Tryz.func58, Tryz.ntmps58
   go_wp2_with (first | (go_at_call 116; (with_reducible refine C.out.mono ?_); rintro e w1 ⟨rfl, hx⟩; have HX := hid hx; obtain ⟨d0, d1, d2, z1, z2⟩ := hx.k.rdcells; clear hx))
   go_quiet (fail)
   go_wp2_with fail
   go_ret
   exact ⟨rfl, (HX.out.below (below_drewN (Below.refl _ _) _)).set (i := 2) _⟩
  ·have kb : decide ((y : Int) < (n : Int)) = false := decide_eq_false (by omega)
   have ki : IntKind.i64.wrap (n : Int) = (n : Int) := IntWalk.i64_in _ (by omega)
   rw [show (if false = true ∨ y < n then ((0 : Nat), j, true) else (n, j, false)) = (n, j, false) from if_neg (by rintro (h | h); exact absurd h (by decide); exact hb h)]
   go_enter Tryz.func58, Tryz.ntmps58
   go_wp2_with (first | (go_at_call 116; (with_reducible refine C.out.mono ?_); rintro e w1 ⟨rfl, hx⟩; have HX := hid hx; obtain ⟨d0, d1, d2, z1, z2⟩ := hx.k.rdcells; clear hx))
   go_quiet (fail)
   go_wp2_with fail
   go_ret
   exact ⟨rfl, HX.out.below (below_drewN (Below.refl _ _) _)⟩
end
end
section
/-- so many numbers, read one behind the other -/
def listL {α : Type} (rd : Nat → Bool → α × Nat × Bool) : Nat → Nat → Bool → List α × Nat × Bool
 | 0, i, bad => ([], i, bad)
 | n + 1, i, bad => if bad then ([], i, true) else ((rd i false).1 :: (listL rd n (rd i false).2.1 (rd i false).2.2).1, (listL rd n (rd i false).2.1 (rd i false).2.2).2)
def smallI (l : List UInt8) (i : Nat) (bad : Bool) : Int × Nat × Bool := (((smallL l i bad).1 : Nat), (smallL l i bad).2)
/-- an instruction, read -/
def insnL (l : List UInt8) (i : Nat) (bad : Bool) : In × Nat × Bool :=
 let s := smallI l i bad
 let a := signedL l s.2.1 s.2.2
 let b := signedL l a.2.1 a.2.2
 let c := signedL l b.2.1 b.2.2
 let n := countL l 1 c.2.1 c.2.2
 let L := listL (signedL l) n.1 n.2.1 n.2.2
 let m := countL l 1 L.2.1 L.2.2
 let V := listL (smallI l) m.1 m.2.1 m.2.2
 (⟨s.1, a.1, b.1, c.1, L.1, V.1⟩, V.2)
/-- a row of numbers at rest, at or above a block, below another -/
def IntR (W : World) (lo hi : Nat) (a : Option Addr) (L : List Int) : Prop :=
 L.length ≤ maxLen ∧ ((a = none ∧ L = []) ∨ ∃ b cs, a = some ⟨b, 0, none⟩ ∧ lo ≤ b ∧ b < hi ∧ W.heap[b]? = some (.cells cs 3 (0, 0)) ∧ ∀ i, i < L.length → cs[i]? = some (.int .i64 (L.getD i 0)))
theorem IntR.nil (W : World) (lo hi : Nat) : IntR W lo hi none [] := ⟨by decide, .inl ⟨rfl, rfl⟩⟩
theorem IntR.keep {W V : World} {lo hi lo' hi' : Nat} {a : Option Addr} {L : List Int} (h : IntR W lo hi a L) (h1 : lo' ≤ lo) (h2 : hi ≤ hi') (k : ∀ b cs, lo ≤ b → b < hi → W.heap[b]? = some (.cells cs 3 (0, 0)) → V.heap[b]? = some (.cells cs 3 (0, 0))) : IntR V lo' hi' a L := by
 obtain ⟨hm, h | ⟨b, cs, q1, q2, q3, q4, q5⟩⟩ := h
 ·exact ⟨hm, .inl h⟩
 ·exact ⟨hm, .inr ⟨b, cs, q1, by omega, by omega, k b cs q2 q3 q4, q5⟩⟩
theorem IntR.at {W : World} {lo hi : Nat} {a : Option Addr} {L : List Int} (h : IntR W lo hi a L) : IntsAt .i64 W a L := by
 obtain ⟨hm, ⟨h1, h2⟩ | ⟨b, cs, h1, -, -, h3, h4⟩⟩ := h
 ·exact ⟨hm, .inl h2⟩
 ·refine ⟨hm, .inr ⟨b, 0, h1, fun i hi => ?_⟩⟩
  rw [Nat.zero_add, cell_of_row _ _ _ _ _ _ h3]
  exact h4 i hi
theorem own_rest {W : World} {base n : Nat} {v : Value} {L : List Int} (h : W.ownsRow base 3 1 v n (ints L)) : n = L.length ∧ ∃ a cap, v = .slice a L.length cap ∧ IntR W base W.heap.size a L := by
 have hn : n = L.length := by have := h.1; simpa [ints] using this.symm
 subst hn
 refine ⟨rfl, ?_⟩
 rcases h.2 with ⟨q, q0⟩ | ⟨g, cap, cur, q, q1, q2, q3, q4, q5, q6⟩
 ·obtain rfl : L = [] := List.length_eq_zero_iff.1 q0
  exact ⟨none, 0, q, IntR.nil _ _ _⟩
 ·refine ⟨_, cap, q, Nat.le_trans q3 q4, .inr ⟨g, cur, rfl, q1, heap_lt q2, q2, fun i hi => ?_⟩⟩
  have e : (cur.toList.take (L.length * 1))[i]? = some (.int .i64 (L.getD i 0)) := by rw [q6]; simp [ints, List.getD, hi]
  rw [List.getElem?_take_of_lt (by omega)] at e
  simpa using e
/-- an instruction's box -/
def xvBlk (op a b c : Int) (v4 v5 : Value) : Obj := .cells #[.int .i64 op, .int .i64 a, .int .i64 b, .int .i64 c, v4, v5] 58 (0, 0)
theorem KAt.xv {W : World} {m : Nat} {op a b c : Int} {v4 v5 : Value} (h : KAt W m (xvBlk op a b c v4 v5)) : W.cell? ⟨m, 0, none⟩ = some (.int .i64 op) ∧ W.cell? ⟨m, 1, none⟩ = some (.int .i64 a) ∧ W.cell? ⟨m, 2, none⟩ = some (.int .i64 b) ∧ W.cell? ⟨m, 3, none⟩ = some (.int .i64 c) ∧ W.cell? ⟨m, 4, none⟩ = some v4 ∧ W.cell? ⟨m, 5, none⟩ = some v5 ∧ W.frozen? ⟨m, 4, none⟩ = false ∧ W.frozen? ⟨m, 5, none⟩ = false := by
 refine ⟨?_, ?_, ?_, ?_, ?_, ?_, frozen_of_row _ _ _ _ _ h.x, frozen_of_row _ _ _ _ _ h.x⟩
 all_goals (rw [cell_of_row _ _ _ _ _ _ h.x]; rfl)
/-- within the reading of an instruction: the reader, the result's box, the instruction's box -/
structure MAt (w W : World) (p : Nat) (sl : Value) (i : Nat) (bad : Bool) (m : Nat) (o : Obj) : Prop where
 b : BxAt w W p (rdBlk sl i bad)
 r : KAt W w.heap.size (xBlk 0)
 e : KAt W m o
 h : w.heap.size ≤ m
 hp : p < w.heap.size
theorem MAt.call {w W V : World} {p : Nat} {sl : Value} {i j m : Nat} {bad bad' : Bool} {o : Obj} (h : MAt w W p sl i bad m o) (k : BxAt W V p (rdBlk sl j bad')) : MAt w V p sl j bad' m o := by
 have h1 := h.h
 have h2 := h.hp
 exact ⟨h.b.trans k, k.blk h.r (by omega), k.blk h.e (by omega), h1, h2⟩
theorem MAt.below {w W V : World} {p : Nat} {sl : Value} {i m : Nat} {bad : Bool} {o : Obj} (h : MAt w W p sl i bad m o) (hb : Below W.heap.size W V) : MAt w V p sl i bad m o :=
 ⟨h.b.below hb, h.r.below hb, h.e.below hb, h.h, h.hp⟩
theorem MAt.box {w W : World} {p : Nat} {sl : Value} {i m : Nat} {bad : Bool} {o : Obj} (h : MAt w W p sl i bad m o) (q : Obj) : MAt w (W.alloc q) p sl i bad W.heap.size q := by
 have hb : Below W.heap.size W (W.alloc q) := (Below.refl _ _).alloc (Nat.le_refl _) q
 exact ⟨h.b.below hb, h.r.below hb, KAt.new _ _, h.b.be.size, h.hp⟩
theorem BxAt.lowG {w W V : World} {p B : Nat} {o : Obj} (h : BxAt w W p o) (hb : Below B W V) (hp : p < B) (h0 : w.heap.size ≤ B) : BxAt w V p o :=
 ⟨⟨by rw [hb.block _ hp]; exact h.k.x⟩, h.be.trans (hb.mono (Nat.le_of_lt hp)), fun j hj hn => (hb.block j (Nat.lt_of_lt_of_le hj h0)).trans (h.kp j hj hn)⟩
theorem row_bxG {W V : World} {p base n size : Nat} {e : TypeId} {v : Value} {xs : List Value} {o : Obj} (h : W.ownsRow base e size v n xs) (hp : p < base) (k : BxAt W V p o) : V.ownsRow base e size v n xs := by
 obtain ⟨hl, ⟨rfl, h0⟩ | ⟨g, cap, cur, rfl, hg, hcur, hn, hcap, hsz, htk⟩⟩ := h
 ·exact ⟨hl, .inl ⟨rfl, h0⟩⟩
 ·exact ⟨hl, .inr ⟨g, cap, cur, rfl, hg, by rw [k.kp g (heap_lt hcur) (by omega)]; exact hcur, hn, hcap, hsz, htk⟩⟩
theorem MAt.low {w W V : World} {p : Nat} {sl : Value} {i m B : Nat} {bad : Bool} {o : Obj} (h : MAt w W p sl i bad m o) (hb : Below B W V) (hm : m < B) : MAt w V p sl i bad m o := by
 have h1 := h.h
 have h2 := h.hp
 exact ⟨h.b.lowG hb (by omega) (by omega), ⟨by rw [hb.block _ (by omega)]; exact h.r.x⟩, ⟨by rw [hb.block _ hm]; exact h.e.x⟩, h1, h2⟩
/-- and its own row of numbers -/
structure LAt (w W : World) (p : Nat) (sl : Value) (i : Nat) (bad : Bool) (m : Nat) (o : Obj) (base : Nat) (v : Value) (L : List Int) : Prop where
 d : MAt w W p sl i bad m o
 o : W.ownsRow base 3 1 v L.length (ints L)
 h : m < base
 hb : base ≤ W.heap.size
 hr : w.heap.size < m
theorem LAt.call {w W V : World} {p : Nat} {sl : Value} {i j m base : Nat} {bad bad' : Bool} {o : Obj} {v : Value} {L : List Int} (h : LAt w W p sl i bad m o base v L) (k : BxAt W V p (rdBlk sl j bad')) : LAt w V p sl j bad' m o base v L := by
 have h1 := h.h
 have h2 := h.d.h
 have h3 := h.d.hp
 exact ⟨h.d.call k, row_bxG h.o (by omega) k, h.h, Nat.le_trans h.hb k.be.size, h.hr⟩
theorem LAt.below {w W V : World} {p : Nat} {sl : Value} {i m base : Nat} {bad : Bool} {o : Obj} {v : Value} {L : List Int} (h : LAt w W p sl i bad m o base v L) (hb : Below W.heap.size W V) : LAt w V p sl i bad m o base v L :=
 ⟨h.d.below hb, row_below h.o hb, h.h, Nat.le_trans h.hb hb.size, h.hr⟩
theorem LAt.start {w W : World} {p : Nat} {sl : Value} {i m : Nat} {bad : Bool} {o : Obj} (h : MAt w W p sl i bad m o) (hr : w.heap.size < m) : LAt w W p sl i bad m o W.heap.size (.slice none 0 0) [] :=
 ⟨h, World.ownsRow_nil _ _ _ _, heap_lt h.e.x, Nat.le_refl _, hr⟩
theorem LAt.put4 {w W : World} {p : Nat} {sl : Value} {i m base : Nat} {bad : Bool} {op a b c : Int} {v v4 v5 : Value} {L : List Int} (h : LAt w W p sl i bad m (xvBlk op a b c v4 v5) base v L) (u : Value) : LAt w (W.setCell ⟨m, 4, none⟩ u) p sl i bad m (xvBlk op a b c u v5) base v L := by
 have h1 := h.hr
 have h2 := h.d.hp
 exact ⟨⟨h.d.b.put h2 ⟨m, 4, none⟩ h.d.h (by show m ≠ p; omega) u, h.d.r.put ⟨m, 4, none⟩ (by show w.heap.size ≠ m; omega) u, ⟨heap_setCell_same (i := 4) _ _ _ _ u h.d.e.x⟩, h.d.h, h2⟩, ownsRow_setCell_below h.o (a := ⟨m, 4, none⟩) h.h u, h.h, by simpa [World.setCell] using h.hb, h1⟩
theorem LAt.put5 {w W : World} {p : Nat} {sl : Value} {i m base : Nat} {bad : Bool} {op a b c : Int} {v v4 v5 : Value} {L : List Int} (h : LAt w W p sl i bad m (xvBlk op a b c v4 v5) base v L) (u : Value) : LAt w (W.setCell ⟨m, 5, none⟩ u) p sl i bad m (xvBlk op a b c v4 u) base v L := by
 have h1 := h.hr
 have h2 := h.d.hp
 exact ⟨⟨h.d.b.put h2 ⟨m, 5, none⟩ h.d.h (by show m ≠ p; omega) u, h.d.r.put ⟨m, 5, none⟩ (by show w.heap.size ≠ m; omega) u, ⟨heap_setCell_same (i := 5) _ _ _ _ u h.d.e.x⟩, h.d.h, h2⟩, ownsRow_setCell_below h.o (a := ⟨m, 5, none⟩) h.h u, h.h, by simpa [World.setCell] using h.hb, h1⟩
/-- a number put behind the row -/
theorem step_num {w W : World} {p : Nat} {sl : Value} {i m base : Nat} {bad : Bool} {o' : Obj} {v : Value} {L : List Int} {z : Int} {T : TypeId} {ops : Array Oper} {o : Oper} {a : Act} {K : Act → World → Prop} {Q : Exit → Act → World → Prop} {E : Prop}
  (hC : LAt w W p sl i bad m o' base v L) (hk : L.length ≤ 1000000000) (hgd : o.guard = none) (s x : Operand) (ho : o.op = .call { callee := .builtin .append, args := #[s, x], argTypes := #[56, 56] })
  (hs : a.eval s = v) (hx : a.eval x = .slice (some ⟨W.heap.size, 0, none⟩) 1 1)
  (h : ∀ g k cap V, LAt w V p sl i bad m o' base (.slice (some ⟨g, 0, none⟩) k cap) (L ++ [z]) → Below base W V → K (a.put o.dst (.slice (some ⟨g, 0, none⟩) k cap)) V) :
  if Region.wanted o (yielded ops a.tmps) = true then Oper.wp Tryz.prog o a (W.alloc (.cells #[.int .i64 z] T)) K Q else E := by
 obtain ⟨i0, hi, hz0, hz1, hz2⟩ := info_parts infoInt
 have hm := hC.h
 have hb0 : Below W.heap.size W (W.alloc (.cells #[.int .i64 z] T)) := (Below.refl _ _).alloc (Nat.le_refl _) _
 have hown1 := row_below hC.o hb0
 refine step_append_lies _ hgd s x 56 ho base 3 i0 (.int .i64 0) 1 8 Tryz.underlying56 hi hz0 hz1 hz2 rfl (by decide) v L.length (ints L) hs hown1 ⟨W.heap.size, 0, none⟩ 1 1 [.int .i64 z] hx rfl (World.news_of_block (heap_alloc_new _ _)) (by intro u hu; simp at hu; subst hu; rfl) (by decide) (by unfold maxLen; omega) (by omega) (Nat.le_trans hC.hb hb0.size) _ rfl ?_
 intro g cap V k1 k2 _ _
 have hbe : Below base W V := (hb0.mono hC.hb).trans ((Below.refl base _).grown k2 (Nat.le_trans hC.hb hb0.size) (fun j hj => (hown1.lt j hj).1))
 exact h _ _ _ V ⟨hC.d.low hbe hm, by simpa [ints] using k1, hm, Nat.le_trans hC.hb hbe.size, hC.hr⟩ hbe
theorem IntR.bx {W V : World} {lo hi p : Nat} {a : Option Addr} {L : List Int} {o : Obj} (h : IntR W lo hi a L) (k : BxAt W V p o) (hp : p < lo) : IntR V lo hi a L :=
 h.keep (Nat.le_refl _) (Nat.le_refl _) (fun b cs q1 q2 q3 => (k.kp b (heap_lt q3) (by omega)).trans q3)
theorem IntR.low {W V : World} {lo hi B : Nat} {a : Option Addr} {L : List Int} (h : IntR W lo hi a L) (hb : Below B W V) (hB : hi ≤ B) : IntR V lo hi a L :=
 h.keep (Nat.le_refl _) (Nat.le_refl _) (fun b cs q1 q2 q3 => (hb.block b (by omega)).trans q3)
theorem IntR.put {W : World} {lo hi : Nat} {a : Option Addr} {L : List Int} (h : IntR W lo hi a L) (ad : Addr) (hp : ad.block < lo) (u : Value) : IntR (W.setCell ad u) lo hi a L :=
 h.keep (Nat.le_refl _) (Nat.le_refl _) (fun b cs q1 q2 q3 => (Below.heap_setCell _ _ _ _ (by omega)).trans q3)
theorem IntR.wide {W : World} {lo hi lo' hi' : Nat} {a : Option Addr} {L : List Int} (h : IntR W lo hi a L) (h1 : lo' ≤ lo) (h2 : hi ≤ hi') : IntR W lo' hi' a L :=
 h.keep h1 h2 (fun b cs q1 q2 q3 => q3)
theorem xv_put {W : World} {m : Nat} {o : Int} {u1 u2 : Value} {w1 w2 w3 : Int} (h : KAt W m (.cells #[.int .i64 o, .int .i64 w1, .int .i64 w2, .int .i64 w3, u1, u2] 58 (0, 0))) (o' a b c : Int) (l v : Value) :
  ((((((W.setCell ⟨m, 0, none⟩ (.int .i64 o')).setCell ⟨m, 1, none⟩ (.int .i64 a)).setCell ⟨m, 2, none⟩ (.int .i64 b)).setCell ⟨m, 3, none⟩ (.int .i64 c)).setCell ⟨m, 4, none⟩ l).setCell ⟨m, 5, none⟩ v).heap[m]? = some (.cells #[.int .i64 o', .int .i64 a, .int .i64 b, .int .i64 c, l, v] 58 (0, 0)) :=
 heap_setCell_same (i := 5) _ _ _ _ _ (heap_setCell_same (i := 4) _ _ _ _ _ (heap_setCell_same (i := 3) _ _ _ _ _ (heap_setCell_same (i := 2) _ _ _ _ _ (heap_setCell_same (i := 1) _ _ _ _ _ (heap_setCell_same (i := 0) _ _ _ _ _ h.x)))))
theorem listL_zero {α : Type} (rd : Nat → Bool → α × Nat × Bool) (i : Nat) (bad : Bool) : listL rd 0 i bad = ([], i, bad) := rfl
theorem listL_bad {α : Type} (rd : Nat → Bool → α × Nat × Bool) (n i : Nat) : listL rd n i true = ([], i, true) := by cases n <;> rfl
theorem listL_succ {α : Type} (rd : Nat → Bool → α × Nat × Bool) (n i : Nat) : listL rd (n + 1) i false = ((rd i false).1 :: (listL rd n (rd i false).2.1 (rd i false).2.2).1, (listL rd n (rd i false).2.1 (rd i false).2.2).2) := rfl
section
variable (p : Nat) (a : Option Addr) (l : List UInt8) (cap i0 : Nat) (bad : Bool) (w0 w : World) (hk : KAt w p (rdBlk (.slice a l.length cap) i0 bad)) (hB : BysAt w0 a l) (h0 : w0.heap.size ≤ p) (hb0 : Below w0.heap.size w0 w) (hi : i0 ≤ l.length) (hl : l.length ≤ 16777216)
include hk hB h0 hb0 hi hl
set_option maxHeartbeats 4000000 in
set_option maxRecDepth 8000 in
theorem insn_rd :
  Calls Tryz.prog 59 #[.pointer (some ⟨p, 0, none⟩)] w fun x w' => ∃ la lc va vc, x = .returned (.agg #[.int .i64 (insnL l i0 bad).1.op, .int .i64 (insnL l i0 bad).1.a, .int .i64 (insnL l i0 bad).1.b, .int .i64 (insnL l i0 bad).1.c, .slice la (insnL l i0 bad).1.l.length lc, .slice va (insnL l i0 bad).1.lv.length vc]) ∧ BxAt w w' p (rdBlk (.slice a l.length cap) (insnL l i0 bad).2.1 (insnL l i0 bad).2.2) ∧ IntR w' w.heap.size w'.heap.size la (insnL l i0 bad).1.l ∧ IntR w' w.heap.size w'.heap.size va (insnL l i0 bad).1.lv := by
 have hp := heap_lt hk.x
 have CS := hid (fun i b W (h1 : BxAt w W p (rdBlk (.slice a l.length cap) i b)) h2 => small_rd p a l cap i b w0 W h1.k hB h0 (hb0.trans (h1.be.mono h0)) h2)
 have CG := hid (fun i b W (h1 : BxAt w W p (rdBlk (.slice a l.length cap) i b)) h2 => signed_rd p a l cap i b w0 W h1.k hB h0 (hb0.trans (h1.be.mono h0)) h2)
 have CC := hid (fun i b W (h1 : BxAt w W p (rdBlk (.slice a l.length cap) i b)) h2 => count_rd p a l cap i b w0 W h1.k hB h0 (hb0.trans (h1.be.mono h0)) h2 1 (.inl rfl))
 have M0 := hid (show MAt w (w.alloc (xBlk 0)) p (.slice a l.length cap) i0 bad w.heap.size (xBlk 0) from ⟨(BxAt.start hk).below ((Below.refl _ _).alloc (Nat.le_refl _) _), KAt.new _ _, KAt.new _ _, Nat.le_refl _, hp⟩)
 unfold insnL
 obtain ⟨s, hs⟩ : ∃ s, smallI l i0 bad = s := ⟨_, rfl⟩
 obtain ⟨ra, hra⟩ : ∃ s', signedL l s.2.1 s.2.2 = s' := ⟨_, rfl⟩
 obtain ⟨rb, hrb⟩ : ∃ s', signedL l ra.2.1 ra.2.2 = s' := ⟨_, rfl⟩
 obtain ⟨rc, hrc⟩ : ∃ s', signedL l rb.2.1 rb.2.2 = s' := ⟨_, rfl⟩
 obtain ⟨rn, hrn⟩ : ∃ s', countL l 1 rc.2.1 rc.2.2 = s' := ⟨_, rfl⟩
 have l0 : s.2.1 ≤ l.length := by rw [← hs]; exact smallL_le l i0 bad hi
 have l1 : ra.2.1 ≤ l.length := by rw [← hra]; exact signedL_le l _ _ l0
 have l2 : rb.2.1 ≤ l.length := by rw [← hrb]; exact signedL_le l _ _ l1
 have l3 : rc.2.1 ≤ l.length := by rw [← hrc]; exact signedL_le l _ _ l2
 have l4 : rn.2.1 ≤ l.length := by rw [← hrn]; exact countL_le l _ _ _ l3
 have l5 : rn.1 ≤ l.length := by have := countL_fit l 1 rc.2.1 rc.2.2; rw [hrn] at this; omega
 simp only [hs, hra, hrb, hrc, hrn]
 have C0 := hid (fun W h1 => (CS.out i0 bad W h1 hi))
 have C1 := hid (fun W h1 => (CG.out s.2.1 s.2.2 W h1 l0))
 have C2 := hid (fun W h1 => (CG.out ra.2.1 ra.2.2 W h1 l1))
 have C3 := hid (fun W h1 => (CG.out rb.2.1 rb.2.2 W h1 l2))
 have C4 := hid (fun W h1 => (CC.out rc.2.1 rc.2.2 W h1 l3))
 rw [hra] at C1
 rw [hrb] at C2
 rw [hrc] at C3
 rw [hrn] at C4
 have CS0 := hid (show ((smallL l i0 bad).1 : Int) = s.1 ∧ (smallL l i0 bad).2 = s.2 by rw [← hs]; exact ⟨rfl, rfl⟩)
 rw [CS0.out.1, CS0.out.2] at C0
 clear hk hB hb0 hi hs hra hrb hrc hrn CS0
 go_enter Tryz.func59, Tryz.ntmps59
 go_wp2_with (first
  | (go_at_call 57; (refine (C0.out _ M0.out.b).mono ?_); rintro e w1 ⟨rfl, h1⟩; have M1 := hid (M0.out.call h1); clear M0 h1)
  | (go_at_call 117; (with_reducible refine (C1.out _ M1.out.b).mono ?_); rintro e w2 ⟨rfl, h1⟩; have M2 := hid (M1.out.call h1); clear M1 h1)
  | (go_at_call 117; (with_reducible refine (C2.out _ M2.out.b).mono ?_); rintro e w3 ⟨rfl, h1⟩; have M3 := hid (M2.out.call h1); clear M2 h1)
  | (go_at_call 117; (with_reducible refine (C3.out _ M3.out.b).mono ?_); rintro e w4 ⟨rfl, h1⟩; have HM := hid (heap_lt (M3.out.call h1).r.x); have M4 := hid ((M3.out.call h1).box (xvBlk s.1 ra.1 rb.1 rc.1 (.slice none 0 0) (.slice none 0 0))); clear M3 h1)
  | (go_at_call 58; (refine (C4.out _ M4.out.b).mono ?_); rintro e w5 ⟨rfl, h1⟩; have M5 := hid (M4.out.call h1); clear M4 h1))
 obtain ⟨m, hm⟩ : ∃ m, w4.heap.size = m := ⟨_, rfl⟩
 rw [hm] at M5 HM ⊢
 have S5 := hid (LAt.start M5.out HM.out)
 obtain ⟨B5, hB5⟩ : ∃ B, w5.heap.size = B := ⟨_, rfl⟩
 rw [hB5] at S5
 clear M5 hm hB5
 go_loopw [4] (fun v4 wr => ∃ (n i : Nat) (b : Bool) (v : Value) (M : List Int), v4 = .int .i64 (n : Int) ∧ i ≤ l.length ∧ M.length + n ≤ l.length ∧ LAt w wr p (.slice a l.length cap) i b m (xvBlk s.1 ra.1 rb.1 rc.1 v (.slice none 0 0)) B5 v M ∧ listL (signedL l) rn.1 rn.2.1 rn.2.2 = (M ++ (listL (signedL l) n i b).1, (listL (signedL l) n i b).2)) (fun v4 _ => (intOf v4).toNat)
 case atStart => exact ⟨rn.1, rn.2.1, rn.2.2, _, [], rfl, l4, by simpa using l5, S5.out, rfl⟩
 case round =>
  clear S5 l0 l1 l2 l3 l4 l5
  obtain ⟨n, i, b, v, M, rfl, hi, hn, hS, he⟩ := hrel
  have HE := hid he
  have S := hid hS
  obtain ⟨x0, x1, x2, x3, x4, x5, z4, z5⟩ := hS.d.e.xv
  obtain ⟨d0, d1, d2, -, -⟩ := hS.d.b.k.rdcells
  clear he
  by_cases hx : n ≠ 0 ∧ b = false
  ·obtain ⟨hn0, rfl⟩ := hx
   obtain ⟨n, rfl⟩ : ∃ k, n = k + 1 := ⟨n - 1, by omega⟩
   clear hS
   have k0 : decide ((0 : Int) < ((n + 1 : Nat) : Int)) = true := decide_eq_true (by omega)
   have kd : IntKind.i64.wrap (((n + 1 : Nat) : Int) - 1) = (n : Int) := by rw [IntWalk.i64_in _ (by omega)]; omega
   obtain ⟨r, hr⟩ : ∃ r, signedL l i false = r := ⟨_, rfl⟩
   have lr : r.2.1 ≤ l.length := by rw [← hr]; exact signedL_le l _ _ hi
   have CN := hid (fun W h1 => CG.out i false W h1 hi)
   have HE2 := hid (show listL (signedL l) rn.1 rn.2.1 rn.2.2 = (M ++ [r.1] ++ (listL (signedL l) n r.2.1 r.2.2).1, (listL (signedL l) n r.2.1 r.2.2).2) by
    rw [HE.out, listL_succ, hr]; simp)
   rw [hr] at CN
   clear hr
   go_upto_region 5 with (fail)
   go_region_law (first
    | (go_simp; go_at_call 117; refine (CN.out _ (S.out.below (Below.refl _ _).drew).d.b).mono ?_; rintro e w9 ⟨rfl, h1⟩; have S1 := hid ((S.out.below (Below.refl _ _).drew).call h1); have y4 := S1.out.d.e.xv.2.2.2.2.1; have y6 : ∀ o, (w9.alloc o).cell? ⟨m, 4, none⟩ = some v := fun o => (S1.out.below ((Below.refl _ _).alloc (Nat.le_refl _) o)).d.e.xv.2.2.2.2.1)
    | (refine step_num S1.out (by omega) rfl _ _ rfl rfl rfl ?_; intro g7 k7 c7 V r7 hb7; have y7 := r7.d.e.xv.2.2.2.2.1; have z7 := r7.d.e.xv.2.2.2.2.2.2.1))
   all_goals go_wp2_with fail
   all_goals go_roundw
   all_goals first
    | exact ⟨n, r.2.1, r.2.2, _, M ++ [r.1], rfl, lr, by simp; omega, r7.put4 _, HE2.out⟩
    | (simp only [intOf]; omega)
  ·have hE2 : listL (signedL l) rn.1 rn.2.1 rn.2.2 = (M, i, b) := by
    rw [HE.out]
    rcases Nat.eq_zero_or_pos n with h | h
    ·subst h; rw [listL_zero]; simp
    ·have hb : b = true := by cases b <;> simp_all
     rw [hb, listL_bad]; simp
   have kk : ¬ (0 < n) ∨ (0 < n ∧ b = true) := by
    rcases Nat.eq_zero_or_pos n with h | h
    ·left; omega
    ·right; exact ⟨h, by cases b <;> simp_all⟩
   have HE2 := hid hE2
   obtain ⟨hML, ca, cc, rfl, hR⟩ := own_rest hS.o
   have hr1 : m < B5 := hS.h
   have hr2 := hS.hr
   have RR := hid (hR.wide (lo' := m + 1) (by omega) (Nat.le_refl _))
   have HR := hid hr2
   obtain ⟨rm, hrm⟩ : ∃ s', countL l 1 i b = s' := ⟨_, rfl⟩
   have l6 : rm.2.1 ≤ l.length := by rw [← hrm]; exact countL_le l _ _ _ hi
   have l7 : rm.1 ≤ l.length := by have := countL_fit l 1 i b; rw [hrm] at this; omega
   have C5 := hid (fun W h1 => CC.out i b W h1 hi)
   rw [hrm] at C5
   have HRM := hid hrm
   have HS0 := hid hS.d
   clear hS S HE hE2 hML hR hr1 hr2 hx hrm hn hi
   rcases kk with k0 | ⟨k0, rfl⟩
   all_goals
    go_wp2_with (first
     | (go_at_call 58; (refine (C5.out _ HS0.out.b).mono ?_); rintro e w7 ⟨rfl, h1⟩; have M7 := hid (HS0.out.call h1); have R7 := hid (RR.out.bx h1 (by have := HR.out; have := HS0.out.h; have := HS0.out.hp; omega)); have HZ := hid h1.be.size; clear HS0 RR h1))
    have S7 := hid (LAt.start M7.out HR.out)
    obtain ⟨B7, hB7⟩ : ∃ B, w7.heap.size = B := ⟨_, rfl⟩
    have R8 := hid (R7.out.wide (Nat.le_refl _) (hB7 ▸ HZ.out))
    rw [hB7] at S7
    clear M7 R7 HZ hB7
    go_loopw [5] (fun v5 wr => ∃ (n i : Nat) (b : Bool) (v : Value) (N : List Int), v5 = .int .i64 (n : Int) ∧ i ≤ l.length ∧ N.length + n ≤ l.length ∧ LAt w wr p (.slice a l.length cap) i b m (xvBlk s.1 ra.1 rb.1 rc.1 (.slice ca M.length cc) v) B7 v N ∧ IntR wr (m + 1) B7 ca M ∧ listL (smallI l) rm.1 rm.2.1 rm.2.2 = (N ++ (listL (smallI l) n i b).1, (listL (smallI l) n i b).2)) (fun v5 _ => (intOf v5).toNat)
    case atStart => exact ⟨rm.1, rm.2.1, rm.2.2, _, [], rfl, l6, by simpa using l7, S7.out, R8.out, rfl⟩
    case round =>
     clear S7 R8 l6 l7 d0 d1 d2 x0 x1 x2 x3 x4 x5 z4 z5
     obtain ⟨n, i, b, v, N, rfl, hi, hn, hS, hR, he⟩ := hrel
     have HE := hid he
     have S := hid hS
     have RR := hid hR
     obtain ⟨x0, x1, x2, x3, x4, x5, z4, z5⟩ := hS.d.e.xv
     obtain ⟨d0, d1, d2, -, -⟩ := hS.d.b.k.rdcells
     clear he hR
     by_cases hx : n ≠ 0 ∧ b = false
     ·obtain ⟨hn0, rfl⟩ := hx
      obtain ⟨n, rfl⟩ : ∃ k, n = k + 1 := ⟨n - 1, by omega⟩
      clear hS
      have k0 : decide ((0 : Int) < ((n + 1 : Nat) : Int)) = true := decide_eq_true (by omega)
      have kd : IntKind.i64.wrap (((n + 1 : Nat) : Int) - 1) = (n : Int) := by rw [IntWalk.i64_in _ (by omega)]; omega
      obtain ⟨r, hr⟩ : ∃ r, smallL l i false = r := ⟨_, rfl⟩
      have lr : r.2.1 ≤ l.length := by rw [← hr]; exact smallL_le l _ _ hi
      have CN := hid (fun W h1 => CS.out i false W h1 hi)
      have HE2 := hid (show listL (smallI l) rm.1 rm.2.1 rm.2.2 = (N ++ [(r.1 : Int)] ++ (listL (smallI l) n r.2.1 r.2.2).1, (listL (smallI l) n r.2.1 r.2.2).2) by
       rw [HE.out, listL_succ]; unfold smallI; rw [hr]; simp)
      rw [hr] at CN
      clear hr
      go_upto_region 9 with (fail)
      go_region_law (first
       | (go_simp; go_at_call 57; refine (CN.out _ (S.out.below (Below.refl _ _).drew).d.b).mono ?_; rintro e w9 ⟨rfl, h1⟩; have S1 := hid ((S.out.below (Below.refl _ _).drew).call h1); have R1 := hid ((RR.out.low (Below.refl _ _).drew S.out.hb).bx h1 (by have := S.out.hr; have := S.out.d.hp; omega)); have y4 := S1.out.d.e.xv.2.2.2.2.2.1; have y6 : ∀ o, (w9.alloc o).cell? ⟨m, 5, none⟩ = some v := fun o => (S1.out.below ((Below.refl _ _).alloc (Nat.le_refl _) o)).d.e.xv.2.2.2.2.2.1)
       | (refine step_num S1.out (by omega) rfl _ _ rfl rfl rfl ?_; intro g7 k7 c7 V r7 hb7; have y7 := r7.d.e.xv.2.2.2.2.2.1; have z7 := r7.d.e.xv.2.2.2.2.2.2.2))
      all_goals go_wp2_with fail
      all_goals go_roundw
      all_goals first
       | exact ⟨n, r.2.1, r.2.2, _, N ++ [(r.1 : Int)], rfl, lr, by simp; omega, r7.put5 _, (R1.out.low hb7 (Nat.le_refl _)).put _ (Nat.lt_succ_self _) _, HE2.out⟩
       | (simp only [intOf]; omega)
     ·have hE2 : listL (smallI l) rm.1 rm.2.1 rm.2.2 = (N, i, b) := by
       rw [HE.out]
       rcases Nat.eq_zero_or_pos n with h | h
       ·subst h; rw [listL_zero]; simp
       ·have hb : b = true := by cases b <;> simp_all
        rw [hb, listL_bad]; simp
      have kk : ¬ (0 < n) ∨ (0 < n ∧ b = true) := by
       rcases Nat.eq_zero_or_pos n with h | h
       ·left; omega
       ·right; exact ⟨h, by cases b <;> simp_all⟩
      have HE3 := hid hE2
      obtain ⟨hML, va, vc, rfl, hR⟩ := own_rest hS.o
      have R9 := hid (hR.wide (lo' := m + 1) (by have := hS.h; omega) (Nat.le_refl _))
      obtain ⟨y0, y1, y2, y3, y4, y5⟩ := hS.d.r.xcells
      have z0 : wr.frozen? ⟨w.heap.size, 0, none⟩ = false := frozen_of_row _ _ _ _ _ hS.d.r.x
      have z1 : wr.frozen? ⟨w.heap.size, 1, none⟩ = false := frozen_of_row _ _ _ _ _ hS.d.r.x
      have z2 : wr.frozen? ⟨w.heap.size, 2, none⟩ = false := frozen_of_row _ _ _ _ _ hS.d.r.x
      have z3 : wr.frozen? ⟨w.heap.size, 3, none⟩ = false := frozen_of_row _ _ _ _ _ hS.d.r.x
      have z4 : wr.frozen? ⟨w.heap.size, 4, none⟩ = false := frozen_of_row _ _ _ _ _ hS.d.r.x
      have z5 : wr.frozen? ⟨w.heap.size, 5, none⟩ = false := frozen_of_row _ _ _ _ _ hS.d.r.x
      clear hS HE hE2 hML hR hx
      rcases kk with k0 | ⟨k0, rfl⟩
      all_goals
       go_wp2_with fail
       have hi' : (Tryz.prog.info? 58).map (·.size) = some 6 := by kernel_rfl
       (try simp only [Exit.inBlock, Exit.then]); refine bodyPost_ret (results_cell_row rfl _ _ w.heap.size 58 _ (0, 0) _ rfl (xv_put S.out.d.r s.1 ra.1 rb.1 rc.1 (.slice ca M.length cc) (.slice va N.length vc)) Tryz.underlying58 rfl hi') rfl ?_
       have hmr := S.out.hr
       have hmb := S.out.h
       have hBz := S.out.hb
       have hmz := S.out.d.hp
       have hzz := heap_lt S.out.d.e.x
       have hX := (((((S.out.d.b.put hp ⟨w.heap.size, 0, none⟩ (Nat.le_refl _) (Nat.ne_of_gt hp) (.int .i64 s.1)).put hp ⟨w.heap.size, 1, none⟩ (Nat.le_refl _) (Nat.ne_of_gt hp) (.int .i64 ra.1)).put hp ⟨w.heap.size, 2, none⟩ (Nat.le_refl _) (Nat.ne_of_gt hp) (.int .i64 rb.1)).put hp ⟨w.heap.size, 3, none⟩ (Nat.le_refl _) (Nat.ne_of_gt hp) (.int .i64 rc.1)).put hp ⟨w.heap.size, 4, none⟩ (Nat.le_refl _) (Nat.ne_of_gt hp) (.slice ca M.length cc)).put hp ⟨w.heap.size, 5, none⟩ (Nat.le_refl _) (Nat.ne_of_gt hp) (.slice va N.length vc)
       have hp6 : ∀ {lo hi : Nat} {a : Option Addr} {L : List Int}, IntR wr lo hi a L → w.heap.size < lo → IntR ((((((wr.setCell ⟨w.heap.size, 0, none⟩ (.int .i64 s.1)).setCell ⟨w.heap.size, 1, none⟩ (.int .i64 ra.1)).setCell ⟨w.heap.size, 2, none⟩ (.int .i64 rb.1)).setCell ⟨w.heap.size, 3, none⟩ (.int .i64 rc.1)).setCell ⟨w.heap.size, 4, none⟩ (.slice ca M.length cc)).setCell ⟨w.heap.size, 5, none⟩ (.slice va N.length vc)) lo hi a L :=
        fun h hl => (((((h.put ⟨_, 0, none⟩ hl _).put ⟨_, 1, none⟩ hl _).put ⟨_, 2, none⟩ hl _).put ⟨_, 3, none⟩ hl _).put ⟨_, 4, none⟩ hl _).put ⟨_, 5, none⟩ hl _
       rw [HE2.out]
       simp only []
       rw [HRM.out, HE3.out]
       exact ⟨ca, cc, va, vc, rfl, hX, (hp6 RR.out (by omega)).wide (by omega) (by simp [World.setCell]; exact hBz), (hp6 R9.out (by omega)).wide (by omega) (by simp [World.setCell])⟩
end
end
/-- what lies in blocks of a kind is kept -/
structure Kp (K : Nat → TypeId → Prop) (W V : World) : Prop where
 z : W.heap.size ≤ V.heap.size
 k : ∀ b cs T, K b T → W.heap[b]? = some (.cells cs T (0, 0)) → V.heap[b]? = some (.cells cs T (0, 0))
theorem Kp.refl (K : Nat → TypeId → Prop) (W : World) : Kp K W W := ⟨Nat.le_refl _, fun _ _ _ _ h => h⟩
theorem Kp.trans {K : Nat → TypeId → Prop} {W V U : World} (h : Kp K W V) (k : Kp K V U) : Kp K W U := ⟨Nat.le_trans h.z k.z, fun b cs T q e => k.k b cs T q (h.k b cs T q e)⟩
theorem Kp.below {K : Nat → TypeId → Prop} {W V : World} (h : Below W.heap.size W V) : Kp K W V := ⟨h.size, fun b cs T _ e => (h.block b (heap_lt e)).trans e⟩
/-- all blocks but one are kept, and that one is of no such kind -/
theorem Kp.but {K : Nat → TypeId → Prop} {W V : World} (m : Nat) (hz : W.heap.size ≤ V.heap.size) (h : ∀ j, j < W.heap.size → j ≠ m → V.heap[j]? = W.heap[j]?) (hm : ∀ cs T, W.heap[m]? = some (.cells cs T (0, 0)) → ¬ K m T) : Kp K W V :=
 ⟨hz, fun b cs T q e => (h b (heap_lt e) (fun hb => by subst hb; exact hm cs T e q)).trans e⟩
theorem Kp.bx {K : Nat → TypeId → Prop} {W V : World} {p : Nat} {o : Obj} (h : BxAt W V p o) (hp : ∀ T, ¬ K p T) : Kp K W V := Kp.but p h.be.size h.kp (fun _ T _ => hp T)
theorem Kp.set {K : Nat → TypeId → Prop} {W : World} (a : Addr) (v : Value) (hm : ∀ cs T, W.heap[a.block]? = some (.cells cs T (0, 0)) → ¬ K a.block T) : Kp K W (W.setCell a v) :=
 Kp.but a.block (by simp [World.setCell]) (fun j _ hn => Below.heap_setCell _ _ _ _ hn) hm
theorem Kp.set2 {K : Nat → TypeId → Prop} {W : World} {m : Nat} {cs : Array Value} {T : TypeId} {fr : Nat × Nat} (h : KAt W m (.cells cs T fr)) (hK : ¬ K m T) (i : Nat) (v : Value) : Kp K W (W.setCell ⟨m, i, none⟩ v) :=
 Kp.set ⟨m, i, none⟩ v (fun cs' T' e => by rw [show (⟨m, i, none⟩ : Addr).block = m from rfl, h.x] at e; cases e; exact hK)
theorem Kp.grown {K : Nat → TypeId → Prop} {W V : World} {base size n : Nat} {e : TypeId} {v : Value} {xs : List Value} (ho : W.ownsRow base e size v n xs) (hg : W.grownBy V v.ownBlock) (hK : ∀ b, base ≤ b → ¬ K b e) : Kp K W V := by
 refine ⟨hg.size, fun b cs T q h => (hg.block b (heap_lt h) ?_).trans h⟩
 rcases ho.2 with ⟨rfl, -⟩ | ⟨g, cap, cur, rfl, hb, hgg, -⟩
 ·simp [Value.ownBlock]
 ·intro hbg
  simp [Value.ownBlock] at hbg
  subst hbg
  rw [hgg] at h
  cases h
  exact hK _ hb q
theorem Kp.mono {K K' : Nat → TypeId → Prop} {W V : World} (h : Kp K W V) (hK : ∀ b T, b < W.heap.size → K' b T → K b T) : Kp K' W V := ⟨h.z, fun b cs T q e => h.k b cs T (hK b T (heap_lt e) q) e⟩
/-- numbers at rest in a block of such a kind -/
def NumsK (K : Nat → TypeId → Prop) (T : TypeId) (k : IntKind) (W : World) (a : Option Addr) (L : List Int) : Prop :=
 L.length ≤ maxLen ∧ (L = [] ∨ ∃ b cs, a = some ⟨b, 0, none⟩ ∧ K b T ∧ W.heap[b]? = some (.cells cs T (0, 0)) ∧ ∀ i, i < L.length → cs[i]? = some (.int k (L.getD i 0)))
theorem NumsK.nil (K : Nat → TypeId → Prop) (T : TypeId) (k : IntKind) (W : World) : NumsK K T k W none [] := ⟨by decide, .inl rfl⟩
theorem NumsK.kp {K : Nat → TypeId → Prop} {T : TypeId} {k : IntKind} {W V : World} {a : Option Addr} {L : List Int} (h : NumsK K T k W a L) (q : Kp K W V) : NumsK K T k V a L := by
 obtain ⟨hm, h | ⟨b, cs, q1, q2, q3, q4⟩⟩ := h
 ·exact ⟨hm, .inl h⟩
 ·exact ⟨hm, .inr ⟨b, cs, q1, q2, q.k b cs _ q2 q3, q4⟩⟩
theorem NumsK.wk {K K' : Nat → TypeId → Prop} {T : TypeId} {k : IntKind} {W : World} {a : Option Addr} {L : List Int} (h : NumsK K T k W a L) (hK : ∀ b, b < W.heap.size → K b T → K' b T) : NumsK K' T k W a L := by
 obtain ⟨hm, h | ⟨b, cs, q1, q2, q3, q4⟩⟩ := h
 ·exact ⟨hm, .inl h⟩
 ·exact ⟨hm, .inr ⟨b, cs, q1, hK b (heap_lt q3) q2, q3, q4⟩⟩
theorem NumsK.at {K : Nat → TypeId → Prop} {T : TypeId} {k : IntKind} {W : World} {a : Option Addr} {L : List Int} (h : NumsK K T k W a L) : IntsAt k W a L := by
 obtain ⟨hm, h2 | ⟨b, cs, h1, -, h3, h4⟩⟩ := h
 ·exact ⟨hm, .inl h2⟩
 ·refine ⟨hm, .inr ⟨b, 0, h1, fun i hi => ?_⟩⟩
  rw [Nat.zero_add, cell_of_row _ _ _ _ _ _ h3]
  exact h4 i hi
theorem IntR.rest {K : Nat → TypeId → Prop} {W : World} {lo hi : Nat} {a : Option Addr} {L : List Int} (h : IntR W lo hi a L) (hK : ∀ b, lo ≤ b → b < hi → K b 3) : NumsK K 3 .i64 W a L := by
 obtain ⟨hm, h | ⟨b, cs, q1, q2, q3, q4, q5⟩⟩ := h
 ·exact ⟨hm, .inl h.2⟩
 ·exact ⟨hm, .inr ⟨b, cs, q1, hK b q2 q3, q4, q5⟩⟩
/-- an instruction's six cells, by their places -/
def InV (K : Nat → TypeId → Prop) (W : World) (x : In) (r : Nat → Option Value) : Prop := ∃ la lc va vc,
 r 0 = some (.int .i64 x.op) ∧ r 1 = some (.int .i64 x.a) ∧ r 2 = some (.int .i64 x.b) ∧ r 3 = some (.int .i64 x.c) ∧ r 4 = some (.slice la x.l.length lc) ∧ r 5 = some (.slice va x.lv.length vc) ∧ NumsK K 3 .i64 W la x.l ∧ NumsK K 3 .i64 W va x.lv
theorem InV.kp {K : Nat → TypeId → Prop} {W V : World} {x : In} {r : Nat → Option Value} (h : InV K W x r) (q : Kp K W V) : InV K V x r := by
 obtain ⟨la, lc, va, vc, h0, h1, h2, h3, h4, h5, h6, h7⟩ := h
 exact ⟨la, lc, va, vc, h0, h1, h2, h3, h4, h5, h6.kp q, h7.kp q⟩
theorem InV.wk {K K' : Nat → TypeId → Prop} {W : World} {x : In} {r : Nat → Option Value} (h : InV K W x r) (hK : ∀ b, b < W.heap.size → K b 3 → K' b 3) : InV K' W x r := by
 obtain ⟨la, lc, va, vc, h0, h1, h2, h3, h4, h5, h6, h7⟩ := h
 exact ⟨la, lc, va, vc, h0, h1, h2, h3, h4, h5, h6.wk hK, h7.wk hK⟩
theorem InV.same {K : Nat → TypeId → Prop} {W : World} {x : In} {r r' : Nat → Option Value} (h : InV K W x r) (e : ∀ k, k < 6 → r' k = r k) : InV K W x r' := by
 obtain ⟨la, lc, va, vc, h0, h1, h2, h3, h4, h5, h6, h7⟩ := h
 exact ⟨la, lc, va, vc, (e 0 (by decide)).trans h0, (e 1 (by decide)).trans h1, (e 2 (by decide)).trans h2, (e 3 (by decide)).trans h3, (e 4 (by decide)).trans h4, (e 5 (by decide)).trans h5, h6, h7⟩
/-- a function's instructions, as values side by side -/
def CdV (K : Nat → TypeId → Prop) (W : World) (code : List In) (xs : List Value) : Prop := xs.length = code.length * 6 ∧ ∀ i x, code[i]? = some x → InV K W x (fun k => xs[i * 6 + k]?)
theorem CdV.nil (K : Nat → TypeId → Prop) (W : World) : CdV K W [] [] := ⟨rfl, fun i x h => by simp at h⟩
theorem CdV.kp {K : Nat → TypeId → Prop} {W V : World} {code : List In} {xs : List Value} (h : CdV K W code xs) (q : Kp K W V) : CdV K V code xs := ⟨h.1, fun i x e => (h.2 i x e).kp q⟩
theorem CdV.wk {K K' : Nat → TypeId → Prop} {W : World} {code : List In} {xs : List Value} (h : CdV K W code xs) (hK : ∀ b, b < W.heap.size → K b 3 → K' b 3) : CdV K' W code xs := ⟨h.1, fun i x e => (h.2 i x e).wk hK⟩
theorem CdV.snoc {K : Nat → TypeId → Prop} {W : World} {code : List In} {xs ys : List Value} {x : In} (h : CdV K W code xs) (hy : ys.length = 6) (hx : InV K W x (fun k => ys[k]?)) : CdV K W (code ++ [x]) (xs ++ ys) := by
 refine ⟨by simp [h.1, hy]; omega, fun i y e => ?_⟩
 have h1 := h.1
 rcases Nat.lt_or_ge i code.length with hi | hi
 ·rw [List.getElem?_append_left hi] at e
  exact (h.2 i y e).same (fun k hk => List.getElem?_append_left (by omega))
 ·rw [List.getElem?_append_right hi] at e
  have hi2 : i = code.length := by
   rcases Nat.lt_or_ge 0 (i - code.length) with q | q
   ·rw [List.getElem?_eq_none (by simp; omega)] at e; cases e
   ·omega
  subst hi2
  simp at e
  subst e
  exact hx.same (fun k hk => by rw [List.getElem?_append_right (by omega)]; congr 1; omega)
/-- a function's three cells, by their places; its code at rest -/
def FnV (K : Nat → TypeId → Prop) (W : World) (f : Fu) (r : Nat → Option Value) : Prop := ∃ ca cc,
 r 0 = some (.int .i64 f.ps) ∧ r 1 = some (.int .i64 f.rs) ∧ r 2 = some (.slice ca f.code.length cc) ∧ f.code.length ≤ maxLen ∧ (f.code = [] ∨ ∃ b cs, ca = some ⟨b, 0, none⟩ ∧ K b 58 ∧ W.heap[b]? = some (.cells cs 58 (0, 0)) ∧ ∀ i x, f.code[i]? = some x → InV K W x (fun k => cs[i * 6 + k]?))
theorem FnV.kp {K : Nat → TypeId → Prop} {W V : World} {f : Fu} {r : Nat → Option Value} (h : FnV K W f r) (q : Kp K W V) : FnV K V f r := by
 obtain ⟨ca, cc, h0, h1, h2, h3, h4 | ⟨b, cs, h4, h5, h6, h7⟩⟩ := h
 ·exact ⟨ca, cc, h0, h1, h2, h3, .inl h4⟩
 ·exact ⟨ca, cc, h0, h1, h2, h3, .inr ⟨b, cs, h4, h5, q.k b cs _ h5 h6, fun i x e => (h7 i x e).kp q⟩⟩
theorem FnV.wk {K K' : Nat → TypeId → Prop} {W : World} {f : Fu} {r : Nat → Option Value} (h : FnV K W f r) (hI : ∀ b, b < W.heap.size → K b 3 → K' b 3) (hC : ∀ b, b < W.heap.size → K b 58 → K' b 58) : FnV K' W f r := by
 obtain ⟨ca, cc, h0, h1, h2, h3, h4 | ⟨b, cs, h4, h5, h6, h7⟩⟩ := h
 ·exact ⟨ca, cc, h0, h1, h2, h3, .inl h4⟩
 ·exact ⟨ca, cc, h0, h1, h2, h3, .inr ⟨b, cs, h4, hC b (heap_lt h6) h5, h6, fun i x e => (h7 i x e).wk hI⟩⟩
theorem FnV.same {K : Nat → TypeId → Prop} {W : World} {f : Fu} {r r' : Nat → Option Value} (h : FnV K W f r) (e : ∀ k, k < 3 → r' k = r k) : FnV K W f r' := by
 obtain ⟨ca, cc, h0, h1, h2, h3⟩ := h
 exact ⟨ca, cc, (e 0 (by decide)).trans h0, (e 1 (by decide)).trans h1, (e 2 (by decide)).trans h2, h3⟩
def FnsV (K : Nat → TypeId → Prop) (W : World) (fs : List Fu) (xs : List Value) : Prop := xs.length = fs.length * 3 ∧ ∀ i f, fs[i]? = some f → FnV K W f (fun k => xs[i * 3 + k]?)
theorem FnsV.nil (K : Nat → TypeId → Prop) (W : World) : FnsV K W [] [] := ⟨rfl, fun i x h => by simp at h⟩
theorem FnsV.kp {K : Nat → TypeId → Prop} {W V : World} {fs : List Fu} {xs : List Value} (h : FnsV K W fs xs) (q : Kp K W V) : FnsV K V fs xs := ⟨h.1, fun i x e => (h.2 i x e).kp q⟩
theorem FnsV.wk {K K' : Nat → TypeId → Prop} {W : World} {fs : List Fu} {xs : List Value} (h : FnsV K W fs xs) (hI : ∀ b, b < W.heap.size → K b 3 → K' b 3) (hC : ∀ b, b < W.heap.size → K b 58 → K' b 58) : FnsV K' W fs xs := ⟨h.1, fun i x e => (h.2 i x e).wk hI hC⟩
theorem FnsV.snoc {K : Nat → TypeId → Prop} {W : World} {fs : List Fu} {xs ys : List Value} {f : Fu} (h : FnsV K W fs xs) (hy : ys.length = 3) (hx : FnV K W f (fun k => ys[k]?)) : FnsV K W (fs ++ [f]) (xs ++ ys) := by
 refine ⟨by simp [h.1, hy]; omega, fun i y e => ?_⟩
 have h1 := h.1
 rcases Nat.lt_or_ge i fs.length with hi | hi
 ·rw [List.getElem?_append_left hi] at e
  exact (h.2 i y e).same (fun k hk => List.getElem?_append_left (by omega))
 ·rw [List.getElem?_append_right hi] at e
  have hi2 : i = fs.length := by
   rcases Nat.lt_or_ge 0 (i - fs.length) with q | q
   ·rw [List.getElem?_eq_none (by simp; omega)] at e; cases e
   ·omega
  subst hi2
  simp at e
  subst e
  exact hx.same (fun k hk => by rw [List.getElem?_append_right (by omega)]; congr 1; omega)
/-- a row of strings at rest -/
def StrsK (K : Nat → TypeId → Prop) (W : World) (a : Option Addr) (ss : List (List UInt8)) : Prop :=
 ss.length ≤ maxLen ∧ (∀ s ∈ ss, s.length ≤ maxLen) ∧ (ss = [] ∨ ∃ b cs, a = some ⟨b, 0, none⟩ ∧ K b 9 ∧ W.heap[b]? = some (.cells cs 9 (0, 0)) ∧ ∀ (i : Nat) (s : List UInt8), ss[i]? = some s → cs[i]? = some (Value.string ⟨s.toArray⟩))
theorem StrsK.kp {K : Nat → TypeId → Prop} {W V : World} {a : Option Addr} {ss : List (List UInt8)} (h : StrsK K W a ss) (q : Kp K W V) : StrsK K V a ss := by
 obtain ⟨h1, h2, h3 | ⟨b, cs, q1, q2, q3, q4⟩⟩ := h
 ·exact ⟨h1, h2, .inl h3⟩
 ·exact ⟨h1, h2, .inr ⟨b, cs, q1, q2, q.k b cs _ q2 q3, q4⟩⟩
theorem StrsK.wk {K K' : Nat → TypeId → Prop} {W : World} {a : Option Addr} {ss : List (List UInt8)} (h : StrsK K W a ss) (hK : ∀ b, b < W.heap.size → K b 9 → K' b 9) : StrsK K' W a ss := by
 obtain ⟨h1, h2, h3 | ⟨b, cs, q1, q2, q3, q4⟩⟩ := h
 ·exact ⟨h1, h2, .inl h3⟩
 ·exact ⟨h1, h2, .inr ⟨b, cs, q1, hK b (heap_lt q3) q2, q3, q4⟩⟩
theorem StrsK.at {K : Nat → TypeId → Prop} {W : World} {a : Option Addr} {ss : List (List UInt8)} (h : StrsK K W a ss) : StrsAt W a ss := by
 obtain ⟨h1, h2, h3 | ⟨b, cs, q1, q2, q3, q4⟩⟩ := h
 ·exact ⟨h1, h2, .inl h3⟩
 ·exact ⟨h1, h2, .inr ⟨b, 0, q1, fun i s e => by rw [Nat.zero_add, cell_of_row _ _ _ _ _ _ q3]; exact q4 i s e⟩⟩
theorem InV.at {K : Nat → TypeId → Prop} {W : World} {x : In} {b o : Nat} {cs : Array Value} {T : TypeId} {fr : Nat × Nat} (hb : W.heap[b]? = some (.cells cs T fr)) (h : InV K W x (fun k => cs[o + k]?)) : XAt W b o x := by
 obtain ⟨la, lc, va, vc, h0, h1, h2, h3, h4, h5, h6, h7⟩ := h
 have e : ∀ k, W.cell? ⟨b, k, none⟩ = cs[k]? := fun k => cell_of_row _ _ _ _ _ _ hb
 exact ⟨la, lc, va, vc, (e _).trans h0, (e _).trans h1, (e _).trans h2, (e _).trans h3, (e _).trans h4, (e _).trans h5, h6.at, h7.at⟩
theorem FnV.at {K : Nat → TypeId → Prop} {W : World} {f : Fu} {b o : Nat} {cs : Array Value} {T : TypeId} {fr : Nat × Nat} (hb : W.heap[b]? = some (.cells cs T fr)) (h : FnV K W f (fun k => cs[o + k]?)) : FnAt W b o f := by
 obtain ⟨ca, cc, h0, h1, h2, h3, h4⟩ := h
 have e : ∀ k, W.cell? ⟨b, k, none⟩ = cs[k]? := fun k => cell_of_row _ _ _ _ _ _ hb
 refine ⟨ca, cc, (e _).trans h0, (e _).trans h1, (e _).trans h2, h3, ?_⟩
 rcases h4 with h4 | ⟨b', cs', h4, h5, h6, h7⟩
 ·exact .inl h4
 ·exact .inr ⟨b', 0, h4, fun i x hx => by rw [Nat.zero_add]; exact (h7 i x hx).at h6⟩
/-! own rows at rest -/
theorem own_parts {W : World} {base n size : Nat} {T : TypeId} {v : Value} {xs : List Value} (h : W.ownsRow base T size v n xs) (hn : 0 < n) : ∃ g cap cur, v = .slice (some ⟨g, 0, none⟩) n cap ∧ base ≤ g ∧ W.heap[g]? = some (.cells cur T (0, 0)) ∧ n ≤ cap ∧ n ≤ maxLen ∧ ∀ i, i < n * size → cur[i]? = xs[i]? := by
 rcases h.2 with ⟨q, q0⟩ | ⟨g, cap, cur, q, q1, q2, q3, q4, q5, q6⟩
 ·omega
 ·refine ⟨g, cap, cur, q, q1, q2, q3, Nat.le_trans q3 q4, fun i hi => ?_⟩
  rw [← q6, List.getElem?_take_of_lt hi]
  simp
theorem own_form {W : World} {base n size : Nat} {T : TypeId} {v : Value} {xs : List Value} (h : W.ownsRow base T size v n xs) : ∃ a cap, v = .slice a n cap ∧ n ≤ cap ∧ n ≤ maxLen := by
 rcases h.2 with ⟨rfl, rfl⟩ | ⟨g, cap, cur, rfl, q1, q2, q3, q4, q5, q6⟩
 ·exact ⟨_, _, rfl, Nat.le_refl _, Nat.zero_le _⟩
 ·exact ⟨_, _, rfl, q3, Nat.le_trans q3 q4⟩
/-! ### what bytes are as a program -/
/-- a string, read -/
def strL (l : List UInt8) (i : Nat) (bad : Bool) : List UInt8 × Nat × Bool :=
 ((l.drop (countL l 1 i bad).2.1).take (countL l 1 i bad).1, (countL l 1 i bad).2.1 + (countL l 1 i bad).1, (countL l 1 i bad).2.2)
/-- eight bytes as a number, the lowest first -/
def wordL (l : List UInt8) (i : Nat) : Nat → Nat
 | 0 => 0
 | k + 1 => wordL l i k + (l.getD (i + k) 0).toNat * 2 ^ (8 * k)
def realL (l : List UInt8) (i : Nat) (bad : Bool) : Int × Nat × Bool := ((wordL l i 8 : Nat), i + 8, bad)
def fnL (l : List UInt8) (i : Nat) (bad : Bool) : Fu × Nat × Bool :=
 let p := smallI l i bad
 let r := smallI l p.2.1 p.2.2
 let n := countL l 6 r.2.1 r.2.2
 let c := listL (insnL l) n.1 n.2.1 n.2.2
 (⟨p.1, r.1, c.1⟩, c.2)
def decP (l : List UInt8) : Pg × Nat × Bool :=
 let en := smallI l 0 false
 let ns := countL l 1 en.2.1 en.2.2
 let S := listL (strL l) ns.1 ns.2.1 ns.2.2
 let nr := countL l 8 S.2.1 S.2.2
 let U := listL (realL l) nr.1 nr.2.1 nr.2.2
 let nf := countL l 3 U.2.1 U.2.2
 let F := listL (fnL l) nf.1 nf.2.1 nf.2.2
 (⟨F.1, S.1, U.1, en.1⟩, F.2)
def pg0 : Pg := ⟨[], [], [], 0⟩
/-- what Decode answers -/
noncomputable def decodeL (l : List UInt8) : Pg × Int :=
 if 16777216 < l.length then (pg0, 2) else
 if (decP l).2.2 = true ∨ (decP l).2.1 ≠ l.length ∨ (checkL (decP l).1).2.2 ≠ 0 then (pg0, 163) else ((decP l).1, 0)
theorem wordL_lt (l : List UInt8) (i : Nat) : ∀ k, wordL l i k < 2 ^ (8 * k) := by
 intro k
 induction k with
 | zero => show 0 < 1; omega
 | succ k ih =>
  show wordL l i k + (l.getD (i + k) 0).toNat * 2 ^ (8 * k) < _
  have h1 := (l.getD (i + k) 0).toNat_lt
  have h2 : (l.getD (i + k) 0).toNat * 2 ^ (8 * k) ≤ 255 * 2 ^ (8 * k) := Nat.mul_le_mul_right _ (by omega)
  have h3 : 2 ^ (8 * (k + 1)) = 256 * 2 ^ (8 * k) := by rw [show 8 * (k + 1) = 8 * k + 8 by omega, Nat.pow_add]; omega
  omega
theorem listL_le {α : Type} {rd : Nat → Bool → α × Nat × Bool} {m : Nat} (h : ∀ i b, i ≤ m → (rd i b).2.1 ≤ m) : ∀ n i b, i ≤ m → (listL rd n i b).2.1 ≤ m := by
 intro n
 induction n with
 | zero => intro i b hi; exact hi
 | succ n ih =>
  intro i b hi
  cases b with
  | true => rw [listL_bad]; exact hi
  | false => rw [listL_succ]; exact ih _ _ (h i false hi)
theorem smallI_le (l : List UInt8) (i : Nat) (b : Bool) (h : i ≤ l.length) : (smallI l i b).2.1 ≤ l.length := smallL_le l i b h
theorem insnL_le (l : List UInt8) (i : Nat) (b : Bool) (h : i ≤ l.length) : (insnL l i b).2.1 ≤ l.length := by
 unfold insnL
 dsimp only
 refine listL_le (fun i b hi => smallI_le l i b hi) _ _ _ ?_
 refine countL_le l _ _ _ ?_
 refine listL_le (fun i b hi => signedL_le l i b hi) _ _ _ ?_
 refine countL_le l _ _ _ ?_
 exact signedL_le l _ _ (signedL_le l _ _ (signedL_le l _ _ (smallI_le l _ _ h)))
section
theorem infoStr : (Tryz.prog.info? 9).map (fun i => (i.zero, i.size, i.bytes)) = some (some (.string ⟨#[]⟩), 1, 16) := by kernel_rfl
/-- an append of one element, out of a block that has just been made -/
theorem step_one {W : World} {B n size bytes : Nat} {T t : TypeId} {v z : Value} {xs news : List Value} {T2 : TypeId} {ops : Array Oper} {o : Oper} {a : Act} {K : Act → World → Prop} {Q : Exit → Act → World → Prop} {E : Prop}
  (hi : (Tryz.prog.info? T).map (fun i => (i.zero, i.size, i.bytes)) = some (some z, size, bytes)) (ht : Tryz.prog.underlying t = some (.slice T)) (hzs : z.cells.size = size) (hsz : 0 < size)
  (ho : W.ownsRow B T size v n xs) (hB : B ≤ W.heap.size) (hgd : o.guard = none) (s x : Operand) (hop : o.op = .call { callee := .builtin .append, args := #[s, x], argTypes := #[t, t] })
  (hs : a.eval s = v) (hx : a.eval x = .slice (some ⟨W.heap.size, 0, none⟩) 1 1) (hl : news.length = size) (h1 : ∀ u ∈ news, u.oneCell' = true) (hn : n ≤ 100000000) (hby : bytes ≤ 100)
  (h : ∀ g cap V, V.ownsRow B T size (.slice (some ⟨g, 0, none⟩) (n + 1) cap) (n + 1) (xs ++ news) → Below B W V → (∀ K', (∀ b, B ≤ b → ¬ K' b T) → Kp K' W V) → K (a.put o.dst (.slice (some ⟨g, 0, none⟩) (n + 1) cap)) V) :
  if Region.wanted o (yielded ops a.tmps) = true then Oper.wp Tryz.prog o a (W.alloc (.cells news.toArray T2)) K Q else E := by
 obtain ⟨i0, hi, hz0, hz1, hz2⟩ := info_parts hi
 have hb0 : Below W.heap.size W (W.alloc (.cells news.toArray T2)) := (Below.refl _ _).alloc (Nat.le_refl _) _
 have hown1 := row_below ho hb0
 have h47 : (n + 1) * bytes ≤ 140737488355328 := Nat.le_trans (Nat.mul_le_mul (show n + 1 ≤ 100000001 by omega) hby) (by decide)
 refine step_append_lies _ hgd s x t hop B T i0 z size bytes ht hi hz0 hz1 hz2 hzs hsz v n xs hs hown1 ⟨W.heap.size, 0, none⟩ 1 1 news hx (by omega) (World.news_of_block (heap_alloc_new _ _)) h1 (by decide) (by unfold maxLen; omega) h47 (Nat.le_trans hB hb0.size) _ rfl ?_
 intro g cap V k1 k2 _ _
 have hbe : Below B W V := (hb0.mono hB).trans ((Below.refl B _).grown k2 (Nat.le_trans hB hb0.size) (fun j hj => (hown1.lt j hj).1))
 exact h _ _ V k1 hbe (fun K' hK => (Kp.below hb0).trans (Kp.grown hown1 k2 hK))
/-- the same where the operations stand in their order -/
theorem wp_one {W : World} {B n size bytes : Nat} {T t : TypeId} {v z : Value} {xs news : List Value} {T2 : TypeId} {ops : Array Oper} {rest : List Oper} {o : Oper} {a : Act} {Q : Exit → Act → World → Prop}
  (hi : (Tryz.prog.info? T).map (fun i => (i.zero, i.size, i.bytes)) = some (some z, size, bytes)) (ht : Tryz.prog.underlying t = some (.slice T)) (hzs : z.cells.size = size) (hsz : 0 < size)
  (ho : W.ownsRow B T size v n xs) (hB : B ≤ W.heap.size) (hgd : o.guard = none) (s x : Operand) (hop : o.op = .call { callee := .builtin .append, args := #[s, x], argTypes := #[t, t] })
  (hs : a.eval s = v) (H : Nat) (hH : W.heap.size = H) (hx : a.eval x = .slice (some ⟨H, 0, none⟩) 1 1) (hl : news.length = size) (h1 : ∀ u ∈ news, u.oneCell' = true) (hn : n ≤ 100000000) (hby : bytes ≤ 100)
  (h : ∀ g cap V, V.ownsRow B T size (.slice (some ⟨g, 0, none⟩) (n + 1) cap) (n + 1) (xs ++ news) → Below B W V → (∀ K', (∀ b, B ≤ b → ¬ K' b T) → Kp K' W V) → wpList Tryz.prog ops Q rest (a.put o.dst (.slice (some ⟨g, 0, none⟩) (n + 1) cap)) V) :
  wpList Tryz.prog ops Q (o :: rest) a (W.alloc (.cells news.toArray T2)) := by
 obtain ⟨i0, hi, hz0, hz1, hz2⟩ := info_parts hi
 subst hH
 have hb0 : Below W.heap.size W (W.alloc (.cells news.toArray T2)) := (Below.refl _ _).alloc (Nat.le_refl _) _
 have hown1 := row_below ho hb0
 have h47 : (n + 1) * bytes ≤ 140737488355328 := Nat.le_trans (Nat.mul_le_mul (show n + 1 ≤ 100000001 by omega) hby) (by decide)
 refine wpList_append_lies _ hgd s x t hop B T i0 z size bytes ht hi hz0 hz1 hz2 hzs hsz v n xs hs hown1 ⟨W.heap.size, 0, none⟩ 1 1 news hx (by omega) (World.news_of_block (heap_alloc_new _ _)) h1 (by decide) (by unfold maxLen; omega) h47 (Nat.le_trans hB hb0.size) _ rfl ?_
 intro g cap V k1 k2 _ _
 have hbe : Below B W V := (hb0.mono hB).trans ((Below.refl B _).grown k2 (Nat.le_trans hB hb0.size) (fun j hj => (hown1.lt j hj).1))
 exact h _ _ V k1 hbe (fun K' hK => (Kp.below hb0).trans (Kp.grown hown1 k2 hK))
/-- the program's box -/
def pgBlk (v0 v1 v2 : Value) (en : Int) : Obj := .cells #[v0, v1, v2, .int .i64 en] 26 (0, 0)
theorem KAt.pg {W : World} {m : Nat} {v0 v1 v2 : Value} {en : Int} (h : KAt W m (pgBlk v0 v1 v2 en)) : W.cell? ⟨m, 0, none⟩ = some v0 ∧ W.cell? ⟨m, 1, none⟩ = some v1 ∧ W.cell? ⟨m, 2, none⟩ = some v2 ∧ W.cell? ⟨m, 3, none⟩ = some (.int .i64 en) ∧ W.frozen? ⟨m, 0, none⟩ = false ∧ W.frozen? ⟨m, 1, none⟩ = false ∧ W.frozen? ⟨m, 2, none⟩ = false ∧ W.frozen? ⟨m, 3, none⟩ = false := by
 refine ⟨?_, ?_, ?_, ?_, frozen_of_row _ _ _ _ _ h.x, frozen_of_row _ _ _ _ _ h.x, frozen_of_row _ _ _ _ _ h.x, frozen_of_row _ _ _ _ _ h.x⟩
 all_goals (rw [cell_of_row _ _ _ _ _ _ h.x]; rfl)
/-- what Decode keeps: the result's box, the reader, the program's box -/
structure DcAt (w W : World) (m : Nat) (sl : Value) (i : Nat) (bad : Bool) (v0 v1 v2 : Value) (en : Int) : Prop where
 be : Below w.heap.size w W
 r : KAt W w.heap.size rzBlk
 b : KAt W (w.heap.size + 1) (rdBlk sl i bad)
 q : KAt W m (pgBlk v0 v1 v2 en)
 hm : w.heap.size + 1 < m
section
variable {w W V : World} {m : Nat} {sl : Value} {i : Nat} {bad : Bool} {v0 v1 v2 : Value} {en : Int}
theorem DcAt.call (h : DcAt w W m sl i bad v0 v1 v2 en) {j : Nat} {bad' : Bool} (k : BxAt W V (w.heap.size + 1) (rdBlk sl j bad')) : DcAt w V m sl j bad' v0 v1 v2 en := by
 have h1 := h.hm
 exact ⟨h.be.trans (k.be.mono (Nat.le_succ _)), k.blk h.r (by omega), k.k, k.blk h.q (by omega), h1⟩
theorem DcAt.low (h : DcAt w W m sl i bad v0 v1 v2 en) {B : Nat} (hb : Below B W V) (hB : m < B) : DcAt w V m sl i bad v0 v1 v2 en := by
 have h1 := h.hm
 exact ⟨h.be.trans (hb.mono (by omega)), ⟨by rw [hb.block _ (by omega)]; exact h.r.x⟩, ⟨by rw [hb.block _ (by omega)]; exact h.b.x⟩, ⟨by rw [hb.block _ hB]; exact h.q.x⟩, h1⟩
theorem DcAt.below (h : DcAt w W m sl i bad v0 v1 v2 en) (hb : Below W.heap.size W V) : DcAt w V m sl i bad v0 v1 v2 en := h.low hb (heap_lt h.q.x)
theorem DcAt.put0 (h : DcAt w W m sl i bad v0 v1 v2 en) (u : Value) : DcAt w (W.setCell ⟨m, 0, none⟩ u) m sl i bad u v1 v2 en := by
 have h1 := h.hm
 exact ⟨h.be.setCell (p := ⟨m, 0, none⟩) (by show _ ≤ m; omega) _, h.r.put ⟨m, 0, none⟩ (by show _ ≠ m; omega) u, h.b.put ⟨m, 0, none⟩ (by show _ ≠ m; omega) u, ⟨heap_setCell_same (i := 0) _ _ _ _ u h.q.x⟩, h1⟩
theorem DcAt.put1 (h : DcAt w W m sl i bad v0 v1 v2 en) (u : Value) : DcAt w (W.setCell ⟨m, 1, none⟩ u) m sl i bad v0 u v2 en := by
 have h1 := h.hm
 exact ⟨h.be.setCell (p := ⟨m, 1, none⟩) (by show _ ≤ m; omega) _, h.r.put ⟨m, 1, none⟩ (by show _ ≠ m; omega) u, h.b.put ⟨m, 1, none⟩ (by show _ ≠ m; omega) u, ⟨heap_setCell_same (i := 1) _ _ _ _ u h.q.x⟩, h1⟩
theorem DcAt.put2 (h : DcAt w W m sl i bad v0 v1 v2 en) (u : Value) : DcAt w (W.setCell ⟨m, 2, none⟩ u) m sl i bad v0 v1 u en := by
 have h1 := h.hm
 exact ⟨h.be.setCell (p := ⟨m, 2, none⟩) (by show _ ≤ m; omega) _, h.r.put ⟨m, 2, none⟩ (by show _ ≠ m; omega) u, h.b.put ⟨m, 2, none⟩ (by show _ ≠ m; omega) u, ⟨heap_setCell_same (i := 2) _ _ _ _ u h.q.x⟩, h1⟩
/-- the reader is moved -/
theorem DcAt.seek (h : DcAt w W m sl i bad v0 v1 v2 en) (j : Nat) : DcAt w (W.setCell ⟨w.heap.size + 1, 1, none⟩ (.int .i64 (j : Int))) m sl j bad v0 v1 v2 en := by
 have h1 := h.hm
 exact ⟨h.be.setCell (p := ⟨w.heap.size + 1, 1, none⟩) (Nat.le_succ _) _, h.r.put ⟨w.heap.size + 1, 1, none⟩ (by show _ ≠ w.heap.size + 1; omega) _, ⟨heap_setCell_same (i := 1) _ _ _ _ _ h.b.x⟩, h.q.put ⟨w.heap.size + 1, 1, none⟩ (by show m ≠ w.heap.size + 1; omega) _, h1⟩
theorem DcAt.rd (h : DcAt w W m sl i bad v0 v1 v2 en) : BxAt W W (w.heap.size + 1) (rdBlk sl i bad) := BxAt.start h.b
theorem DcAt.bys (h : DcAt w W m sl i bad v0 v1 v2 en) {a : Option Addr} {l : List UInt8} (hB : BysAt w a l) : BysAt W a l := hB.below h.be
end
/-- and a row of the call's own -/
structure DoAt (w W : World) (m : Nat) (sl : Value) (i : Nat) (bad : Bool) (v0 v1 v2 : Value) (en : Int) (B : Nat) (T : TypeId) (size : Nat) (v : Value) (n : Nat) (xs : List Value) : Prop where
 d : DcAt w W m sl i bad v0 v1 v2 en
 o : W.ownsRow B T size v n xs
 h : m < B
 hB : B ≤ W.heap.size
section
variable {w W V : World} {m : Nat} {sl : Value} {i : Nat} {bad : Bool} {v0 v1 v2 : Value} {en : Int} {B : Nat} {T : TypeId} {size : Nat} {v : Value} {n : Nat} {xs : List Value}
theorem DoAt.call (h : DoAt w W m sl i bad v0 v1 v2 en B T size v n xs) {j : Nat} {bad' : Bool} (k : BxAt W V (w.heap.size + 1) (rdBlk sl j bad')) : DoAt w V m sl j bad' v0 v1 v2 en B T size v n xs := by
 have h1 := h.h
 have h2 := h.d.hm
 exact ⟨h.d.call k, row_bx h.o (by omega) k, h1, Nat.le_trans h.hB k.be.size⟩
theorem DoAt.below (h : DoAt w W m sl i bad v0 v1 v2 en B T size v n xs) (hb : Below W.heap.size W V) : DoAt w V m sl i bad v0 v1 v2 en B T size v n xs := ⟨h.d.below hb, row_below h.o hb, h.h, Nat.le_trans h.hB hb.size⟩
theorem DoAt.put0 (h : DoAt w W m sl i bad v0 v1 v2 en B T size v n xs) (u : Value) : DoAt w (W.setCell ⟨m, 0, none⟩ u) m sl i bad u v1 v2 en B T size v n xs := ⟨h.d.put0 u, ownsRow_setCell_below h.o (a := ⟨m, 0, none⟩) h.h u, h.h, by simpa [World.setCell] using h.hB⟩
theorem DoAt.put1 (h : DoAt w W m sl i bad v0 v1 v2 en B T size v n xs) (u : Value) : DoAt w (W.setCell ⟨m, 1, none⟩ u) m sl i bad v0 u v2 en B T size v n xs := ⟨h.d.put1 u, ownsRow_setCell_below h.o (a := ⟨m, 1, none⟩) h.h u, h.h, by simpa [World.setCell] using h.hB⟩
theorem DoAt.put2 (h : DoAt w W m sl i bad v0 v1 v2 en B T size v n xs) (u : Value) : DoAt w (W.setCell ⟨m, 2, none⟩ u) m sl i bad v0 v1 u en B T size v n xs := ⟨h.d.put2 u, ownsRow_setCell_below h.o (a := ⟨m, 2, none⟩) h.h u, h.h, by simpa [World.setCell] using h.hB⟩
theorem DoAt.seek (h : DoAt w W m sl i bad v0 v1 v2 en B T size v n xs) (j : Nat) : DoAt w (W.setCell ⟨w.heap.size + 1, 1, none⟩ (.int .i64 (j : Int))) m sl j bad v0 v1 v2 en B T size v n xs := by
 have h1 := h.h
 have h2 := h.d.hm
 exact ⟨h.d.seek j, ownsRow_setCell_below h.o (a := ⟨w.heap.size + 1, 1, none⟩) (by show w.heap.size + 1 < B; omega) _, h1, by simpa [World.setCell] using h.hB⟩
theorem DoAt.start (h : DcAt w W m sl i bad v0 v1 v2 en) (T : TypeId) (size : Nat) : DoAt w W m sl i bad v0 v1 v2 en W.heap.size T size (.slice none 0 0) 0 [] :=
 ⟨h, World.ownsRow_nil _ _ _ _, heap_lt h.q.x, Nat.le_refl _⟩
/-- behind an append -/
theorem DoAt.grown (h : DoAt w W m sl i bad v0 v1 v2 en B T size v n xs) {v' : Value} {n' : Nat} {xs' : List Value} (ho : V.ownsRow B T size v' n' xs') (hb : Below B W V) : DoAt w V m sl i bad v0 v1 v2 en B T size v' n' xs' :=
 ⟨h.d.low hb h.h, ho, h.h, Nat.le_trans h.hB hb.size⟩
end
theorem or_word (u cc k : Nat) (hu : u < 2 ^ (8 * k)) (hc : cc < 256) (hk : k < 8) : bits .or .u64 (u : Int) (IntKind.u64.wrap ((cc : Int) * 2 ^ (8 * k))) = ((u + cc * 2 ^ (8 * k) : Nat) : Int) := by
 have hp : 2 ^ (8 * k) ≤ 2 ^ 56 := Nat.pow_le_pow_right (by decide) (by omega)
 have h56 : (2 : Nat) ^ 56 = 72057594037927936 := rfl
 have hvs : cc * 2 ^ (8 * k) ≤ 255 * 2 ^ (8 * k) := Nat.mul_le_mul_right _ (by omega)
 have e1 : ((cc : Int) * 2 ^ (8 * k)) = ((cc * 2 ^ (8 * k) : Nat) : Int) := by rw [Int.natCast_mul, Int.natCast_pow]; rfl
 rw [e1, IntWalk.u64_in _ (by omega), u64_or_nat u (cc * 2 ^ (8 * k)) (by omega) (by omega), Nat.add_comm, Nat.mul_comm cc, Nat.two_pow_add_eq_or_of_lt hu, Nat.or_comm]
abbrev strC (ss : List (List UInt8)) : List Value := ss.map fun s => Value.string ⟨s.toArray⟩
abbrev u64C (us : List Int) : List Value := us.map fun u => Value.int .u64 u
theorem strs_rest {K : Nat → TypeId → Prop} {W : World} {B : Nat} {v : Value} {ss : List (List UInt8)} (h : W.ownsRow B 9 1 v ss.length (strC ss)) (hs : ∀ s ∈ ss, s.length ≤ maxLen) (hK : ∀ b, B ≤ b → b < W.heap.size → K b 9) : ∃ a cap, v = .slice a ss.length cap ∧ ss.length ≤ cap ∧ StrsK K W a ss := by
 rcases Nat.eq_zero_or_pos ss.length with h0 | h0
 ·obtain rfl := List.length_eq_zero_iff.1 h0
  obtain ⟨a, cap, q, q1, q2⟩ := own_form h
  exact ⟨a, cap, q, q1, q2, hs, .inl rfl⟩
 ·obtain ⟨g, cap, cur, q, q1, q2, q3, q4, q5⟩ := own_parts h h0
  refine ⟨_, cap, q, q3, q4, hs, .inr ⟨g, cur, rfl, hK g q1 (heap_lt q2), q2, fun i s e => ?_⟩⟩
  have hi : i < ss.length := by
   rcases Nat.lt_or_ge i ss.length with hi | hi
   ·exact hi
   ·rw [List.getElem?_eq_none hi] at e; cases e
  rw [q5 i (by omega)]
  simp [strC, e]
theorem u64s_rest {K : Nat → TypeId → Prop} {W : World} {B : Nat} {v : Value} {us : List Int} (h : W.ownsRow B 45 1 v us.length (u64C us)) (hK : ∀ b, B ≤ b → b < W.heap.size → K b 45) : ∃ a cap, v = .slice a us.length cap ∧ us.length ≤ cap ∧ NumsK K 45 .u64 W a us := by
 rcases Nat.eq_zero_or_pos us.length with h0 | h0
 ·obtain rfl := List.length_eq_zero_iff.1 h0
  rcases h.2 with ⟨q, -⟩ | ⟨g, cap, cur, q, q1, q2, q3, q4, q5, q6⟩
  ·exact ⟨none, 0, q, Nat.le_refl _, by decide, .inl rfl⟩
  ·exact ⟨_, cap, q, q3, by decide, .inr ⟨g, cur, rfl, hK g q1 (heap_lt q2), q2, fun i hi => absurd hi (Nat.not_lt_zero i)⟩⟩
 ·obtain ⟨g, cap, cur, q, q1, q2, q3, q4, q5⟩ := own_parts h h0
  refine ⟨_, cap, q, q3, q4, .inr ⟨g, cur, rfl, hK g q1 (heap_lt q2), q2, fun i hi => ?_⟩⟩
  rw [q5 i (by omega)]
  simp [u64C, List.getD, hi]
end
section
/-- what is kept while the reals, the functions, a function's code are read -/
def KS (m : Nat) (b : Nat) (T : TypeId) : Prop := m < b ∧ T = 9
def KO (m : Nat) (b : Nat) (T : TypeId) : Prop := m < b ∧ (T = 3 ∨ T = 58 ∨ T = 9 ∨ T = 45)
def KI (m fb : Nat) (b : Nat) (T : TypeId) : Prop := m < b ∧ b ≠ fb ∧ (T = 3 ∨ T = 9 ∨ T = 45 ∨ (T = 58 ∧ b < fb))
/-- functions, strings, reals at rest -/
structure RsT (K : Nat → TypeId → Prop) (W : World) (fs : List Fu) (xs : List Value) (sa : Option Addr) (ss : List (List UInt8)) (ra : Option Addr) (us : List Int) : Prop where
 f : FnsV K W fs xs
 s : StrsK K W sa ss
 u : NumsK K 45 .u64 W ra us
theorem RsT.kp {K : Nat → TypeId → Prop} {W V : World} {fs : List Fu} {xs : List Value} {sa ra : Option Addr} {ss : List (List UInt8)} {us : List Int} (h : RsT K W fs xs sa ss ra us) (q : Kp K W V) : RsT K V fs xs sa ss ra us := ⟨h.f.kp q, h.s.kp q, h.u.kp q⟩
theorem RsT.wk {K K' : Nat → TypeId → Prop} {W : World} {fs : List Fu} {xs : List Value} {sa ra : Option Addr} {ss : List (List UInt8)} {us : List Int} (h : RsT K W fs xs sa ss ra us)
  (hI : ∀ b, b < W.heap.size → K b 3 → K' b 3) (hC : ∀ b, b < W.heap.size → K b 58 → K' b 58) (hS : ∀ b, b < W.heap.size → K b 9 → K' b 9) (hU : ∀ b, b < W.heap.size → K b 45 → K' b 45) : RsT K' W fs xs sa ss ra us :=
 ⟨h.f.wk hI hC, h.s.wk hS, h.u.wk hU⟩
/-- a function's box -/
def fbBlk (ps rs : Int) (v : Value) : Obj := .cells #[.int .i64 ps, .int .i64 rs, v] 48 (0, 0)
theorem KAt.fb {W : World} {m : Nat} {ps rs : Int} {v : Value} (h : KAt W m (fbBlk ps rs v)) : W.cell? ⟨m, 0, none⟩ = some (.int .i64 ps) ∧ W.cell? ⟨m, 1, none⟩ = some (.int .i64 rs) ∧ W.cell? ⟨m, 2, none⟩ = some v ∧ W.frozen? ⟨m, 2, none⟩ = false := by
 refine ⟨?_, ?_, ?_, frozen_of_row _ _ _ _ _ h.x⟩
 all_goals (rw [cell_of_row _ _ _ _ _ _ h.x]; rfl)
/-- within the reading of a function's code -/
structure DfAt (w W : World) (m : Nat) (sl : Value) (i : Nat) (bad : Bool) (v1 v2 : Value) (en : Int) (B : Nat) (v : Value) (fs : List Fu) (xs : List Value) (sa : Option Addr) (ss : List (List UInt8)) (ra : Option Addr) (us : List Int) (fb : Nat) (ps rs : Int) (vc : Value) (code : List In) (ys : List Value) : Prop where
 d : DcAt w W m sl i bad v v1 v2 en
 oo : W.ownsRow B 48 3 v fs.length xs
 ov : ∀ g, v.ownBlock = some g → g < fb
 f : KAt W fb (fbBlk ps rs vc)
 o : W.ownsRow (fb + 1) 58 6 vc code.length ys
 r : RsT (KI m fb) W fs xs sa ss ra us
 c : CdV (KI m fb) W code ys
 hm : m < B
 hB : B ≤ fb
section
variable {w W V : World} {m : Nat} {sl : Value} {i : Nat} {bad : Bool} {v1 v2 : Value} {en : Int} {B : Nat} {v : Value} {fs : List Fu} {xs : List Value} {sa : Option Addr} {ss : List (List UInt8)} {ra : Option Addr} {us : List Int} {fb : Nat} {ps rs : Int} {vc : Value} {code : List In} {ys : List Value}
theorem DfAt.start (h : DoAt w W m sl i bad v v1 v2 en B 48 3 v fs.length xs) (r : RsT (KO m) W fs xs sa ss ra us) (ps rs : Int) :
  DfAt w (W.alloc (fbBlk ps rs (.slice none 0 0))) m sl i bad v1 v2 en B v fs xs sa ss ra us W.heap.size ps rs (.slice none 0 0) [] [] := by
 have hA : Below W.heap.size W (W.alloc (fbBlk ps rs (.slice none 0 0))) := (Below.refl _ _).alloc (Nat.le_refl _) _
 have r2 : RsT (KI m W.heap.size) W fs xs sa ss ra us := r.wk (fun b hb k => ⟨k.1, by omega, .inl rfl⟩) (fun b hb k => ⟨k.1, by omega, .inr (.inr (.inr ⟨rfl, hb⟩))⟩) (fun b hb k => ⟨k.1, by omega, .inr (.inl rfl)⟩) (fun b hb k => ⟨k.1, by omega, .inr (.inr (.inl rfl))⟩)
 exact ⟨h.d.below hA, row_below h.o hA, fun g hg => (h.o.lt g hg).2, KAt.new _ _, World.ownsRow_nil _ _ _ _, r2.kp (Kp.below hA), CdV.nil _ _, h.h, h.hB⟩
theorem DfAt.call (h : DfAt w W m sl i bad v1 v2 en B v fs xs sa ss ra us fb ps rs vc code ys) {j : Nat} {bad' : Bool} (k : BxAt W V (w.heap.size + 1) (rdBlk sl j bad')) : DfAt w V m sl j bad' v1 v2 en B v fs xs sa ss ra us fb ps rs vc code ys := by
 have h1 := h.hm
 have h2 := h.d.hm
 have h3 := h.hB
 have q : Kp (KI m fb) W V := Kp.bx k (fun T h => by have := h.1; omega)
 exact ⟨h.d.call k, row_bx h.oo (by omega) k, h.ov, k.blk h.f (by omega), row_bx h.o (by omega) k, h.r.kp q, h.c.kp q, h1, h3⟩
theorem DfAt.below (h : DfAt w W m sl i bad v1 v2 en B v fs xs sa ss ra us fb ps rs vc code ys) (hb : Below W.heap.size W V) : DfAt w V m sl i bad v1 v2 en B v fs xs sa ss ra us fb ps rs vc code ys :=
 ⟨h.d.below hb, row_below h.oo hb, h.ov, h.f.below hb, row_below h.o hb, h.r.kp (Kp.below hb), h.c.kp (Kp.below hb), h.hm, h.hB⟩
theorem own_low {T : TypeId} {size n : Nat} {u : Value} {zs : List Value} {C : Nat} (h : W.ownsRow B T size u n zs) (hu : ∀ g, u.ownBlock = some g → g < C) (hb : Below C W V) : V.ownsRow B T size u n zs := by
 refine ⟨h.1, ?_⟩
 rcases h.2 with q | ⟨g, cap, cur, rfl, q1, q2, q3⟩
 ·exact .inl q
 ·exact .inr ⟨g, cap, cur, rfl, q1, by rw [hb.block g (hu g rfl)]; exact q2, q3⟩
theorem DfAt.app (h : DfAt w W m sl i bad v1 v2 en B v fs xs sa ss ra us fb ps rs vc code ys) {vc' : Value} {x : In} {zs : List Value} (ho : V.ownsRow (fb + 1) 58 6 vc' (code.length + 1) (ys ++ zs)) (hb : Below (fb + 1) W V) (hk : Kp (KI m fb) W V) (hz : zs.length = 6) (hx : InV (KI m fb) V x (fun k => zs[k]?)) :
  DfAt w (V.setCell ⟨fb, 2, none⟩ vc') m sl i bad v1 v2 en B v fs xs sa ss ra us fb ps rs vc' (code ++ [x]) (ys ++ zs) := by
 have h1 := h.hm
 have h2 := h.d.hm
 have h3 := h.hB
 have hf : KAt V fb (fbBlk ps rs vc) := ⟨by rw [hb.block fb (Nat.lt_succ_self _)]; exact h.f.x⟩
 have hs : Kp (KI m fb) V (V.setCell ⟨fb, 2, none⟩ vc') := Kp.set2 hf (fun k => k.2.1 rfl) 2 vc'
 have hbs : Below fb V (V.setCell ⟨fb, 2, none⟩ vc') := (Below.refl fb V).setCell (p := ⟨fb, 2, none⟩) (Nat.le_refl _) _
 refine ⟨(h.d.low hb (by omega)).low hbs (by omega), own_low (own_low h.oo (fun g hg => Nat.lt_succ_of_lt (h.ov g hg)) hb) h.ov hbs, h.ov, ⟨heap_setCell_same (i := 2) _ _ _ _ vc' hf.x⟩, ?_, (h.r.kp hk).kp hs, ((h.c.kp hk).snoc hz hx).kp hs, h1, h3⟩
 have := ownsRow_setCell_below ho (a := ⟨fb, 2, none⟩) (Nat.lt_succ_self fb) vc'
 simpa using this
/-- the function that has been read, at rest -/
theorem DfAt.fn (h : DfAt w W m sl i bad v1 v2 en B v fs xs sa ss ra us fb ps rs vc code ys) : FnV (KO m) W ⟨ps, rs, code⟩ (fun k => [Value.int .i64 ps, .int .i64 rs, vc][k]?) := by
 have h1 := h.hm
 have h3 := h.hB
 rcases Nat.eq_zero_or_pos code.length with h0 | h0
 ·obtain rfl := List.length_eq_zero_iff.1 h0
  obtain ⟨a, cap, rfl, q1, q2⟩ := own_form h.o
  exact ⟨a, cap, rfl, rfl, rfl, q2, .inl rfl⟩
 ·obtain ⟨g, cap, cur, rfl, q1, q2, q3, q4, q5⟩ := own_parts h.o h0
  refine ⟨_, cap, rfl, rfl, rfl, q4, .inr ⟨g, cur, rfl, ⟨by omega, .inr (.inl rfl)⟩, q2, fun i x e => ?_⟩⟩
  have hi : i < code.length := by
   rcases Nat.lt_or_ge i code.length with hi | hi
   ·exact hi
   ·rw [List.getElem?_eq_none hi] at e; cases e
  exact ((h.c.2 i x e).wk (fun b _ k => ⟨k.1, .inl rfl⟩)).same (fun k hk => q5 _ (by omega))
theorem DfAt.rest (h : DfAt w W m sl i bad v1 v2 en B v fs xs sa ss ra us fb ps rs vc code ys) : RsT (KO m) W fs xs sa ss ra us :=
 h.r.wk (fun b _ k => ⟨k.1, .inl rfl⟩) (fun b _ k => ⟨k.1, .inr (.inl rfl)⟩) (fun b _ k => ⟨k.1, .inr (.inr (.inl rfl))⟩) (fun b _ k => ⟨k.1, .inr (.inr (.inr rfl))⟩)
theorem DfAt.out (h : DfAt w W m sl i bad v1 v2 en B v fs xs sa ss ra us fb ps rs vc code ys) : DoAt w W m sl i bad v v1 v2 en B 48 3 v fs.length xs := ⟨h.d, h.oo, h.hm, Nat.le_trans h.hB (Nat.le_of_lt (heap_lt h.f.x))⟩
end
/-- the program at rest -/
theorem pg_rest {K : Nat → TypeId → Prop} {W : World} {B : Nat} {fs : List Fu} {xs : List Value} {sa : Option Addr} {ss : List (List UInt8)} {ra : Option Addr} {us : List Int} {fa : Option Addr} {fc : Nat}
  (o : W.ownsRow B 48 3 (.slice fa fs.length fc) fs.length xs) (r : RsT K W fs xs sa ss ra us) (hu : ∀ u ∈ us, 0 ≤ u ∧ u < 18446744073709551616) (en' : Int) : PgAt W fa sa ra ⟨fs, ss, us, en'⟩ := by
 rcases Nat.eq_zero_or_pos fs.length with h0 | h0
 ·obtain rfl := List.length_eq_zero_iff.1 h0
  exact ⟨⟨Nat.zero_le _, .inl rfl⟩, r.s.at, r.u.at, hu⟩
 ·obtain ⟨g, cap, cur, hv, q1, q2, q3, q4, q5⟩ := own_parts o h0
  cases hv
  refine ⟨⟨q4, .inr ⟨g, 0, rfl, fun i f e => ?_⟩⟩, r.s.at, r.u.at, hu⟩
  have hi : i < fs.length := by
   rcases Nat.lt_or_ge i fs.length with hi | hi
   ·exact hi
   ·rw [List.getElem?_eq_none hi] at e; cases e
  rw [Nat.zero_add]
  exact FnV.at q2 ((r.f.2 i f e).same (fun k hk => q5 _ (by omega)))
/-- a program at rest in blocks of a kind -/
structure PgK (K : Nat → TypeId → Prop) (W : World) (fa sa ra : Option Addr) (P : Pg) : Prop where
 f : P.fs.length ≤ maxLen ∧ (P.fs = [] ∨ ∃ b cs, fa = some ⟨b, 0, none⟩ ∧ K b 48 ∧ W.heap[b]? = some (.cells cs 48 (0, 0)) ∧ ∀ i f, P.fs[i]? = some f → FnV K W f (fun k => cs[i * 3 + k]?))
 s : StrsK K W sa P.ss
 u : NumsK K 45 .u64 W ra P.us
 z : ∀ u ∈ P.us, 0 ≤ u ∧ u < 18446744073709551616
theorem PgK.kp {K : Nat → TypeId → Prop} {W V : World} {fa sa ra : Option Addr} {P : Pg} (h : PgK K W fa sa ra P) (q : Kp K W V) : PgK K V fa sa ra P := by
 refine ⟨⟨h.f.1, ?_⟩, h.s.kp q, h.u.kp q, h.z⟩
 rcases h.f.2 with h1 | ⟨b, cs, h1, h2, h3, h4⟩
 ·exact .inl h1
 ·exact .inr ⟨b, cs, h1, h2, q.k b cs _ h2 h3, fun i f e => (h4 i f e).kp q⟩
theorem PgK.at {K : Nat → TypeId → Prop} {W : World} {fa sa ra : Option Addr} {P : Pg} (h : PgK K W fa sa ra P) : PgAt W fa sa ra P := by
 refine ⟨⟨h.f.1, ?_⟩, h.s.at, h.u.at, h.z⟩
 rcases h.f.2 with h1 | ⟨b, cs, h1, h2, h3, h4⟩
 ·exact .inl h1
 ·exact .inr ⟨b, 0, h1, fun i f e => by rw [Nat.zero_add]; exact (h4 i f e).at h3⟩
theorem PgK.wk {K K' : Nat → TypeId → Prop} {W : World} {fa sa ra : Option Addr} {P : Pg} (h : PgK K W fa sa ra P) (q : ∀ b T, b < W.heap.size → K b T → K' b T) : PgK K' W fa sa ra P := by
 refine ⟨⟨h.f.1, ?_⟩, h.s.wk (fun b hb k => q b _ hb k), h.u.wk (fun b hb k => q b _ hb k), h.z⟩
 rcases h.f.2 with h1 | ⟨b, cs, h1, h2, h3, h4⟩
 ·exact .inl h1
 ·exact .inr ⟨b, cs, h1, q b _ (heap_lt h3) h2, h3, fun i f e => (h4 i f e).wk (fun b hb k => q b _ hb k) (fun b hb k => q b _ hb k)⟩
/-- above a block -/
abbrev KUp (lo : Nat) : Nat → TypeId → Prop := fun b _ => lo < b
/-- and with the result's box written -/
theorem pg_put4 {W : World} {S m B : Nat} {fs : List Fu} {xs : List Value} {sa : Option Addr} {ss : List (List UInt8)} {ra : Option Addr} {us : List Int} {fa : Option Addr} {fc : Nat}
  (o : W.ownsRow B 48 3 (.slice fa fs.length fc) fs.length xs) (r : RsT (KO m) W fs xs sa ss ra us) (hS : S < m) (hm : m < B) (hu : ∀ u ∈ us, 0 ≤ u ∧ u < 18446744073709551616) (en' : Int) (a b c d : Value) :
  PgK (KUp S) ((((W.setCell ⟨S, 0, none⟩ a).setCell ⟨S, 1, none⟩ b).setCell ⟨S, 2, none⟩ c).setCell ⟨S, 3, none⟩ d) fa sa ra ⟨fs, ss, us, en'⟩ := by
 have h0 : PgK (KUp S) W fa sa ra ⟨fs, ss, us, en'⟩ := by
  have r2 : RsT (KUp S) W fs xs sa ss ra us := r.wk (fun b _ k => by have := k.1; show S < b; omega) (fun b _ k => by have := k.1; show S < b; omega) (fun b _ k => by have := k.1; show S < b; omega) (fun b _ k => by have := k.1; show S < b; omega)
  rcases Nat.eq_zero_or_pos fs.length with h0 | h0
  ·obtain rfl := List.length_eq_zero_iff.1 h0
   exact ⟨⟨Nat.zero_le _, .inl rfl⟩, r2.s, r2.u, hu⟩
  ·obtain ⟨g, cap, cur, hv, q1, q2, q3, q4, q5⟩ := own_parts o h0
   cases hv
   refine ⟨⟨q4, .inr ⟨g, cur, rfl, by show S < g; omega, q2, fun i f e => ?_⟩⟩, r2.s, r2.u, hu⟩
   have hi : i < fs.length := by
    rcases Nat.lt_or_ge i fs.length with hi | hi
    ·exact hi
    ·rw [List.getElem?_eq_none hi] at e; cases e
   exact (r2.f.2 i f e).same (fun k hk => q5 _ (by omega))
 have q : ∀ (W : World) i v, Kp (KUp S) W (W.setCell ⟨S, i, none⟩ v) := fun W i v => Kp.set ⟨S, i, none⟩ v (fun _ _ _ h => Nat.lt_irrefl S h)
 exact (((h0.kp (q _ 0 a)).kp (q _ 1 b)).kp (q _ 2 c)).kp (q _ 3 d)
theorem pg0_at (K : Nat → TypeId → Prop) (W : World) : PgK K W none none none pg0 := ⟨⟨Nat.zero_le _, .inl rfl⟩, ⟨Nat.zero_le _, by simp [pg0], .inl rfl⟩, ⟨Nat.zero_le _, .inl rfl⟩, by simp [pg0]⟩
end
set_option maxHeartbeats 4000000 in
set_option maxRecDepth 8000 in
theorem decode_long (a : Option Addr) (l : List UInt8) (cap : Nat) (w : World) (hB : BysAt w a l) (hl : 16777216 < l.length) :
  Calls Tryz.prog 23 #[.slice a l.length cap] w fun x w' => x = .returned (.tuple #[.agg #[.slice none 0 0, .slice none 0 0, .slice none 0 0, .int .i64 0], .int .i64 2]) ∧ Below w.heap.size w w' := by
 have hm : l.length ≤ maxLen := hB.1
 unfold maxLen at hm
 obtain ⟨n, hn⟩ : ∃ n, l.length = n := ⟨_, rfl⟩
 rw [hn] at hl hm ⊢
 have k0 : decide ((16777216 : Int) < (n : Int)) = true := decide_eq_true (by omega)
 have K0 := hid (KAt.new w rzBlk)
 obtain ⟨r0, r1, r2, r3, z0, z1, z2, z3⟩ := (KAt.new w rzBlk).zcells
 clear hB hn hl
 go_enter Tryz.func23, Tryz.ntmps23
 go_wp2_with fail
 have hi' : (Tryz.prog.info? 26).map (·.size) = some 4 := by kernel_rfl
 (try simp only [Exit.inBlock, Exit.then]); refine bodyPost_ret (results_cell2 rfl _ _ w.heap.size 26 _ (0, 0) _ rfl (K0.out.x) Tryz.underlying26 rfl hi') rfl ?_
 have hl : Below w.heap.size w (w.alloc rzBlk) := (Below.refl _ _).alloc (Nat.le_refl _) _
 exact ⟨rfl, hl⟩
theorem BysAt.blk2 {W V : World} {g off : Nat} {l : List UInt8} (h : BysAt W (some ⟨g, off, none⟩) l) (e : g < W.heap.size → V.heap[g]? = W.heap[g]?) (hz : W.heap.size ≤ V.heap.size) : BysAt V (some ⟨g, off, none⟩) l := by
 refine ⟨h.1, ?_⟩
 rcases h.2 with q | ⟨b, o, q1, q2, q3⟩
 ·exact .inl q
 ·cases q1
  exact .inr ⟨g, off, rfl, Nat.lt_of_lt_of_le q2 hz, fun i hi => (World.cell?_of_block (a := ⟨g, off + i, none⟩) (e q2)).trans (q3 i hi)⟩
theorem BysAt.bx2 {W V : World} {g off p : Nat} {l : List UInt8} {o : Obj} (h : BysAt W (some ⟨g, off, none⟩) l) (hn : g ≠ p) (k : BxAt W V p o) : BysAt V (some ⟨g, off, none⟩) l := h.blk2 (fun hl => k.kp g hl hn) k.be.size
theorem BysAt.put2 {W : World} {g off : Nat} {l : List UInt8} (h : BysAt W (some ⟨g, off, none⟩) l) {a : Addr} (hn : g ≠ a.block) (v : Value) : BysAt (W.setCell a v) (some ⟨g, off, none⟩) l := h.blk2 (fun hl => Below.heap_setCell _ _ _ _ hn) (by simp [World.setCell])
theorem BysAt.tail {W : World} {g off : Nat} {x : UInt8} {l : List UInt8} (h : BysAt W (some ⟨g, off, none⟩) (x :: l)) : BysAt W (some ⟨g, off + 1, none⟩) l := by
 refine ⟨by have := h.1; simp at this; omega, ?_⟩
 rcases h.2 with q | ⟨b, o, q1, q2, q3⟩
 ·cases q
 ·cases q1
  refine .inr ⟨g, off + 1, rfl, q2, fun i hi => ?_⟩
  have := q3 (i + 1) (by simp; omega)
  rw [show off + 1 + i = off + (i + 1) by omega, this]
  rfl
theorem BysAt.head {W : World} {g off : Nat} {x : UInt8} {l : List UInt8} (h : BysAt W (some ⟨g, off, none⟩) (x :: l)) : W.cell? ⟨g, off, none⟩ = some (.int .u8 (x.toNat : Int)) := by
 rcases h.2 with q | ⟨b, o, q1, q2, q3⟩
 ·cases q
 ·cases q1
  exact q3 0 (by simp)
theorem BysAt.drop {W : World} {g off : Nat} : ∀ {n : Nat} {l : List UInt8}, n ≤ l.length → BysAt W (some ⟨g, off, none⟩) l → BysAt W (some ⟨g, off + n, none⟩) (l.drop n) := by
 intro n
 induction n generalizing off with
 | zero => intro l _ h; exact h
 | succ n ih =>
  intro l hn h
  match l, hn with
  | x :: l, hn =>
   have := ih (off := off + 1) (l := l) (by simpa using hn) h.tail
   rw [show off + (n + 1) = off + 1 + n by omega]
   exact this
theorem BysAt.take2 {W : World} {a : Option Addr} {l : List UInt8} (h : BysAt W a l) (n : Nat) : BysAt W a (l.take n) := by
 refine ⟨Nat.le_trans (by simp; omega) h.1, ?_⟩
 rcases h.2 with q | ⟨b, o, q1, q2, q3⟩
 ·exact .inl (by rw [q]; simp)
 ·refine .inr ⟨b, o, q1, q2, fun i hi => ?_⟩
  have hi2 : i < n ∧ i < l.length := by simp at hi; omega
  rw [q3 i hi2.2]
  simp [List.getD, hi2.1]
theorem BysAt.new2 {W : World} {g off : Nat} {l : List UInt8} (h : BysAt W (some ⟨g, off, none⟩) l) : ∀ j u, (Lib.byteCells l)[j]? = some u → W.cell? ((⟨g, off, none⟩ : Addr).add j) = some u := by
 rcases h.2 with q | ⟨b, o, q1, q2, q3⟩
 ·subst q; intro j u hu; simp [Lib.byteCells] at hu
 ·cases q1
  exact BysAt.news q3
theorem wrap64_nat (n : Nat) (h : n < 9223372036854775808) : wrap64 (n : Int) = (n : Int) := by unfold wrap64; omega
end Go.Proofs.YtokjkligechcoaaGreatDoor
