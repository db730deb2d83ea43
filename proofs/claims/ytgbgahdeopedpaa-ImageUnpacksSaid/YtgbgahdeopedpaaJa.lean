/- Walks of layer 16's reference: the reader of numbers, at any bytes. -/
import Derived.Test.YtgbgahdeopedpaaGj
namespace Go.Proofs.Ytgbgahdeopedpaa
open Go.RowKit
set_option linter.unusedVariables false
attribute [local go_sem] ext_mk size_mk toList_mk get_mk take_drop_len take_tail_len ByteArray.mk_append_mk List.append_toArray

/-- a number in at most nine groups of seven bits, read: f: how many groups may follow -/
def natF (l : List UInt8) : Nat → Nat → Nat → Nat × Nat × Bool
  | 0, at', _ => (0, at', true)
  | f + 1, at', n =>
    if l.length ≤ at' then (0, at', true)
    else if (l.getD at' 0).toNat < 128 then (n + (l.getD at' 0).toNat % 128 * 2 ^ (7 * (8 - f)), at' + 1, decide ((l.getD at' 0).toNat = 0 ∧ f < 8))
    else natF l f (at' + 1) (n + (l.getD at' 0).toNat % 128 * 2 ^ (7 * (8 - f)))

def natL (l : List UInt8) (at' : Nat) (bad : Bool) : Nat × Nat × Bool := if bad then (0, at', true) else natF l 9 at' 0

theorem natF_le (l : List UInt8) : ∀ f at' n, at' ≤ l.length → (natF l f at' n).2.1 ≤ l.length := by
  intro f
  induction f with
  | zero => intro a n h; exact h
  | succ f ih =>
    intro a n h
    unfold natF
    split
    · exact h
    · split
      · show a + 1 ≤ _; omega
      · exact ih _ _ (by omega)

theorem natL_le (l : List UInt8) (i : Nat) (bad : Bool) (h : i ≤ l.length) : (natL l i bad).2.1 ≤ l.length := by
  unfold natL; split
  · exact h
  · exact natF_le l 9 i 0 h

theorem natF_lt (l : List UInt8) : ∀ f at' n, f ≤ 9 → n < 2 ^ (7 * (9 - f)) → (natF l f at' n).1 < 9223372036854775808 := by
  intro f
  induction f with
  | zero => intro a n _ h; show (0 : Nat) < _; decide
  | succ f ih =>
    intro a n hf hn
    have hp : n + (l.getD a 0).toNat % 128 * 2 ^ (7 * (8 - f)) < 2 ^ (7 * (9 - f)) := by
      have e : 7 * (9 - f) = 7 * (8 - f) + 7 := by omega
      rw [show 7 * (9 - (f + 1)) = 7 * (8 - f) by omega] at hn
      rw [e, Nat.pow_add]
      have : (l.getD a 0).toNat % 128 < 128 := Nat.mod_lt _ (by decide)
      have h2 : (l.getD a 0).toNat % 128 * 2 ^ (7 * (8 - f)) ≤ 127 * 2 ^ (7 * (8 - f)) := Nat.mul_le_mul_right _ (by omega)
      have h3 : (2 : Nat) ^ 7 = 128 := rfl
      rw [h3]
      omega
    unfold natF
    split
    · show (0 : Nat) < _; decide
    · split
      · show n + _ < _
        refine Nat.lt_of_lt_of_le hp ?_
        have : 2 ^ (7 * (9 - f)) ≤ 2 ^ 63 := Nat.pow_le_pow_right (by decide) (by omega)
        have h3 : (2 : Nat) ^ 63 = 9223372036854775808 := rfl
        omega
      · exact ih _ _ (by omega) hp

theorem natL_lt (l : List UInt8) (i : Nat) (bad : Bool) : (natL l i bad).1 < 9223372036854775808 := by
  unfold natL; split
  · show (0 : Nat) < _; decide
  · exact natF_lt l 9 i 0 (Nat.le_refl _) (by decide)

/-- the reference's reader's box -/
def rbBlk (v : Value) (at' : Nat) (bad : Bool) : Obj := .cells #[v, .int .i64 at', .bool bad] 102 (0, 0)

theorem KAt.rbcells {W : World} {p : Nat} {v : Value} {i : Nat} {bad : Bool} (h : KAt W p (rbBlk v i bad)) : W.cell? ⟨p, 0, none⟩ = some v ∧ W.cell? ⟨p, 1, none⟩ = some (.int .i64 i) ∧ W.cell? ⟨p, 2, none⟩ = some (.bool bad) ∧ W.frozen? ⟨p, 1, none⟩ = false ∧ W.frozen? ⟨p, 2, none⟩ = false := by
  refine ⟨?_, ?_, ?_, frozen_of_row _ _ _ _ _ h.x, frozen_of_row _ _ _ _ _ h.x⟩
  all_goals (rw [cell_of_row _ _ _ _ _ _ h.x]; rfl)

set_option maxHeartbeats 4000000 in
set_option maxRecDepth 8000 in
theorem rnat_rd (p : Nat) (a : Option Addr) (l : List UInt8) (cap i0 : Nat) (bad : Bool) (w0 w : World) (hk : KAt w p (rbBlk (.slice a l.length cap) i0 bad)) (hB : BysAt w0 a l) (h0 : w0.heap.size ≤ p) (hb0 : Below w0.heap.size w0 w) (hi : i0 ≤ l.length) :
    Calls Try.prog 45 #[.pointer (some ⟨p, 0, none⟩)] w fun x w' => x = .returned (.int .i64 ((natL l i0 bad).1 : Nat)) ∧ BxAt w w' p (rbBlk (.slice a l.length cap) (natL l i0 bad).2.1 (natL l i0 bad).2.2) := by
  have B0 := Lib.hid (BxAt.start hk)
  have HB := Lib.hid hB
  have HB0 := Lib.hid hb0
  have hm : (l.length : Int) ≤ 9223372036854775807 := by have := hB.1; unfold maxLen at this; omega
  cases bad with
  | true =>
    obtain ⟨d0, d1, d2, z1, z2⟩ := hk.rbcells
    clear hk hB hb0
    go_enter Try.func45, Try.ntmps45
    go_wp2_with fail
    go_loopw [3, 4] (fun v3 v4 wr => v3 = .int .u64 0 ∧ v4 = .int .i64 0 ∧ wr = w) (fun _ v4 _ => 0)
    case atStart => exact ⟨rfl, rfl, rfl⟩
    case round =>
      obtain ⟨rfl, rfl, rfl⟩ := hrel
      go_wp2_with fail
      go_ret
      exact ⟨rfl, B0.out⟩
  | false =>
    rw [show natL l i0 false = natF l 9 i0 0 from rfl]
    clear hk hB hb0
    go_enter Try.func45, Try.ntmps45
    go_wp2_with fail
    go_loopw [3, 4] (fun v3 v4 wr => ∃ f i n k : Nat, f ≤ 9 ∧ k = 9 - f ∧ v3 = .int .u64 (n : Int) ∧ v4 = .int .i64 (k : Int) ∧ n < 2 ^ (7 * k) ∧ i ≤ l.length ∧ natF l 9 i0 0 = natF l f i n ∧ BxAt w wr p (rbBlk (.slice a l.length cap) i false)) (fun _ v4 _ => 9 - (intOf v4).toNat)
    case atStart => exact ⟨9, i0, 0, 0, Nat.le_refl _, rfl, rfl, rfl, by decide, hi, rfl, B0.out⟩
    case round =>
      clear hi
      obtain ⟨f, i, n, k, hf, hk, rfl, rfl, hn, hi, he, hBx⟩ := hrel
      have HE := Lib.hid he
      have HX := Lib.hid hBx
      obtain ⟨d0, d1, d2, z1, z2⟩ := hBx.k.rbcells
      clear he hBx
      by_cases hle : l.length ≤ i
      · have k1 : decide ((l.length : Int) ≤ (i : Int)) = true := decide_eq_true (by omega)
        have HU := Lib.hid (show natF l f i n = (0, i, true) by cases f with | zero => rfl | succ f => unfold natF; rw [if_pos hle])
        go_wp2_with fail
        go_quiet (fail)
        go_wp2_with fail
        go_ret
        exact ⟨by rw [HE.out, HU.out]; rfl, by rw [HE.out, HU.out]; exact (HX.out.below (below_drewN (Below.refl _ _) _)).set (i := 2) _⟩
      · have k1 : decide ((l.length : Int) ≤ (i : Int)) = false := decide_eq_false (by omega)
        have k1b : decide ((i : Int) < (l.length : Int)) = true := decide_eq_true (by omega)
        cases f with
        | zero =>
          have k0 : decide ((8 : Int) < (k : Int)) = true := decide_eq_true (by omega)
          go_wp2_with fail
          go_quiet (fail)
          go_wp2_with fail
          go_ret
          exact ⟨by rw [HE.out]; rfl, by rw [HE.out]; exact (HX.out.below (below_drewN (Below.refl _ _) _)).set (i := 2) _⟩
        | succ f =>
          have k0 : decide ((8 : Int) < (k : Int)) = false := decide_eq_false (by omega)
          obtain ⟨b, off, rfl, hc⟩ := bys_get (HB.out.below (HB0.out.trans (HX.out.be.mono h0))) (show i < l.length by omega)
          obtain ⟨c, hcc⟩ : ∃ c, (l.getD i 0).toNat = c := ⟨_, rfl⟩
          have hc256 : c < 256 := by rw [← hcc]; exact (l.getD i 0).toNat_lt
          rw [hcc] at hc
          have HC := Lib.hid hcc
          have k2 : IntKind.i64.wrap ((i : Int) + 1) = (i : Int) + 1 := IntWalk.i64_in _ (by omega)
          have hk8 : k = 8 - f := by omega
          subst hk8
          obtain ⟨k, hkk⟩ : ∃ k, 8 - f = k := ⟨_, rfl⟩
          rw [hkk] at hn k0 ⊢
          have hs63 : 7 * k ≤ 56 := by omega
          have hp : n + c % 128 * 2 ^ (7 * k) < 9223372036854775808 ∧ n + c % 128 * 2 ^ (7 * k) < 2 ^ (7 * k + 7) := by
            have h2 : c % 128 * 2 ^ (7 * k) ≤ 127 * 2 ^ (7 * k) := Nat.mul_le_mul_right _ (by omega)
            have h4 : 2 ^ (7 * k) ≤ 2 ^ 56 := Nat.pow_le_pow_right (by decide) hs63
            have h5 : (2 : Nat) ^ 56 = 72057594037927936 := rfl
            have h3 : (2 : Nat) ^ (7 * k + 7) = 128 * 2 ^ (7 * k) := by rw [Nat.pow_add, Nat.mul_comm]
            omega
          have HP := Lib.hid hp
          have HV := Lib.hid (show bits .or .u64 (n : Int) (IntKind.u64.wrap ((c : Int) % 128 * 2 ^ (7 * k))) = ((n + c % 128 * 2 ^ (7 * k) : Nat) : Int) by
            have e1 : ((c : Int) % 128 * 2 ^ (7 * k)) = ((c % 128 * 2 ^ (7 * k) : Nat) : Int) := by rw [Int.natCast_mul, Int.natCast_pow]; rfl
            rw [e1, IntWalk.u64_in _ (by omega), u64_or_nat n (c % 128 * 2 ^ (7 * k)) (by omega) (by omega), Nat.add_comm, Nat.mul_comm (c % 128), Nat.two_pow_add_eq_or_of_lt hn, Nat.or_comm])
          have HM := Lib.hid (show natF l (f + 1) i n = if c < 128 then (n + c % 128 * 2 ^ (7 * k), i + 1, decide (c = 0 ∧ f < 8)) else natF l f (i + 1) (n + c % 128 * 2 ^ (7 * k)) by
            rw [← hkk]
            conv => lhs; unfold natF
            rw [if_neg hle, HC.out])
          have hk9 : k ≤ 8 := by omega
          have HK := Lib.hid hkk
          have HF := Lib.hid hf
          clear hp hkk hs63
          by_cases hlt : c < 128
          · have k5 : decide ((c : Int) < 128) = true := decide_eq_true (by omega)
            have HU := Lib.hid (HM.out.trans (if_pos hlt))
            obtain ⟨fl, hfl⟩ : ∃ fl, decide (c = 0 ∧ f < 8) = fl := ⟨_, rfl⟩
            rw [hfl] at HU
            have hq : (((c : Int) == 0) = false ∧ fl = false) ∨ (((c : Int) == 0) = true ∧ decide (0 < k) = fl) := by
              have := HK.out
              have := HF.out
              rw [← hfl]
              by_cases h : c = 0
              · right; refine ⟨by simp [h], ?_⟩; rw [Bool.eq_iff_iff]; simp [h]; omega
              · left; exact ⟨by simpa using h, by simp [h]⟩
            clear hfl hk hf hcc
            rcases hq with ⟨kz, rfl⟩ | ⟨kz, kf⟩
            · go_wp2_with fail
              go_quiet (fail)
              go_wp2_with fail
              go_quiet (fail)
              go_wp2_with fail
              go_ret
              refine ⟨?_, ?_⟩
              · rw [HE.out, HU.out, HV.out, show wrap64 ((n + c % 128 * 2 ^ (7 * k) : Nat) : Int) = ((n + c % 128 * 2 ^ (7 * k) : Nat) : Int) from wrap64_nat _ HP.out.1]; rfl
              · rw [HE.out, HU.out]; exact ((HX.out.below (below_drewN (Below.refl _ _) _)).set (i := 1) _).set (i := 2) _
            · go_wp2_with fail
              go_quiet (fail)
              go_wp2_with fail
              go_quiet (fail)
              go_wp2_with fail
              go_ret
              refine ⟨?_, ?_⟩
              · rw [HE.out, HU.out, HV.out, show wrap64 ((n + c % 128 * 2 ^ (7 * k) : Nat) : Int) = ((n + c % 128 * 2 ^ (7 * k) : Nat) : Int) from wrap64_nat _ HP.out.1]; rfl
              · rw [HE.out, HU.out]; exact ((HX.out.below (below_drewN (Below.refl _ _) _)).set (i := 1) _).set (i := 2) _
          · have k5 : decide ((c : Int) < 128) = false := decide_eq_false (by omega)
            have HU := Lib.hid (HM.out.trans (if_neg hlt))
            clear hk hf hcc
            go_wp2_with fail
            go_quiet (fail)
            go_wp2_with fail
            go_quiet (fail)
            go_wp2_with fail
            go_roundw
            case rel => exact ⟨f, i + 1, n + c % 128 * 2 ^ (7 * k), k + 1, by have := HF.out; omega, by have := HK.out; have := HF.out; omega, congrArg (fun z => Value.int .u64 z) HV.out, rfl, HP.out.2, by omega, HE.out.trans HU.out, (HX.out.below (below_drewN (Below.refl _ _) _)).set (i := 1) _⟩
            case measure => simp only [intOf]; omega

theorem k1b_of (n j x : Nat) (h : j ≤ n) (hx : n - j = x) (hm : (n : Int) ≤ 9223372036854775807) : wrap64 ((n : Int) - (j : Int)) = (x : Int) := by rw [show ((n : Int) - (j : Int)) = (x : Int) by omega]; exact wrap64_nat x (by omega)

def rsigL (l : List UInt8) (i : Nat) (bad : Bool) : Int × Nat × Bool := (unzig (natL l i bad).1, (natL l i bad).2)

/-- how many there are of what takes a byte at least -/
def rcntL (l : List UInt8) (i : Nat) (bad : Bool) : Nat × Nat × Bool :=
  if l.length - (natL l i bad).2.1 < (natL l i bad).1 then (0, (natL l i bad).2.1, true) else natL l i bad

theorem rsigL_le (l : List UInt8) (i : Nat) (bad : Bool) (h : i ≤ l.length) : (rsigL l i bad).2.1 ≤ l.length := natL_le l i bad h

theorem rcntL_le (l : List UInt8) (i : Nat) (bad : Bool) (h : i ≤ l.length) : (rcntL l i bad).2.1 ≤ l.length := by
  unfold rcntL; split <;> exact natL_le l i bad h

theorem rcntL_fit (l : List UInt8) (i : Nat) (bad : Bool) : (rcntL l i bad).1 ≤ l.length - (rcntL l i bad).2.1 := by
  unfold rcntL; split
  · exact Nat.zero_le _
  · rename_i h; exact Nat.le_of_not_lt h
section
variable (p : Nat) (a : Option Addr) (l : List UInt8) (cap i0 : Nat) (bad : Bool) (w0 w : World) (hk : KAt w p (rbBlk (.slice a l.length cap) i0 bad)) (hB : BysAt w0 a l) (h0 : w0.heap.size ≤ p) (hb0 : Below w0.heap.size w0 w) (hi : i0 ≤ l.length)
include hk hB h0 hb0 hi

set_option maxHeartbeats 4000000 in
set_option maxRecDepth 8000 in
theorem rsigned_rd :
    Calls Try.prog 58 #[.pointer (some ⟨p, 0, none⟩)] w fun x w' => x = .returned (.int .i64 (rsigL l i0 bad).1) ∧ BxAt w w' p (rbBlk (.slice a l.length cap) (rsigL l i0 bad).2.1 (rsigL l i0 bad).2.2) := by
  have C := Lib.hid (rnat_rd p a l cap i0 bad w0 w hk hB h0 hb0 hi)
  have hlt := natL_lt l i0 bad
  unfold rsigL
  obtain ⟨q, hq⟩ : ∃ q, natL l i0 bad = q := ⟨_, rfl⟩
  rw [hq] at C hlt ⊢
  obtain ⟨n, j, f⟩ := q
  have hlt : n < 9223372036854775808 := hlt
  clear hk hB hb0 hi hq
  obtain ⟨m, hm⟩ : ∃ m, n / 2 = m := ⟨_, rfl⟩
  have kh : ((n : Int) / 2) = (m : Int) := by omega
  have hm2 : m < 4611686018427387904 := by omega
  unfold unzig
  rw [show ((n, j, f) : Nat × Nat × Bool).1 = n from rfl, hm]
  by_cases hb : n % 2 = 1
  · have ka : ((n : Int) % 2 == 1) = true := by rw [beq_iff_eq]; omega
    rw [if_pos hb]
    clear hm hlt
    go_enter Try.func58, Try.ntmps58
    go_wp2_with (first | (go_at_call 45; (with_reducible refine C.out.mono ?_); rintro e w1 ⟨rfl, hx⟩; have HX := Lib.hid hx; clear hx))
    go_ret
    exact ⟨rfl, HX.out⟩
  · have ka : ((n : Int) % 2 == 1) = false := beq_eq_false_iff_ne.2 (by omega)
    rw [if_neg hb]
    clear hm hlt
    go_enter Try.func58, Try.ntmps58
    go_wp2_with (first | (go_at_call 45; (with_reducible refine C.out.mono ?_); rintro e w1 ⟨rfl, hx⟩; have HX := Lib.hid hx; clear hx))
    go_ret
    exact ⟨rfl, HX.out⟩

set_option maxHeartbeats 4000000 in
set_option maxRecDepth 8000 in
theorem rcount_rd :
    Calls Try.prog 46 #[.pointer (some ⟨p, 0, none⟩)] w fun x w' => x = .returned (.int .i64 ((rcntL l i0 bad).1 : Nat)) ∧ BxAt w w' p (rbBlk (.slice a l.length cap) (rcntL l i0 bad).2.1 (rcntL l i0 bad).2.2) := by
  have C := Lib.hid (rnat_rd p a l cap i0 bad w0 w hk hB h0 hb0 hi)
  have hlt := natL_lt l i0 bad
  have hjl := natL_le l i0 bad hi
  have hm : (l.length : Int) ≤ 9223372036854775807 := by have := hB.1; unfold maxLen at this; omega
  unfold rcntL
  obtain ⟨q, hq⟩ : ∃ q, natL l i0 bad = q := ⟨_, rfl⟩
  rw [hq] at C hlt hjl ⊢
  obtain ⟨n, j, f⟩ := q
  have hlt : n < 9223372036854775808 := hlt
  have hjl : j ≤ l.length := hjl
  clear hk hB hb0 hi hq
  obtain ⟨x, hx⟩ : ∃ x, l.length - j = x := ⟨_, rfl⟩
  have k1 : IntKind.i64.wrap ((l.length : Int) - (j : Int)) = (x : Int) := by rw [IntWalk.i64_in _ (by omega)]; omega
  have k1b : wrap64 ((l.length : Int) - (j : Int)) = (x : Int) := k1b_of l.length j x hjl hx hm
  rw [show ((n, j, f) : Nat × Nat × Bool).2.1 = j from rfl, show ((n, j, f) : Nat × Nat × Bool).1 = n from rfl, hx]
  clear hx
  by_cases hb : x < n
  · have kb : decide ((x : Int) < (n : Int)) = true := decide_eq_true (by omega)
    rw [if_pos hb]
    go_enter Try.func46, Try.ntmps46
    go_wp2_with (first | (go_at_call 45; (with_reducible refine C.out.mono ?_); rintro e w1 ⟨rfl, hx⟩; have HX := Lib.hid hx; obtain ⟨d0, d1, d2, z1, z2⟩ := hx.k.rbcells; clear hx))
    go_quiet (fail)
    go_wp2_with fail
    go_ret
    exact ⟨rfl, (HX.out.below (below_drewN (Below.refl _ _) _)).set (i := 2) _⟩
  · have kb : decide ((x : Int) < (n : Int)) = false := decide_eq_false (by omega)
    rw [if_neg hb]
    go_enter Try.func46, Try.ntmps46
    go_wp2_with (first | (go_at_call 45; (with_reducible refine C.out.mono ?_); rintro e w1 ⟨rfl, hx⟩; have HX := Lib.hid hx; obtain ⟨d0, d1, d2, z1, z2⟩ := hx.k.rbcells; clear hx))
    go_quiet (fail)
    go_wp2_with fail
    go_ret
    exact ⟨rfl, HX.out.below (below_drewN (Below.refl _ _) _)⟩
end
end Go.Proofs.Ytgbgahdeopedpaa
