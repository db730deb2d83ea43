/- The plain law of layer 24's check sum: up to 32 bits in a row, turned anywhere, are told. No program in sight. -/
import Derived.Test.YtgbgahdeopedpaaIs
import Derived.Test.YtgbgahdeopedpaaEf
import Derived.Test.YtgbgahdeopedpaaLi
import Derived.Deep.RegionHeld3
namespace Go.Proofs.Ytgbgahdeopedpaa.Im
open Go.RowKit

/-- bytes as one number, the first the lowest -/
def leN : List UInt8 → Nat
  | [] => 0
  | c :: l => c.toNat + 256 * leN l

theorem leN_app (l m : List UInt8) : leN (l ++ m) = leN l + 2 ^ (8 * l.length) * leN m := by
  induction l with
  | nil => simp [leN]
  | cons c l ih =>
    simp only [List.cons_append, leN, List.length_cons, ih]
    rw [show 8 * (l.length + 1) = 8 * l.length + 8 by omega, Nat.pow_add, Nat.mul_add]
    have : 256 * (2 ^ (8 * l.length) * leN m) = 2 ^ (8 * l.length) * 2 ^ 8 * leN m := by
      rw [show (2 : Nat) ^ 8 = 256 from rfl, Nat.mul_comm (2 ^ (8 * l.length)) 256, Nat.mul_assoc]
    omega

theorem leN_lt (l : List UInt8) : leN l < 2 ^ (8 * l.length) := by
  induction l with
  | nil => simp [leN]
  | cons c l ih =>
    simp only [leN, List.length_cons]
    rw [show 8 * (l.length + 1) = 8 * l.length + 8 by omega, Nat.pow_add, show (2 : Nat) ^ 8 = 256 from rfl]
    have := c.toNat_lt
    have h2 : (2 : Nat) ^ 8 = 256 := rfl
    omega

theorem add_xor {n a : Nat} (h : a < 2 ^ n) (m : Nat) : a + 2 ^ n * m = a ^^^ (2 ^ n * m) := by
  rw [Nat.add_comm, Nat.two_pow_add_eq_or_of_lt h]
  apply Nat.eq_of_testBit_eq
  intro i
  rw [Nat.testBit_or, Nat.testBit_xor, Nat.testBit_two_pow_mul]
  by_cases hi : n ≤ i
  · rw [Nat.testBit_lt_two_pow (Nat.lt_of_lt_of_le h (Nat.pow_le_pow_right (by decide) hi))]
    simp
  · simp [hi]

theorem stK_two (n m : Nat) : stK n (2 ^ n * m) = m := by
  induction n generalizing m with
  | zero => simp [stK]
  | succ n ih =>
    show st1 (stK n (2 ^ (n + 1) * m)) = m
    rw [Nat.pow_succ, Nat.mul_assoc, ih, st1_even]

theorem stK_add (a b x : Nat) : stK (a + b) x = stK b (stK a x) := by
  induction b with
  | zero => rfl
  | succ b ih => show st1 (stK (a + b) x) = st1 (stK b (stK a x)); rw [ih]

theorem fold_leN (l : List UInt8) : ∀ x, l.foldl (fun x c => byT x c.toNat) x = stK (8 * l.length) (x ^^^ leN l) := by
  induction l with
  | nil => intro x; simp [leN, stK]
  | cons c l ih =>
    intro x
    have hz : c.toNat < 2 ^ 8 := c.toNat_lt
    rw [List.foldl_cons, ih, byT_eq, leN, show (256 : Nat) = 2 ^ 8 from rfl, add_xor hz, List.length_cons, show 8 * (l.length + 1) = 8 + 8 * l.length by omega, stK_add, ← Nat.xor_assoc, stK_xor 8 (x ^^^ c.toNat), stK_two]

theorem crc_leN (l : List UInt8) : crc l = stK (8 * l.length) (4294967295 ^^^ leN l) := fold_leN l _

/-- what stands behind a body is its sum -/
def okSum (b : List UInt8) : Prop := leN (b.drop (b.length - 4)) = sumL (b.take (b.length - 4))

theorem sum_xor {x y : Nat} (hx : x < 4294967296) (h : y = 4294967295 - x) : x ^^^ y = 4294967295 := by
  subst h
  apply Nat.eq_of_testBit_eq
  intro i
  rw [Nat.testBit_xor, show 4294967295 - x = 2 ^ 32 - (x + 1) by omega, Nat.testBit_two_pow_sub_succ (by omega), show (4294967295 : Nat) = 2 ^ 32 - (0 + 1) by rfl, Nat.testBit_two_pow_sub_succ (by decide)]
  by_cases hi : i < 32
  · simp [hi]
  · rw [Nat.testBit_lt_two_pow (Nat.lt_of_lt_of_le (show x < 2 ^ 32 by omega) (Nat.pow_le_pow_right (by decide) (by omega)))]
    simp [hi]

theorem okSum_st {b : List UInt8} (h : okSum b) : stK (8 * (b.length - 4)) (4294967295 ^^^ leN b) = 4294967295 := by
  have hl : (b.take (b.length - 4)).length = b.length - 4 := by simp
  have hb : leN b = leN (b.take (b.length - 4)) ^^^ 2 ^ (8 * (b.length - 4)) * leN (b.drop (b.length - 4)) := by
    conv => lhs; rw [← List.take_append_drop (b.length - 4) b]
    rw [leN_app, add_xor (leN_lt _), hl]
  rw [hb, ← Nat.xor_assoc, stK_xor, stK_two]
  have h1 := crc_leN (b.take (b.length - 4))
  rw [hl] at h1
  rw [← h1]
  exact sum_xor (crc_lt _) h

theorem st1_zero {x : Nat} (hx : x < 4294967296) (h : st1 x = 0) : x = 0 := by
  unfold st1 at h
  split at h
  · exfalso
    have h2 := congrArg (fun z => Nat.testBit z 31) h
    simp only [Nat.testBit_xor] at h2
    rw [Nat.testBit_lt_two_pow (show x / 2 < 2 ^ 31 by omega)] at h2
    exact absurd h2 (by decide)
  · omega

theorem stK_ne {n x : Nat} (hx : x < 4294967296) (h : x ≠ 0) : stK n x ≠ 0 ∧ stK n x < 4294967296 := by
  induction n with
  | zero => exact ⟨h, hx⟩
  | succ n ih => exact ⟨fun h0 => ih.1 (st1_zero ih.2 h0), st1_lt ih.2⟩

/-- a burst -/
theorem burst {b c : List UInt8} {from1 e : Nat} (hl : c.length = b.length) (he : e < 4294967296) (h0 : e ≠ 0) (hd : leN c = leN b ^^^ 2 ^ from1 * e) (hb : okSum b) : ¬ okSum c := by
  intro hc
  have h1 := okSum_st hb
  have h2 := okSum_st hc
  rw [hl, hd, ← Nat.xor_assoc, stK_xor, h1] at h2
  have h3 : stK (8 * (b.length - 4)) (2 ^ from1 * e) = 0 := by
    have h5 := congrArg (fun z => 4294967295 ^^^ z) h2
    simpa [← Nat.xor_assoc] using h5
  by_cases hf : from1 ≤ 8 * (b.length - 4)
  · rw [show 8 * (b.length - 4) = from1 + (8 * (b.length - 4) - from1) by omega, stK_add, stK_two] at h3
    exact (stK_ne he h0).1 h3
  · rw [show from1 = 8 * (b.length - 4) + (from1 - 8 * (b.length - 4)) by omega, Nat.pow_add, Nat.mul_assoc, stK_two] at h3
    have := Nat.pos_of_ne_zero h0
    have h6 : 0 < 2 ^ (from1 - 8 * (b.length - 4)) * e := Nat.mul_pos (Nat.pow_pos (by decide)) this
    omega

/-- one bit turned -/
theorem leN_flip : ∀ (l : List UInt8) (i j : Nat), i < l.length → j < 8 → leN (l.set i (UInt8.ofNat ((l.getD i 0).toNat ^^^ 2 ^ j))) = leN l ^^^ 2 ^ (8 * i + j) := by
  intro l
  induction l with
  | nil => intro i j hi; simp at hi
  | cons c l ih =>
    intro i j hi hj
    have hz := c.toNat_lt
    have hj2 : (2 : Nat) ^ j < 2 ^ 8 := Nat.pow_lt_pow_right (by decide) hj
    have hx : c.toNat ^^^ 2 ^ j < 2 ^ 8 := Nat.xor_lt_two_pow (by omega) hj2
    cases i with
    | zero =>
      simp only [List.set_cons_zero, leN, List.getD_cons_zero]
      rw [UInt8.toNat_ofNat', Nat.mod_eq_of_lt hx, show (256 : Nat) = 2 ^ 8 from rfl, add_xor hx, add_xor (n := 8) (by omega)]
      simp only [Nat.mul_zero, Nat.zero_add]
      rw [Nat.xor_assoc, Nat.xor_assoc, Nat.xor_comm (2 ^ j)]
    | succ i =>
      simp only [List.set_cons_succ, leN, List.getD_cons_succ]
      rw [ih i j (by simpa using hi) hj, show (256 : Nat) = 2 ^ 8 from rfl, add_xor (n := 8) (by omega), add_xor (n := 8) (by omega), Nat.xor_assoc]
      congr 1
      rw [show 8 * (i + 1) + j = 8 + (8 * i + j) by omega, Nat.pow_add 2 8]
      obtain ⟨z, hz2⟩ : ∃ z, 2 ^ (8 * i + j) = z := ⟨_, rfl⟩
      rw [hz2]
      have h := fun a b => Nat.shiftLeft_xor_distrib (a := a) (b := b) (i := 8)
      simp only [Nat.shiftLeft_eq] at h
      rw [Nat.mul_comm (2 ^ 8) (leN l), Nat.mul_comm (2 ^ 8) z, ← h, Nat.mul_comm]
end Go.Proofs.Ytgbgahdeopedpaa.Im
/- Walks of layer 24: bytes that are no image's, by their first bytes or their sum. -/
namespace Go.Proofs.Ytgbgahdeopedpaa
open Go.RowKit
set_option linter.unusedVariables false
attribute [local go_sem] ext_mk size_mk toList_mk get_mk take_drop_len take_tail_len ByteArray.mk_append_mk List.append_toArray

theorem or_le (a b : Nat) {n : Nat} (ha : a < 2 ^ n) : a ||| b * 2 ^ n = a + b * 2 ^ n := by
  rw [Nat.add_comm, Nat.mul_comm b, Nat.two_pow_add_eq_or_of_lt ha, Nat.or_comm]

theorem or4 (a b c d : UInt8) : bits .or .u32 (bits .or .u32 (bits .or .u32 (a.toNat : Int) ((b.toNat : Int) * 256)) ((c.toNat : Int) * 65536)) ((d.toNat : Int) * 16777216) = ((Im.leN [a, b, c, d] : Nat) : Int) := by
  have ha := a.toNat_lt
  have hb := b.toNat_lt
  have hc := c.toNat_lt
  have hd := d.toNat_lt
  have e1 : bits .or .u32 (a.toNat : Int) ((b.toNat : Int) * 256) = ((a.toNat + b.toNat * 256 : Nat) : Int) := by
    have := u32_or_nat a.toNat (b.toNat * 256) (by omega) (by omega)
    rw [Int.natCast_mul] at this
    refine this.trans ?_
    rw [show (256 : Nat) = 2 ^ 8 from rfl, or_le _ _ ha]
  have e2 : bits .or .u32 ((a.toNat + b.toNat * 256 : Nat) : Int) ((c.toNat : Int) * 65536) = ((a.toNat + b.toNat * 256 + c.toNat * 65536 : Nat) : Int) := by
    have := u32_or_nat (a.toNat + b.toNat * 256) (c.toNat * 65536) (by omega) (by omega)
    rw [Int.natCast_mul] at this
    refine this.trans ?_
    rw [show (65536 : Nat) = 2 ^ 16 from rfl, or_le _ _ (by omega)]
  have e3 : bits .or .u32 ((a.toNat + b.toNat * 256 + c.toNat * 65536 : Nat) : Int) ((d.toNat : Int) * 16777216) = ((a.toNat + b.toNat * 256 + c.toNat * 65536 + d.toNat * 16777216 : Nat) : Int) := by
    have := u32_or_nat (a.toNat + b.toNat * 256 + c.toNat * 65536) (d.toNat * 16777216) (by omega) (by omega)
    rw [Int.natCast_mul] at this
    refine this.trans ?_
    rw [show (16777216 : Nat) = 2 ^ 24 from rfl, or_le _ _ (by omega)]
  rw [e1, e2, e3]
  congr 1
  simp only [Im.leN]
  omega

/-- bytes at an address, one by one -/
theorem bys_at0 {W : World} {g : Nat} {l : List UInt8} (h : BysAt W (some ⟨g, 0, none⟩) l) {i : Nat} (hi : i < l.length) : W.cell? ⟨g, i, none⟩ = some (.int .u8 ((l.getD i 0).toNat : Int)) := by
  rcases h.2 with h | ⟨b, off, ha, hb, hc⟩
  · subst h; simp at hi
  · cases ha
    have := hc i hi
    rwa [Nat.zero_add] at this

/-- bytes, parted: the first five; the last four -/
theorem parts9 {l : List UInt8} (h : 9 ≤ l.length) : ∃ a0 a1 a2 a3 a4 mid t0 t1 t2 t3, l = [a0, a1, a2, a3, a4] ++ mid ++ [t0, t1, t2, t3] := by
  match l, h with
  | a0 :: a1 :: a2 :: a3 :: a4 :: r, h =>
    simp only [List.length_cons] at h
    have h4 : (r.drop (r.length - 4)).length = 4 := by simp; omega
    obtain ⟨t, ht⟩ : ∃ t, r.drop (r.length - 4) = t := ⟨_, rfl⟩
    rw [ht] at h4
    match t, h4 with
    | [t0, t1, t2, t3], _ =>
      refine ⟨a0, a1, a2, a3, a4, r.take (r.length - 4), t0, t1, t2, t3, ?_⟩
      rw [← ht]
      simp

set_option maxHeartbeats 4000000 in
set_option maxRecDepth 8000 in
theorem sections_bad (g cap : Nat) (l : List UInt8) (w : World) (hB : BysAt w (some ⟨g, 0, none⟩) l) (hc : l.length ≤ cap) (h9 : 9 ≤ l.length) (hbad : l.take 4 ≠ [107, 105, 108, 110] ∨ l.getD 4 0 ≠ 1 ∨ ¬ Im.okSum l) :
    Calls Try.prog 26 #[.slice (some ⟨g, 0, none⟩) l.length cap] w fun x w' => ∃ er : Int, er ≠ 0 ∧ x = .returned (.tuple #[.agg #[.slice none 0 0, .slice none 0 0, .slice none 0 0], .int .i64 er]) ∧ Below w.heap.size w w' := by
  obtain ⟨a0, a1, a2, a3, a4, mid, t0, t1, t2, t3, he⟩ := parts9 h9
  obtain ⟨m, hm⟩ : ∃ m, mid.length + 5 = m := ⟨_, rfl⟩
  have hn : l.length = m + 4 := by rw [he, ← hm]; simp
  have HB := Lib.hid hB
  have hb : ∀ i, i < l.length → w.cell? ⟨g, i, none⟩ = some (.int .u8 ((l.getD i 0).toNat : Int)) := fun i hi => bys_at0 hB hi
  have b0 := hb 0 (by omega)
  have b1 := hb 1 (by omega)
  have b2 := hb 2 (by omega)
  have b3 := hb 3 (by omega)
  have b4 := hb 4 (by omega)
  have c0 := hb m (by omega)
  have c1 := hb (m + 1) (by omega)
  have c2 := hb (m + 2) (by omega)
  have c3 := hb (m + 3) (by omega)
  have hd : ∀ i v, i < 4 → [t0, t1, t2, t3].getD i 0 = v → l.getD (m + i) 0 = v := by
    intro i v hi hv
    rw [he, ← hv]
    simp only [List.getD_eq_getElem?_getD]
    rw [List.getElem?_append_right (by simp; omega)]
    simp [← hm]
  rw [show m = m + 0 from rfl, hd 0 t0 (by decide) rfl] at c0
  rw [hd 1 t1 (by decide) rfl] at c1
  rw [hd 2 t2 (by decide) rfl] at c2
  rw [hd 3 t3 (by decide) rfl] at c3
  rw [show l.getD 0 0 = a0 by rw [he]; rfl] at b0
  rw [show l.getD 1 0 = a1 by rw [he]; rfl] at b1
  rw [show l.getD 2 0 = a2 by rw [he]; rfl] at b2
  rw [show l.getD 3 0 = a3 by rw [he]; rfl] at b3
  rw [show l.getD 4 0 = a4 by rw [he]; rfl] at b4 hbad
  rw [show l.take 4 = [a0, a1, a2, a3] by rw [he]; rfl] at hbad
  have hbody : BysAt w (some ⟨g, 0, none⟩) ([a0, a1, a2, a3, a4] ++ mid) := by
    refine ⟨by have := hB.1; rw [hn] at this; simp [hm]; omega, .inr ⟨g, 0, rfl, World.block_lt_of_cell? w _ b0, fun i hi => ?_⟩⟩
    have hi2 : i < m := by rw [← hm]; simpa using hi
    rw [Nat.zero_add, hb i (by omega), he]
    congr 3
    simp only [List.getD_eq_getElem?_getD]
    rw [List.getElem?_append_left hi]
  have hbl : ([a0, a1, a2, a3, a4] ++ mid).length = m := by rw [← hm]; simp
  have htk : l.take (l.length - 4) = [a0, a1, a2, a3, a4] ++ mid := by rw [hn, Nat.add_sub_cancel, he]; exact List.take_left' hbl
  have hdr : l.drop (l.length - 4) = [t0, t1, t2, t3] := by rw [hn, Nat.add_sub_cancel, he]; exact List.drop_left' hbl
  have hok : Im.okSum l ↔ Im.leN [t0, t1, t2, t3] = Im.sumL ([a0, a1, a2, a3, a4] ++ mid) := by unfold Im.okSum; rw [htk, hdr]
  rw [hok] at hbad
  have hgl : g < w.heap.size := World.block_lt_of_cell? w _ b0
  have hA2 : ∀ o1 o2, Below w.heap.size w ((w.alloc o1).alloc o2) := fun o1 o2 => ((Below.refl _ _).alloc (Nat.le_refl _) _).alloc (by simp) _
  have hcv : ∀ o1 o2, Sem.run Try.prog (convert 22 9 (.slice (some ⟨g, 0, none⟩) 4 cap)) ((w.alloc o1).alloc o2) = .ok (.string ⟨#[a0, a1, a2, a3]⟩) ((w.alloc o1).alloc o2) := fun o1 o2 => by
    refine conv_bys (l := [a0, a1, a2, a3]) cap (BysAt.news (l := [a0, a1, a2, a3]) (off := 0) fun i hi => ?_)
    have e : ∀ i, ((w.alloc o1).alloc o2).cell? ⟨g, 0 + i, none⟩ = w.cell? ⟨g, i, none⟩ := fun i => by rw [Nat.zero_add]; exact (hA2 o1 o2).cell (p := ⟨g, i, none⟩) hgl
    rw [e]
    match i, hi with
    | 0, _ => exact b0
    | 1, _ => exact b1
    | 2, _ => exact b2
    | 3, _ => exact b3
  obtain ⟨n, hnn⟩ : ∃ n, l.length = n := ⟨_, rfl⟩
  have hm4 : (n : Int) ≤ 9223372036854775807 := by have := hB.1; unfold maxLen at this; omega
  have g1 : decide ((n : Int) < 9) = false := decide_eq_false (by omega)
  have g2 : IntKind.i64.wrap ((n : Int) - 4) = (m : Int) := by rw [IntWalk.i64_in _ (by omega)]; omega
  have g3 : (n : Int) - 4 = (m : Int) := by omega
  have g4 : 4 ≤ cap := by omega
  have g5 : n ≤ cap := by omega
  have g6 : m ≤ n := by omega
  have g7 : n - m = 4 := by omega
  have gx : (4 : Int) < (n : Int) := by omega
  have gy : decide ((4 : Int) < (n : Int)) = true := decide_eq_true gx
  rw [hnn] at hc ⊢
  have HA2 := Lib.hid hA2
  have KZ := Lib.hid ((KAt.new w zBlk).alloc zBlk)
  unfold zBlk at KZ
  rw [Nat.add_zero] at c0
  have HBO := Lib.hid hbody
  have HBL := Lib.hid hbl
  clear hok htk hdr hb hd hB hA2 he hn h9 hm hbody hbl hnn hc
  have hBl : (⟨#[a0, a1, a2, a3]⟩ : ByteArray).toList = [a0, a1, a2, a3] := toList_mk [a0, a1, a2, a3]
  obtain ⟨B, hBB⟩ : ∃ B, (⟨#[a0, a1, a2, a3]⟩ : ByteArray) = B := ⟨_, rfl⟩
  rw [hBB] at hcv hBl
  clear hBB b0 b1 b2 b3
  by_cases hM : [a0, a1, a2, a3] = [107, 105, 108, 110]
  rotate_left
  · have hs : (B.toList == [107, 105, 108, 110]) = false := by rw [hBl]; simpa using hM
    clear hM hbad hBl c0 c1 c2 c3
    go_enter Try.func26, Try.ntmps26
    go_wp2_with fail
    have hi' : (Try.prog.info? 67).map (·.size) = some 3 := by kernel_rfl
    (try simp only [Exit.inBlock, Exit.then]); refine bodyPost_ret (results_cell2 rfl _ _ w.heap.size 67 _ (0, 0) _ rfl (KZ.out.x) Try.underlying67 rfl hi') rfl ?_
    exact ⟨240, by decide, rfl, HA2.out _ _⟩
  have hs : (B.toList == [107, 105, 108, 110]) = true := by rw [hBl]; simpa using hM
  replace hbad := hbad.resolve_left (fun q => q hM)
  clear hM hBl
  have b4' : ∀ o1 o2, ((w.alloc o1).alloc o2).cell? ⟨g, 4, none⟩ = some (.int .u8 (a4.toNat : Int)) := fun o1 o2 => ((HA2.out o1 o2).cell (p := ⟨g, 4, none⟩) hgl).trans b4
  by_cases h4 : a4 = 1
  rotate_left
  · have hv : ((a4.toNat : Int) == 1) = false := by
      rw [beq_eq_false_iff_ne]
      intro q
      exact h4 (UInt8.toNat_inj.1 (by have : a4.toNat = 1 := by omega
                                      rw [this]; rfl))
    clear h4 hbad c0 c1 c2 c3
    go_enter Try.func26, Try.ntmps26
    go_wp2_with fail
    have hi' : (Try.prog.info? 67).map (·.size) = some 3 := by kernel_rfl
    (try simp only [Exit.inBlock, Exit.then]); refine bodyPost_ret (results_cell2 rfl _ _ w.heap.size 67 _ (0, 0) _ rfl (KZ.out.x) Try.underlying67 rfl hi') rfl ?_
    exact ⟨241, by decide, rfl, HA2.out _ _⟩
  subst h4
  replace hbad := hbad.resolve_left (fun q => q rfl)
  obtain ⟨S1, hS1⟩ : ∃ S, Im.sumL ([a0, a1, a2, a3, 1] ++ mid) = S := ⟨_, rfl⟩
  obtain ⟨S2, hS2⟩ : ∃ S, Im.leN [t0, t1, t2, t3] = S := ⟨_, rfl⟩
  rw [hS1, hS2] at hbad
  have hne : ((S1 : Int) == (S2 : Int)) = false := by
    rw [beq_eq_false_iff_ne]
    intro q
    exact hbad (by omega)
  have h4e := or4 t0 t1 t2 t3
  rw [hS2] at h4e
  obtain ⟨u0, hu0⟩ : ∃ u : Int, (t0.toNat : Int) = u := ⟨_, rfl⟩
  obtain ⟨u1, hu1⟩ : ∃ u : Int, (t1.toNat : Int) = u := ⟨_, rfl⟩
  obtain ⟨u2, hu2⟩ : ∃ u : Int, (t2.toNat : Int) = u := ⟨_, rfl⟩
  obtain ⟨u3, hu3⟩ : ∃ u : Int, (t3.toNat : Int) = u := ⟨_, rfl⟩
  have l0 := t0.toNat_lt
  have l1 := t1.toNat_lt
  have l2 := t2.toNat_lt
  have l3 := t3.toNat_lt
  have r0 : 0 ≤ u0 ∧ u0 < 256 := by omega
  have r1 : 0 ≤ u1 ∧ u1 < 256 := by omega
  have r2 : 0 ≤ u2 ∧ u2 < 256 := by omega
  have r3 : 0 ≤ u3 ∧ u3 < 256 := by omega
  rw [hu0] at c0 h4e
  rw [hu1] at c1 h4e
  rw [hu2] at c2 h4e
  rw [hu3] at c3 h4e
  have w0 : IntKind.u32.wrap u0 = u0 := IntWalk.u32_in _ (by omega)
  have w1' : IntKind.u32.wrap u1 = u1 := IntWalk.u32_in _ (by omega)
  have w2' : IntKind.u32.wrap u2 = u2 := IntWalk.u32_in _ (by omega)
  have w3' : IntKind.u32.wrap u3 = u3 := IntWalk.u32_in _ (by omega)
  have v1 : IntKind.u32.wrap (u1 * 256) = u1 * 256 := IntWalk.u32_in _ (by omega)
  have v2 : IntKind.u32.wrap (u2 * 65536) = u2 * 65536 := IntWalk.u32_in _ (by omega)
  have v3 : IntKind.u32.wrap (u3 * 16777216) = u3 * 16777216 := IntWalk.u32_in _ (by omega)
  clear hu0 hu1 hu2 hu3 l0 l1 l2 l3 hbad hS2
  go_enter Try.func26, Try.ntmps26
  go_wp2_with fail
  go_quiet (fail)
  go_wp2_with fail
  obtain ⟨WA, hWA⟩ : ∃ W, (((w.alloc (.cells #[.slice none 0 0, .slice none 0 0, .slice none 0 0] 67)).alloc (.cells #[.slice none 0 0, .slice none 0 0, .slice none 0 0] 67)).drewN nq) = W := ⟨_, rfl⟩
  have hAA : Below w.heap.size w WA := by rw [← hWA]; exact below_drewN (HA2.out _ _) _
  have kz : KAt WA w.heap.size zBlk := by rw [← hWA]; exact ((KAt.new w zBlk).alloc zBlk).below (below_drewN (Below.refl _ _) _)
  have ky : KAt WA (w.heap.size + 1) zBlk := by
    have h := KAt.new (w.alloc zBlk) zBlk
    rw [show (w.alloc zBlk).heap.size = w.heap.size + 1 from by simp] at h
    rw [← hWA]; exact h.below (below_drewN (Below.refl _ _) _)
  rw [hWA]
  clear hWA hcv b4'
  obtain ⟨SS, hSS⟩ : ∃ SS : World → Prop, SS = fun V => Below WA.heap.size WA V := ⟨_, rfl⟩
  have c0' := (hAA.cell (p := ⟨g, m, none⟩) hgl).trans c0
  have c1' := (hAA.cell (p := ⟨g, m + 1, none⟩) hgl).trans c1
  have c2' := (hAA.cell (p := ⟨g, m + 2, none⟩) hgl).trans c2
  have c3' := (hAA.cell (p := ⟨g, m + 3, none⟩) hgl).trans c3
  clear c0 c1 c2 c3
  have hgA : g < WA.heap.size := Nat.lt_of_lt_of_le hgl hAA.size
  have SK : Hid (∀ A w', SS A → Below A.heap.size A w' → (w'.cell? ⟨g, m, none⟩ = some (.int .u8 u0) ∧ w'.cell? ⟨g, m + 1, none⟩ = some (.int .u8 u1) ∧ w'.cell? ⟨g, m + 2, none⟩ = some (.int .u8 u2) ∧ w'.cell? ⟨g, m + 3, none⟩ = some (.int .u8 u3)) ∧ SS w') := Lib.hid (by
    rw [hSS]
    rintro A B h hb
    have h2 : Below WA.heap.size WA B := h.trans (hb.mono h.size)
    exact ⟨⟨(h2.cell (p := ⟨g, m, none⟩) hgA).trans c0', (h2.cell (p := ⟨g, m + 1, none⟩) hgA).trans c1', (h2.cell (p := ⟨g, m + 2, none⟩) hgA).trans c2', (h2.cell (p := ⟨g, m + 3, none⟩) hgA).trans c3'⟩, h2⟩)
  have hS0 : SS WA.drew := by rw [hSS]; exact (Below.refl _ _).drew
  have CT : Hid (∀ V, SS V → Calls Try.prog 10 #[.slice (some ⟨g, 0, none⟩) m cap] V fun x w' => x = .returned (.int .u32 (S1 : Int)) ∧ Below V.heap.size V w') := Lib.hid (by
    rw [hSS]
    intro V h
    have := sum_any (some ⟨g, 0, none⟩) ([a0, a1, a2, a3, 1] ++ mid) cap V ((HBO.out.below hAA).below h)
    rw [HBL.out, hS1] at this
    exact this)
  have HBS : Hid (∀ V, SS V → Below w.heap.size w V ∧ KAt V w.heap.size zBlk ∧ KAt V (w.heap.size + 1) zBlk) := Lib.hid (by rw [hSS]; exact fun V h => ⟨hAA.trans (h.mono hAA.size), kz.below h, ky.below h⟩)
  clear hSS kz ky hAA hgA hgl hS1
  go_region_held3 (fun w' => w'.cell? ⟨g, m, none⟩ = some (.int .u8 u0) ∧ w'.cell? ⟨g, m + 1, none⟩ = some (.int .u8 u1) ∧ w'.cell? ⟨g, m + 2, none⟩ = some (.int .u8 u2) ∧ w'.cell? ⟨g, m + 3, none⟩ = some (.int .u8 u3) ∧ SS w')
    (first
      | (go_keep; done)
      | (refine ⟨?_, ?_, ?_, ?_, hS0⟩ <;> (go_keep; done))
      | (go_split_ands; (obtain ⟨⟨y0, y1, y2, y3⟩, y4⟩ := SK.out _ _ (by assumption) hbx); exact ⟨y0, y1, y2, y3, y4⟩))
    (first | (go_at_call 10; (with_reducible refine (CT.out _ ?_).mono ?_); (go_split_ands; assumption); rintro e w1 ⟨rfl, hbx⟩))
  go_split_ands
  obtain ⟨z0, z1, z2⟩ := HBS.out _ (by assumption)
  obtain ⟨e0, e1, e2⟩ := z1.ocells
  obtain ⟨f0, f1, f2⟩ := z2.ocells
  have Z0 := Lib.hid z0
  have Z1 := Lib.hid z1
  have fr0 : w1.frozen? ⟨w.heap.size, 0, none⟩ = false := frozen_of_row _ _ _ _ _ z1.x
  have fr1 : w1.frozen? ⟨w.heap.size, 1, none⟩ = false := frozen_of_row _ _ _ _ _ z1.x
  have fr2 : w1.frozen? ⟨w.heap.size, 2, none⟩ = false := frozen_of_row _ _ _ _ _ z1.x
  clear z0 z1 z2
  go_wp2_with fail
  have hi' : (Try.prog.info? 67).map (·.size) = some 3 := by kernel_rfl
  (try simp only [Exit.inBlock, Exit.then]); refine bodyPost_ret (results_cell2 rfl _ _ w.heap.size 67 _ (0, 0) _ rfl (z_set Z1.out _ _ _) Try.underlying67 rfl hi') rfl ?_
  exact ⟨242, by decide, rfl, ((Z0.out.setCell (p := ⟨w.heap.size, 0, none⟩) (Nat.le_refl _) _).setCell (p := ⟨w.heap.size, 1, none⟩) (Nat.le_refl _) _).setCell (p := ⟨w.heap.size, 2, none⟩) (Nat.le_refl _) _⟩

set_option maxHeartbeats 2000000 in
set_option maxRecDepth 8000 in
theorem unpack_bad (g cap : Nat) (l : List UInt8) (w : World) (hB : BysAt w (some ⟨g, 0, none⟩) l) (hc : l.length ≤ cap) (h9 : 9 ≤ l.length) (hbad : l.take 4 ≠ [107, 105, 108, 110] ∨ l.getD 4 0 ≠ 1 ∨ ¬ Im.okSum l) :
    Calls Try.prog 15 #[.slice (some ⟨g, 0, none⟩) l.length cap] w fun x w' => ∃ er : Int, er ≠ 0 ∧ x = .returned (.tuple #[.agg #[.string ⟨#[]⟩, .string ⟨#[]⟩, .slice none 0 0, .slice none 0 0, .slice none 0 0, .int .i64 0], .int .i64 er]) ∧ Below w.heap.size w w' := by
  have CS := Lib.hid (fun W h => sections_bad g cap l W h hc h9 hbad)
  have hA : Below w.heap.size w (w.alloc izBlk) := (Below.refl _ _).alloc (Nat.le_refl _) _
  have K := Lib.hid (KAt.new w izBlk)
  have HA := Lib.hid hA
  have HB := Lib.hid (hB.keep hA)
  obtain ⟨n, hnn⟩ : ∃ n, l.length = n := ⟨_, rfl⟩
  rw [hnn] at CS ⊢
  clear hA hB hc h9 hbad hnn
  go_enter Try.func15, Try.ntmps15
  go_wp2_with (first
    | (go_at_call 26; refine (CS.out _ HB.out).mono ?_; rintro e w1 ⟨er, her, rfl, hb⟩; have K1 := Lib.hid (K.out.below hb); have HB1 := Lib.hid (HA.out.trans (hb.mono HA.out.size)); have hk : (er == 0) = false := (by simpa using her); have HE := Lib.hid her; have K2 := Lib.hid (K1.out.alloc (oBlk (.slice none 0 0) (.slice none 0 0) (.slice none 0 0))); have hz := K2.out.izcells; obtain ⟨e0, e1, e2, e3, e4, e5⟩ := hz; obtain ⟨f0, f1, f2, f3, f4, f5⟩ := K2.out.izfrozen; unfold oBlk at e0 e1 e2 e3 e4 e5 f0 f1 f2 f3 f4 f5; clear hb her))
  have hi' : (Try.prog.info? 33).map (·.size) = some 6 := by kernel_rfl
  (try simp only [Exit.inBlock, Exit.then]); refine bodyPost_ret (results_cell2 rfl _ _ w.heap.size 33 _ (0, 0) _ rfl (i_set K2.out _ _ _ _ _ _) Try.underlying33 rfl hi') rfl ?_
  have hl : ∀ o, Below w.heap.size w (w1.alloc o) := fun o => HB1.out.alloc HB1.out.size _
  exact ⟨er, HE.out, rfl, ((((((hl _).setCell (p := ⟨w.heap.size, 0, none⟩) (Nat.le_refl _) _).setCell (p := ⟨w.heap.size, 1, none⟩) (Nat.le_refl _) _).setCell (p := ⟨w.heap.size, 2, none⟩) (Nat.le_refl _) _).setCell (p := ⟨w.heap.size, 3, none⟩) (Nat.le_refl _) _).setCell (p := ⟨w.heap.size, 4, none⟩) (Nat.le_refl _) _).setCell (p := ⟨w.heap.size, 5, none⟩) (Nat.le_refl _) _⟩
end Go.Proofs.Ytgbgahdeopedpaa
/- Walks of layer 24: two empty images are the same. -/
namespace Go.Proofs.Ytgbgahdeopedpaa
open Go.RowKit
set_option linter.unusedVariables false
attribute [local go_sem] ext_mk size_mk toList_mk get_mk take_drop_len take_tail_len ByteArray.mk_append_mk List.append_toArray

set_option maxHeartbeats 2000000 in
set_option maxRecDepth 8000 in
theorem rsame_zero (w : World) : Calls Try.prog 28 #[.agg #[.slice none 0 0, .slice none 0 0, .slice none 0 0, .int .i64 0], .agg #[.slice none 0 0, .slice none 0 0, .slice none 0 0, .int .i64 0]] w fun e w' => e = .returned (.bool true) ∧ Below w.heap.size w w' := by
  obtain ⟨W, hW⟩ : ∃ W, (w.alloc (.cells #[.slice none 0 0, .slice none 0 0, .slice none 0 0, .int .i64 0] 31)).alloc (.cells #[.slice none 0 0, .slice none 0 0, .slice none 0 0, .int .i64 0] 31) = W := ⟨_, rfl⟩
  have hb : Below w.heap.size w W := by rw [← hW]; exact ((Below.refl _ _).alloc (Nat.le_refl _) _).alloc (by simp) _
  have k0 : KAt W w.heap.size (.cells #[.slice none 0 0, .slice none 0 0, .slice none 0 0, .int .i64 0] 31 (0, 0)) := by rw [← hW]; exact (KAt.new w _).alloc _
  have k1 : KAt W (w.heap.size + 1) (.cells #[.slice none 0 0, .slice none 0 0, .slice none 0 0, .int .i64 0] 31 (0, 0)) := by
    have h := KAt.new (w.alloc (.cells #[.slice none 0 0, .slice none 0 0, .slice none 0 0, .int .i64 0] 31)) (.cells #[.slice none 0 0, .slice none 0 0, .slice none 0 0, .int .i64 0] 31 (0, 0))
    rw [show (w.alloc (.cells #[.slice none 0 0, .slice none 0 0, .slice none 0 0, .int .i64 0] 31)).heap.size = w.heap.size + 1 from by simp] at h
    rw [← hW]; exact h
  obtain ⟨a0, a1, a2, a3⟩ := pbox_cells k0
  obtain ⟨b0, b1, b2, b3⟩ := pbox_cells k1
  have HB := Lib.hid hb
  clear hb k0 k1
  go_enter Try.func28, Try.ntmps28
  go_wp2_with fail
  go_loopw [5] (fun vi wr => vi = .int .i64 0 ∧ wr = W) (fun _ _ => 0)
  case atStart => exact ⟨rfl, rfl⟩
  case round =>
    obtain ⟨rfl, hw⟩ := hrel
    subst hw
    go_wp2_with fail
    go_loopw [6] (fun vi w2 => vi = .int .i64 0 ∧ w2 = wr) (fun _ _ => 0)
    case atStart => exact ⟨rfl, rfl⟩
    case round =>
      obtain ⟨rfl, hw⟩ := hrel
      subst hw
      go_wp2_with fail
      go_loopw [7] (fun vi w2 => vi = .int .i64 0 ∧ w2 = wr) (fun _ _ => 0)
      case atStart => exact ⟨rfl, rfl⟩
      case round =>
        obtain ⟨rfl, hw⟩ := hrel
        subst hw
        go_wp2_with fail
        go_ret
        exact ⟨rfl, HB.out⟩

set_option maxHeartbeats 2000000 in
set_option maxRecDepth 8000 in
theorem isame_zero (w : World) : Calls Try.prog 16 #[.agg #[.string ⟨#[]⟩, .string ⟨#[]⟩, .slice none 0 0, .slice none 0 0, .slice none 0 0, .int .i64 0], .agg #[.string ⟨#[]⟩, .string ⟨#[]⟩, .slice none 0 0, .slice none 0 0, .slice none 0 0, .int .i64 0]] w fun e w' => e = .returned (.bool true) ∧ Below w.heap.size w w' := by
  have CS := Lib.hid (fun W => rsame_zero W)
  have HA : Hid (∀ o1 o2, Below w.heap.size w ((w.alloc o1).alloc o2)) := Lib.hid (fun o1 o2 => ((Below.refl _ _).alloc (Nat.le_refl _) _).alloc (by simp) _)
  go_enter Try.func16, Try.ntmps16
  go_wp2_with (first
    | (go_at_call 28; refine (CS.out _).mono ?_; rintro e w1 ⟨rfl, hb⟩; have HB1 := Lib.hid ((HA.out _ _).trans (hb.mono (HA.out _ _).size)); clear hb))
  go_ret
  exact ⟨rfl, HB1.out⟩
end Go.Proofs.Ytgbgahdeopedpaa
