/- The plain law of layer 24's check sum: up to 32 bits in a row, turned anywhere, are told. No program in sight. -/
import Derived.Test.YtgbgahdeopedpaaIs
import Derived.Test.YtgbgahdeopedpaaEf
import Derived.Test.YtgbgahdeopedpaaLi
import Derived.Deep.RegionHeld3
namespace Go.Proofs.Ytgbgahdeopedpaa.Im
open Go.RowKit

/-- bytes as one number, the first the lowest -/
def leN : List UInt8 → Nat
  | [] => 0
  | c :: l => c.toNat + 256 * leN l
end Go.Proofs.Ytgbgahdeopedpaa.Im
/- Walks of layer 24: bytes that are no image's, by their first bytes or their sum. -/
namespace Go.Proofs.Ytgbgahdeopedpaa
open Go.RowKit
set_option linter.unusedVariables false
attribute [local go_sem] ext_mk size_mk toList_mk get_mk take_drop_len take_tail_len ByteArray.mk_append_mk List.append_toArray

theorem or_le (a b : Nat) {n : Nat} (ha : a < 2 ^ n) : a ||| b * 2 ^ n = a + b * 2 ^ n := by
  rw [Nat.add_comm, Nat.mul_comm b, Nat.two_pow_add_eq_or_of_lt ha, Nat.or_comm]

theorem or4 (a b c d : UInt8) : bits .or .u32 (bits .or .u32 (bits .or .u32 (a.toNat : Int) ((b.toNat : Int) * 256)) ((c.toNat : Int) * 65536)) ((d.toNat : Int) * 16777216) = ((Im.leN [a, b, c, d] : Nat) : Int) := by
  have ha := a.toNat_lt
  have hb := b.toNat_lt
  have hc := c.toNat_lt
  have hd := d.toNat_lt
  have e1 : bits .or .u32 (a.toNat : Int) ((b.toNat : Int) * 256) = ((a.toNat + b.toNat * 256 : Nat) : Int) := by
    have := u32_or_nat a.toNat (b.toNat * 256) (by omega) (by omega)
    rw [Int.natCast_mul] at this
    refine this.trans ?_
    rw [show (256 : Nat) = 2 ^ 8 from rfl, or_le _ _ ha]
  have e2 : bits .or .u32 ((a.toNat + b.toNat * 256 : Nat) : Int) ((c.toNat : Int) * 65536) = ((a.toNat + b.toNat * 256 + c.toNat * 65536 : Nat) : Int) := by
    have := u32_or_nat (a.toNat + b.toNat * 256) (c.toNat * 65536) (by omega) (by omega)
    rw [Int.natCast_mul] at this
    refine this.trans ?_
    rw [show (65536 : Nat) = 2 ^ 16 from rfl, or_le _ _ (by omega)]
  have e3 : bits .or .u32 ((a.toNat + b.toNat * 256 + c.toNat * 65536 : Nat) : Int) ((d.toNat : Int) * 16777216) = ((a.toNat + b.toNat * 256 + c.toNat * 65536 + d.toNat * 16777216 : Nat) : Int) := by
    have := u32_or_nat (a.toNat + b.toNat * 256 + c.toNat * 65536) (d.toNat * 16777216) (by omega) (by omega)
    rw [Int.natCast_mul] at this
    refine this.trans ?_
    rw [show (16777216 : Nat) = 2 ^ 24 from rfl, or_le _ _ (by omega)]
  rw [e1, e2, e3]
  congr 1
  simp only [Im.leN]
  omega

/-- bytes at an address, one by one -/
theorem bys_at0 {W : World} {g : Nat} {l : List UInt8} (h : BysAt W (some ⟨g, 0, none⟩) l) {i : Nat} (hi : i < l.length) : W.cell? ⟨g, i, none⟩ = some (.int .u8 ((l.getD i 0).toNat : Int)) := by
  rcases h.2 with h | ⟨b, off, ha, hb, hc⟩
  · subst h; simp at hi
  · cases ha
    have := hc i hi
    rwa [Nat.zero_add] at this

/-- bytes, parted: the first five; the last four -/
theorem parts9 {l : List UInt8} (h : 9 ≤ l.length) : ∃ a0 a1 a2 a3 a4 mid t0 t1 t2 t3, l = [a0, a1, a2, a3, a4] ++ mid ++ [t0, t1, t2, t3] := by
  match l, h with
  | a0 :: a1 :: a2 :: a3 :: a4 :: r, h =>
    simp only [List.length_cons] at h
    have h4 : (r.drop (r.length - 4)).length = 4 := by simp; omega
    obtain ⟨t, ht⟩ : ∃ t, r.drop (r.length - 4) = t := ⟨_, rfl⟩
    rw [ht] at h4
    match t, h4 with
    | [t0, t1, t2, t3], _ =>
      refine ⟨a0, a1, a2, a3, a4, r.take (r.length - 4), t0, t1, t2, t3, ?_⟩
      rw [← ht]
      simp
end Go.Proofs.Ytgbgahdeopedpaa
/- Walks of layer 24: two empty images are the same. -/
namespace Go.Proofs.Ytgbgahdeopedpaa
open Go.RowKit
set_option linter.unusedVariables false
attribute [local go_sem] ext_mk size_mk toList_mk get_mk take_drop_len take_tail_len ByteArray.mk_append_mk List.append_toArray

end Go.Proofs.Ytgbgahdeopedpaa
