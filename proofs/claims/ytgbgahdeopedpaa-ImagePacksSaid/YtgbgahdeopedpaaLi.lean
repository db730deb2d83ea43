/- Layer 24's laws, walked: the check sum of any bytes. -/
import Derived.Test.YtgbgahdeopedpaaIz
import Derived.OpenShut
namespace Go.Proofs.Ytgbgahdeopedpaa
open Go.RowKit
set_option linter.unusedVariables false
attribute [local go_sem] ext_mk size_mk toList_mk get_mk take_drop_len take_tail_len ByteArray.mk_append_mk List.append_toArray

theorem imageSums_any (a : Option Addr) (l : List UInt8) (cap : Nat) (w : World) (h : BysAt w a l) :
    Calls Try.prog 3 #[.slice a l.length cap] w fun e w' => e = .returned (.bool true) ∧ Below w.heap.size w w' := by
  have CS := Lib.hid (fun W h => sum_any a l cap W h)
  have CR := Lib.hid (fun W h => rsum_any a l cap W h)
  have CA := Lib.hid (fun W => awake_24 W)
  have HB := Lib.hid h
  clear h
  go_enter Try.func3, Try.ntmps3
  go_wp2_with (first
    | (go_at_call 10; refine (CS.out _ HB.out).mono ?_; rintro e w1 ⟨rfl, hb⟩; have B1 := Lib.hid (HB.out.below hb); have HB1 := Lib.hid hb; clear hb)
    | (go_at_call 11; refine (CR.out _ B1.out).mono ?_; rintro e w2 ⟨rfl, hb⟩; have HB2 := Lib.hid (HB1.out.trans (hb.mono HB1.out.size)); clear hb)
    | (go_at_call 12; refine (CA.out _).mono ?_; rintro e w3 ⟨rfl, hb⟩; have HB3 := Lib.hid (HB2.out.trans (hb.mono HB2.out.size)); clear hb))
  go_ret
  exact ⟨rfl, HB3.out⟩

theorem bysAt_row {w : World} {x : Addr} {len cap : Nat} {zs : List Int} (hl : len ≤ cap) (hm : cap ≤ maxLen) (hz : zs.length = cap)
    (hcell : ∀ i, i < zs.length → w.cell? (x.add i) = some (.int .u8 (zs.getD i 0))) (hwf : ∀ n ∈ zs, (Lit.int .u8 n).wf = true) : BysAt w (some x) ((zs.take len).map (fun z => UInt8.ofNat z.toNat)) := by
  have hlen : ((zs.take len).map (fun z => UInt8.ofNat z.toNat)).length = len := by rw [List.length_map, List.length_take]; omega
  refine ⟨by omega, ?_⟩
  by_cases h0 : len = 0
  · left; rw [h0, List.take_zero]; rfl
  · right
    obtain ⟨b, off, spot⟩ := x
    have hc := hcell 0 (by omega)
    have hs : spot = none := by simpa [Addr.add] using World.cell?_spot hc
    subst hs
    have hlt : b < w.heap.size := by simpa [Addr.add] using World.block_lt_of_cell? w _ hc
    refine ⟨b, off, rfl, hlt, fun i hi => ?_⟩
    rw [hlen] at hi
    have h := hcell i (by omega)
    have hb := bounds_u8 (hwf (zs.getD i 0) (by rw [List.getD_eq_getElem?_getD, List.getElem?_eq_getElem (by omega)]; simp))
    have e : ((((zs.take len).map (fun z => UInt8.ofNat z.toNat)).getD i 0).toNat : Int) = zs.getD i 0 := by
      have : ((zs.take len).map (fun z => UInt8.ofNat z.toNat)).getD i 0 = UInt8.ofNat (zs.getD i 0).toNat := by
        simp [List.getD_eq_getElem?_getD, hi, show i < zs.length by omega]
      rw [this, UInt8.toNat_ofNat']
      obtain ⟨n, hn⟩ := Int.eq_ofNat_of_zero_le hb.1
      rw [hn] at hb ⊢
      rw [Int.toNat_natCast, Nat.mod_eq_of_lt (by omega)]
    rw [e]
    by_cases h0 : i = 0
    · subst h0; simpa [Addr.add] using h
    · simpa [Addr.add, h0] using h

theorem imageSums_row {w : World} {x : Addr} {len cap : Nat} {zs : List Int} (hl : len ≤ cap) (hm : cap ≤ maxLen) (hz : zs.length = cap)
    (hcell : ∀ i, i < zs.length → w.cell? (x.add i) = some (.int .u8 (zs.getD i 0))) (hwf : ∀ n ∈ zs, (Lit.int .u8 n).wf = true) :
    Calls Try.prog 3 #[.slice (some x) len cap] w fun e w' => e = .returned (.bool true) ∧ Below w.heap.size w w' := by
  have h := imageSums_any (some x) _ cap w (bysAt_row hl hm hz hcell hwf)
  rw [show ((zs.take len).map (fun z => UInt8.ofNat z.toNat)).length = len by rw [List.length_map, List.length_take]; omega] at h
  exact h
end Go.Proofs.Ytgbgahdeopedpaa
