/- The laws of layer 1 on numbers, walked. -/
import Derived.Test.YtelggbmobemnoaaFw3
import Derived.Test.YtelggbmobemnoaaFw5
import Derived.Test.YtelggbmobemnoaaFw6
namespace Go.Proofs.Ytelggbmobemnoaa
open Go.RowKit
open Fx
set_option linter.unusedVariables false

set_option maxHeartbeats 400000 in
theorem fixAdds_walk (a : Option Addr) (l : List Int) (cap : Nat) (w : World) (h : IntsAt .i64 w a l) :
    Calls Try.prog 3 #[.slice a l.length cap] w fun e w' => e = .returned (.bool true) ∧ Below w.heap.size w w' := by
  have H := Lib.hid h
  clear h
  have ⟨b1, b2⟩ := addE_bd l
  go_enter Try.func3, Try.ntmps3
  go_wp2_with (first | (go_at_call 9; refine (add_any _ _ _ _ H.out).mono ?_; rintro e w' ⟨rfl, rfl⟩) | (go_at_call 10; refine (radd_any _ _ _ _ H.out).mono ?_; rintro e w' ⟨rfl, rfl⟩) | (go_at_call 11; refine (alive_any _).mono ?_; rintro e w' ⟨rfl, hb⟩))
  go_ret
  exact ⟨rfl, hb⟩

set_option maxHeartbeats 400000 in
theorem fixDivides_walk (a b : Int) (w : World) :
    Calls Try.prog 4 #[.int .i64 a, .int .i64 b] w fun e w' => e = .returned (.bool true) ∧ Below w.heap.size w w' := by
  have ⟨b1, b2⟩ := askE_bd a b
  have ⟨b3, b4⟩ := quotE_bd a b
  have ⟨b5, b6⟩ := divE_bd a b
  go_enter Try.func4, Try.ntmps4
  go_wp2_with (first | (go_at_call 12; refine (div_any _ _ _).mono ?_; rintro e w' ⟨rfl, n, rfl⟩) | (go_at_call 14; refine (mod_any _ _ _).mono ?_; rintro e w' ⟨rfl, n, rfl⟩) | (go_at_call 16; refine (quot_any _ _ _).mono ?_; rintro e w' ⟨rfl, rfl⟩) | (go_at_call 18; refine (rem_any _ _ _).mono ?_; rintro e w' ⟨rfl, rfl⟩) | (go_at_call 13; refine (rdiv_any _ _ _).mono ?_; rintro e w' ⟨rfl, rfl⟩) | (go_at_call 15; refine (rmod_any _ _ _).mono ?_; rintro e w' ⟨rfl, rfl⟩) | (go_at_call 17; refine (rquot_any _ _ _).mono ?_; rintro e w' ⟨rfl, rfl⟩) | (go_at_call 19; refine (rrem_any _ _ _).mono ?_; rintro e w' ⟨rfl, rfl⟩) | (go_at_call 11; refine (alive_any _).mono ?_; rintro e w' ⟨rfl, hb⟩))
  go_ret
  exact ⟨rfl, (below_drewN (Below.refl _ _) _).trans hb⟩

theorem intsAt_row {k : IntKind} {w : World} {x : Addr} {len cap : Nat} {zs : List Int} (hl : len ≤ cap) (hm : cap ≤ maxLen) (hz : zs.length = cap)
    (hcell : ∀ i, i < zs.length → w.cell? (x.add i) = some (.int k (zs.getD i 0))) : IntsAt k w (some x) (zs.take len) := by
  have hlen : (zs.take len).length = len := by rw [List.length_take]; omega
  refine ⟨by omega, ?_⟩
  by_cases h0 : len = 0
  · left; rw [h0, List.take_zero]
  · right
    obtain ⟨b, off, spot⟩ := x
    have hc := hcell 0 (by omega)
    have hs : spot = none := by simpa [Addr.add] using World.cell?_spot hc
    subst hs
    refine ⟨b, off, rfl, fun i hi => ?_⟩
    have := hcell i (by omega)
    rw [show (zs.take len).getD i 0 = zs.getD i 0 from by simp [List.getD_eq_getElem?_getD, show i < len by omega]]
    by_cases h0 : i = 0
    · subst h0; simpa [Addr.add] using this
    · simpa [Addr.add, h0] using this
theorem fixAdds_row {w : World} {x : Addr} {len cap : Nat} {zs : List Int} (hl : len ≤ cap) (hm : cap ≤ maxLen) (hz : zs.length = cap)
    (hcell : ∀ i, i < zs.length → w.cell? (x.add i) = some (.int .i64 (zs.getD i 0))) :
    Calls Try.prog 3 #[.slice (some x) len cap] w fun e w' => e = .returned (.bool true) ∧ Below w.heap.size w w' := by
  have h := fixAdds_walk (some x) (zs.take len) cap w (intsAt_row hl hm hz hcell)
  rw [show (zs.take len).length = len by rw [List.length_take]; omega] at h
  exact h
end Go.Proofs.Ytelggbmobemnoaa
