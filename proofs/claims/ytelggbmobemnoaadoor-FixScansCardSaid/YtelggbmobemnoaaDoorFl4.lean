/- The law FixScans, walked. -/
import Derived.Test.YtelggbmobemnoaaDoorFw6
import Derived.Test.YtelggbmobemnoaaDoorFw11
import Derived.Test.YtelggbmobemnoaaDoorFw12
namespace Go.Proofs.YtelggbmobemnoaaDoor
open Go.RowKit
open Fx
set_option linter.unusedVariables false

set_option maxHeartbeats 400000 in
theorem fixScans_walk (l : List UInt8) (w : World) (hl : l.length ≤ 9223372036854775807) :
    Calls Tryd.prog 3 #[.string ⟨l.toArray⟩] w fun e w' => e = .returned (.bool true) ∧ Below w.heap.size w w' := by
  have ⟨b1, b2⟩ := scanE_bd l
  go_enter Tryd.func3, Tryd.ntmps3
  go_wp2_with (first | (go_at_call 6; refine (scan_any _ _ hl).mono ?_; rintro e w1 ⟨rfl, hb1⟩) | (go_at_call 7; refine (rscan_any _ _ hl).mono ?_; rintro e w' ⟨rfl, rfl⟩) | (go_at_call 8; refine (alive_any _).mono ?_; rintro e w2 ⟨rfl, hb2⟩))
  go_ret
  exact ⟨rfl, hb1.trans (hb2.mono hb1.size)⟩
end Go.Proofs.YtelggbmobemnoaaDoor
