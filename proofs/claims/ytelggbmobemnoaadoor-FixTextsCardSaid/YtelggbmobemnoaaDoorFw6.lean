/- Walks of layer 1: the reference's sums; opposites, amounts; that the program is alive. -/
import Derived.Test.YtelggbmobemnoaaDoorFw2
import Derived.Test.YtelggbmobemnoaaDoorFw4
namespace Go.Proofs.YtelggbmobemnoaaDoor
open Go.RowKit
open Fx
set_option linter.unusedVariables false

theorem add_any (a : Option Addr) (l : List Int) (cap : Nat) (w : World) (h : IntsAt .i64 w a l) :
    Calls Tryd.prog 19 #[.slice a l.length cap] w fun e w' => e = .returned (.tuple #[.int .i64 (addV l), .int .i64 (addE l)]) ∧ w = w' := by
  obtain ⟨hm, rfl | ⟨b, off, rfl, hc⟩⟩ := h
  · exact add_nil a cap w
  · exact add_full b off l cap w hm hc

/-- A new block of numbers reads as they are. -/
theorem intsAt_new (k : IntKind) (w : World) (l : List Int) (T : TypeId) (hl : l.length ≤ maxLen) : IntsAt k (w.alloc (.cells (l.map (Value.int k)).toArray T)) (some ⟨w.heap.size, 0, none⟩) l := by
  refine ⟨hl, .inr ⟨w.heap.size, 0, rfl, fun i hi => ?_⟩⟩
  simp [hi]

theorem add_three (w : World) : Calls Tryd.prog 19 #[.slice (some ⟨w.heap.size, 0, none⟩) 3 3] (w.alloc (.cells #[.int .i64 2, .int .i64 3, .int .i64 (-7)] 2)) fun e w' => e = .returned (.tuple #[.int .i64 (-2), .int .i64 0]) ∧ w.alloc (.cells #[.int .i64 2, .int .i64 3, .int .i64 (-7)] 2) = w' :=
  (add_any _ [2, 3, -7] 3 _ (intsAt_new .i64 w [2, 3, -7] 2 (by decide))).mono fun e w' ⟨he, hw⟩ => ⟨he.trans (ret_pair (by decide) (by decide)), hw⟩

theorem add_1 (a : Int) (w : World) : Calls Tryd.prog 19 #[.slice (some ⟨w.heap.size, 0, none⟩) 1 1] (w.alloc (.cells #[.int .i64 a] 2)) fun e w' => e = .returned (.tuple #[.int .i64 (subV a 0), .int .i64 (subE a 0)]) ∧ w.alloc (.cells #[.int .i64 a] 2) = w' :=
  (add_any _ [a] 1 _ (intsAt_new .i64 w [a] 2 (by simp [maxLen]))).mono fun e w' ⟨he, hw⟩ => ⟨he.trans (ret_pair (add_one a).1 (add_one a).2), hw⟩

theorem div_alive (w : World) : Calls Tryd.prog 20 #[.int .i64 (-7), .int .i64 2] w fun e w' => e = .returned (.tuple #[.int .i64 (-4), .int .i64 0]) ∧ Drew w w' :=
  (div_any (-7) 2 w).mono fun e w' ⟨he, hw⟩ => ⟨he.trans (ret_pair (by decide) (by decide)), hw⟩

set_option maxHeartbeats 400000 in
theorem alive_any (w : World) : Calls Tryd.prog 8 #[] w fun e w' => e = .returned (.bool true) ∧ Below w.heap.size w w' := by
  go_enter Tryd.func8, Tryd.ntmps8
  go_wp2_with (first | (go_at_call 19; refine (add_three _).mono ?_; rintro e w' ⟨rfl, rfl⟩) | (go_at_call 20; refine (div_alive _).mono ?_; rintro e w' ⟨rfl, nd, rfl⟩))
  go_ret
  exact ⟨rfl, below_drewN ((Below.refl _ _).alloc (Nat.le_refl _) _) _⟩
end Go.Proofs.YtelggbmobemnoaaDoor
