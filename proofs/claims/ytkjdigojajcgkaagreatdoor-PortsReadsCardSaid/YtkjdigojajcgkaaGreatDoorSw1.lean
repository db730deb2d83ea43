/- Walks of layer 3: characters, parts, orders. -/
import Derived.Test.YtkjdigojajcgkaaGreatDoorChecked
import Derived.Test.YtkjdigojajcgkaaGreatDoorBase
import Derived.Test.YtkjdigojajcgkaaGreatDoorSx
import Derived.Test.YtkjdigojajcgkaaGreatDoorShelf
namespace Go.Proofs.YtkjdigojajcgkaaGreatDoor
open Go.RowKit
open St
set_option linter.unusedVariables false
attribute [local go_sem] ext_mk size_mk toList_mk get_mk take_drop_len take_tail_len ByteArray.mk_append_mk

set_option maxHeartbeats 400000 in
theorem sright_any (l : List UInt8) (w : World) :
    Calls Tryz.prog 58 #[.string ⟨l.toArray⟩] w fun e w' => e = .returned (.bool (rightB l)) ∧ w = w' := by
  by_cases h : l.length ≤ 65536
  · have k : decide ((l.length : Int) ≤ 65536) = true := decide_eq_true (by omega)
    go_enter Tryz.func58, Tryz.ntmps58
    go_wp2
    go_ret
    exact ⟨ret_bool (right_t h).symm, rfl⟩
  · have k : decide ((l.length : Int) ≤ 65536) = false := decide_eq_false (by omega)
    go_enter Tryz.func58, Tryz.ntmps58
    go_wp2
    go_ret
    exact ⟨ret_bool (right_f h).symm, rfl⟩

set_option maxHeartbeats 400000 in
theorem srright_any (l : List UInt8) (w : World) :
    Calls Tryz.prog 79 #[.string ⟨l.toArray⟩] w fun e w' => e = .returned (.bool (rightB l)) ∧ w = w' := by
  by_cases h : l.length ≤ 65536
  · have k : decide ((l.length : Int) ≤ 65536) = true := decide_eq_true (by omega)
    go_enter Tryz.func79, Tryz.ntmps79
    go_wp2
    go_ret
    exact ⟨ret_bool (right_t h).symm, rfl⟩
  · have k : decide ((l.length : Int) ≤ 65536) = false := decide_eq_false (by omega)
    go_enter Tryz.func79, Tryz.ntmps79
    go_wp2
    go_ret
    exact ⟨ret_bool (right_f h).symm, rfl⟩


theorem clone_l (l : List UInt8) (w : World) (hl : l.length ≤ 65536) : Calls Tryz.prog 121 #[.string ⟨l.toArray⟩] w fun e w' => e = .returned (.string ⟨l.toArray⟩) ∧ Below w.heap.size w w' :=
  Tryz.stringslite_Clone ⟨l.toArray⟩ w (by rw [size_mk]; omega)

/-- a new row of bytes, made a string -/
theorem conv_new (w : World) (l : List UInt8) : Sem.run Tryz.prog (convert 66 9 (.slice (some ⟨w.heap.size, 0, none⟩) l.length l.length)) (w.alloc (.cells (l.map (fun b => Value.int .u8 (b.toNat : Int))).toArray 5)) = .ok (.string ⟨l.toArray⟩) (w.alloc (.cells (l.map (fun b => Value.int .u8 (b.toNat : Int))).toArray 5)) :=
  run_convert_bytes_back _ 66 9 5 ⟨w.heap.size, 0, none⟩ l.length l Tryz.underlying66 Tryz.underlying5 Tryz.underlying9 (fun j hj => by
    have : (⟨w.heap.size, 0, none⟩ : Addr).add j = ⟨w.heap.size, j, none⟩ := by unfold Addr.add; split <;> simp_all
    rw [this]
    simp [hj])

theorem conv_1 (k : Nat) (hk : k ≤ 255) (w : World) : Sem.run Tryz.prog (convert 66 9 (.slice (some ⟨w.heap.size, 0, none⟩) 1 1)) (w.alloc (.cells #[.int .u8 (k : Int)] 5)) = .ok (.string ⟨[UInt8.ofNat k].toArray⟩) (w.alloc (.cells #[.int .u8 (k : Int)] 5)) := by
  have h := conv_new w [UInt8.ofNat k]
  have e : ((UInt8.ofNat k).toNat : Int) = k := by rw [UInt8.toNat_ofNat']; omega
  simp only [List.map_cons, List.map_nil, e, List.length_cons, List.length_nil, Nat.zero_add] at h
  exact h
end Go.Proofs.YtkjdigojajcgkaaGreatDoor
