/- Walks of layer 16: the primitives' row. -/
import Derived.Test.YtgbgahdeopedpaaChecked
import Derived.Test.YtgbgahdeopedpaaBase
import Derived.Deep.AppendLies
import Derived.KernelRfl
namespace Go.Proofs.Ytgbgahdeopedpaa
open Go.RowKit
set_option linter.unusedVariables false
attribute [local go_sem] ext_mk size_mk toList_mk get_mk take_drop_len take_tail_len ByteArray.mk_append_mk List.append_toArray

/-- a primitive's cells; the last leads to what it raises -/
def prC (n : List UInt8) (c a : Int) (t : List UInt8) (r : Value) : List Value := [.string ⟨n.toArray⟩, .int .i64 c, .int .i64 a, .string ⟨t.toArray⟩, r]

def arr : List UInt8 := [32, 45, 62, 32]

def tms : List UInt8 := [32, 42, 32]

def two (t : List UInt8) : List UInt8 := t ++ tms ++ t ++ arr ++ t

def one (t : List UInt8) : List UInt8 := t ++ arr ++ t

def tst (t : List UInt8) : List UInt8 := t ++ tms ++ t ++ arr ++ [98, 111, 111, 108]

def nilS : Value := .slice none 0 0

def recTests (c : Int) (t : List UInt8) : List Value := prC [60] c 2 (tst t) nilS ++ prC [60, 61] c 2 (tst t) nilS ++ prC [62] c 2 (tst t) nilS ++ prC [62, 61] c 2 (tst t) nilS

def recC (c : Int) (t : List UInt8) (r : Value) : List Value :=
  prC [43] c 2 (two t) r ++ prC [45] c 2 (two t) r ++ prC [42] c 2 (two t) r ++ prC [126] c 1 (one t) r ++ prC [97, 98, 115] c 1 (one t) r ++ recTests c t

set_option maxHeartbeats 800000 in
theorem rec_int (a : Option Addr) (n cap : Nat) (w : World) :
    Calls Try.prog 81 #[.int .i64 0, .string ⟨#[105, 110, 116]⟩, .slice a n cap] w fun e w' => e = .returned (.slice (some ⟨w.heap.size, 0, none⟩) 9 9) ∧ w' = w.alloc (.cells (recC 0 [105, 110, 116] (.slice a n cap)).toArray 136) := by
  go_enter Try.func81, Try.ntmps81
  go_wp2
  go_ret
  exact ⟨rfl, rfl⟩

set_option maxHeartbeats 800000 in
theorem rec_real (a : Option Addr) (n cap : Nat) (w : World) :
    Calls Try.prog 81 #[.int .i64 1, .string ⟨#[114, 101, 97, 108]⟩, .slice a n cap] w fun e w' => e = .returned (.slice (some ⟨w.heap.size, 0, none⟩) 9 9) ∧ w' = w.alloc (.cells (recC 1 [114, 101, 97, 108] (.slice a n cap)).toArray 136) := by
  go_enter Try.func81, Try.ntmps81
  go_wp2
  go_ret
  exact ⟨rfl, rfl⟩

set_option maxHeartbeats 800000 in
theorem rec_char (a : Option Addr) (n cap : Nat) (w : World) :
    Calls Try.prog 81 #[.int .i64 2, .string ⟨#[99, 104, 97, 114]⟩, .slice a n cap] w fun e w' => e = .returned (.slice (some ⟨w.heap.size, 0, none⟩) 9 9) ∧ w' = w.alloc (.cells (recC 2 [99, 104, 97, 114] (.slice a n cap)).toArray 136) := by
  go_enter Try.func81, Try.ntmps81
  go_wp2
  go_ret
  exact ⟨rfl, rfl⟩

set_option maxHeartbeats 800000 in
theorem rec_string (a : Option Addr) (n cap : Nat) (w : World) :
    Calls Try.prog 81 #[.int .i64 3, .string ⟨#[115, 116, 114, 105, 110, 103]⟩, .slice a n cap] w fun e w' => e = .returned (.slice (some ⟨w.heap.size, 0, none⟩) 9 9) ∧ w' = w.alloc (.cells (recC 3 [115, 116, 114, 105, 110, 103] (.slice a n cap)).toArray 136) := by
  go_enter Try.func81, Try.ntmps81
  go_wp2
  go_ret
  exact ⟨rfl, rfl⟩
end Go.Proofs.Ytgbgahdeopedpaa
