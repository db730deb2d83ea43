/- The plain answers of layer 24: the check sum. No program in sight. -/
import Derived.Test.YtokjkligechcoaaGreatDoorChecked
import Derived.Test.YtokjkligechcoaaGreatDoorBase
import Derived.Deep.WholeRow
import Derived.Deep.MidRow
import Derived.Laws.BitsAllLaws
import Derived.KernelRfl
import Derived.Laws.CopyOwn
import Derived.Deep.AppendLies
import Derived.Laws.Rows
set_option linter.unusedVariables false
namespace Go.Proofs.YtokjkligechcoaaGreatDoor.Im
open Go.RowKit
end Go.Proofs.YtokjkligechcoaaGreatDoor.Im
/- Walks of layer 24: the check sum's table. -/
namespace Go.Proofs.YtokjkligechcoaaGreatDoor
open Go.RowKit
open Im
end Go.Proofs.YtokjkligechcoaaGreatDoor
/- Walks of layer 24: the check sum, on both sides. -/
namespace Go.Proofs.YtokjkligechcoaaGreatDoor
open Go.RowKit
open Im
/-- At this address lie these bytes. -/
def BysAt (w : World) (a : Option Addr) (l : List UInt8) : Prop :=
 l.length ≤ maxLen ∧ (l = [] ∨ ∃ b off, a = some ⟨b, off, none⟩ ∧ b < w.heap.size ∧ ∀ i, i < l.length → w.cell? ⟨b, off + i, none⟩ = some (.int .u8 ((l.getD i 0).toNat : Int)))
theorem BysAt.below {w w' : World} {a : Option Addr} {l : List UInt8} (h : BysAt w a l) (hb : Below w.heap.size w w') : BysAt w' a l := by
 obtain ⟨hm, h | ⟨b, off, ha, hlt, hc⟩⟩ := h
 ·exact ⟨hm, .inl h⟩
 ·exact ⟨hm, .inr ⟨b, off, ha, Nat.lt_of_lt_of_le hlt hb.size, fun i hi => by rw [hb.cell (p := ⟨b, off + i, none⟩) hlt]; exact hc i hi⟩⟩
end Go.Proofs.YtokjkligechcoaaGreatDoor
/- Walks of layer 16: the primitives' row. -/
namespace Go.Proofs.YtokjkligechcoaaGreatDoor
open Go.RowKit
attribute [local go_sem] ext_mk size_mk toList_mk get_mk take_drop_len take_tail_len ByteArray.mk_append_mk List.append_toArray
/-- a primitive's cells; the last leads to what it raises -/
def prC (n : List UInt8) (c a : Int) (t : List UInt8) (r : Value) : List Value := [.string ⟨n.toArray⟩, .int .i64 c, .int .i64 a, .string ⟨t.toArray⟩, r]
def arr : List UInt8 := [32, 45, 62, 32]
def tms : List UInt8 := [32, 42, 32]
def two (t : List UInt8) : List UInt8 := t ++ tms ++ t ++ arr ++ t
def one (t : List UInt8) : List UInt8 := t ++ arr ++ t
def tst (t : List UInt8) : List UInt8 := t ++ tms ++ t ++ arr ++ [98, 111, 111, 108]
def nilS : Value := .slice none 0 0
def recTests (c : Int) (t : List UInt8) : List Value := prC [60] c 2 (tst t) nilS ++ prC [60, 61] c 2 (tst t) nilS ++ prC [62] c 2 (tst t) nilS ++ prC [62, 61] c 2 (tst t) nilS
def recC (c : Int) (t : List UInt8) (r : Value) : List Value :=
 prC [43] c 2 (two t) r ++ prC [45] c 2 (two t) r ++ prC [42] c 2 (two t) r ++ prC [126] c 1 (one t) r ++ prC [97, 98, 115] c 1 (one t) r ++ recTests c t
set_option maxHeartbeats 800000 in
theorem rec_int (a : Option Addr) (n cap : Nat) (w : World) :
  Calls Tryz.prog 90 #[.int .i64 0, .string ⟨#[105, 110, 116]⟩, .slice a n cap] w fun e w' => e = .returned (.slice (some ⟨w.heap.size, 0, none⟩) 9 9) ∧ w' = w.alloc (.cells (recC 0 [105, 110, 116] (.slice a n cap)).toArray 77) := by
 go_enter Tryz.func90, Tryz.ntmps90
 go_wp2
 go_ret
 exact ⟨rfl, rfl⟩
set_option maxHeartbeats 800000 in
theorem rec_real (a : Option Addr) (n cap : Nat) (w : World) :
  Calls Tryz.prog 90 #[.int .i64 1, .string ⟨#[114, 101, 97, 108]⟩, .slice a n cap] w fun e w' => e = .returned (.slice (some ⟨w.heap.size, 0, none⟩) 9 9) ∧ w' = w.alloc (.cells (recC 1 [114, 101, 97, 108] (.slice a n cap)).toArray 77) := by
 go_enter Tryz.func90, Tryz.ntmps90
 go_wp2
 go_ret
 exact ⟨rfl, rfl⟩
set_option maxHeartbeats 800000 in
theorem rec_char (a : Option Addr) (n cap : Nat) (w : World) :
  Calls Tryz.prog 90 #[.int .i64 2, .string ⟨#[99, 104, 97, 114]⟩, .slice a n cap] w fun e w' => e = .returned (.slice (some ⟨w.heap.size, 0, none⟩) 9 9) ∧ w' = w.alloc (.cells (recC 2 [99, 104, 97, 114] (.slice a n cap)).toArray 77) := by
 go_enter Tryz.func90, Tryz.ntmps90
 go_wp2
 go_ret
 exact ⟨rfl, rfl⟩
set_option maxHeartbeats 800000 in
theorem rec_string (a : Option Addr) (n cap : Nat) (w : World) :
  Calls Tryz.prog 90 #[.int .i64 3, .string ⟨#[115, 116, 114, 105, 110, 103]⟩, .slice a n cap] w fun e w' => e = .returned (.slice (some ⟨w.heap.size, 0, none⟩) 9 9) ∧ w' = w.alloc (.cells (recC 3 [115, 116, 114, 105, 110, 103] (.slice a n cap)).toArray 77) := by
 go_enter Tryz.func90, Tryz.ntmps90
 go_wp2
 go_ret
 exact ⟨rfl, rfl⟩
end Go.Proofs.YtokjkligechcoaaGreatDoor
/- A slice of structs, built whole: no unrolling, however many there are. -/
namespace Go.Proofs.YtokjkligechcoaaGreatDoor
open Go.RowKit
theorem put_cells (size : Nat) : ∀ (cs : List Value) (j off : Nat) (A : Array Value), off + j + cs.length ≤ A.size →
  (cs.zipIdx j).foldl (fun (acc : Array Value) (p : Value × Nat) => acc.setIfInBounds (off + p.2) p.1) A = (A.toList.take (off + j) ++ cs ++ A.toList.drop (off + j + cs.length)).toArray := by
 intro cs
 induction cs with
 | nil => intro j off A _; simp
 | cons c r ih =>
  intro j off A h
  simp only [List.length_cons] at h
  rw [List.zipIdx_cons, List.foldl_cons, ih (j + 1) off _ (by simp; omega)]
  apply Array.ext'
  simp only [Array.toList_setIfInBounds]
  have e : off + (j + 1) + r.length = off + j + (r.length + 1) := by omega
  rw [e, show off + (j + 1) = (off + j) + 1 by omega, List.take_succ_eq_append_getElem (by simp; omega), List.getElem_set_self, List.take_set_of_le (by omega), List.drop_set_of_lt (by omega)]
  simp
theorem fill_rows (size : Nat) : ∀ (vs : List Value) (k : Nat) (done restc : List Value), (∀ v ∈ vs, v.cells.size = size) → done.length = k * size → restc.length = vs.length * size →
  Instr.fill (fun i => some (i * size, size)) (done ++ restc).toArray ((vs.zipIdx k).map fun p => (p.2, p.1)) = some (done ++ vs.flatMap (·.cells.toList)).toArray := by
 intro vs
 induction vs with
 | nil => intro k done restc _ _ hr; simp at hr; subst hr; simp [Instr.fill]
 | cons v r ih =>
  intro k done restc hs hd hr
  have hv : v.cells.size = size := hs v (by simp)
  have hrl : restc.length = size + r.length * size := by rw [hr, List.length_cons, Nat.succ_mul]; omega
  rw [List.zipIdx_cons, List.map_cons]
  simp only [Instr.fill]
  have hcond : ¬ (v.cells.size ≠ size || k * size + v.cells.size > (done ++ restc).toArray.size) = true := by
   simp; rw [hv]; refine ⟨rfl, by omega⟩
  rw [if_neg hcond]
  have hz : v.cells.zipIdx.foldl (fun cs (x : Value × Nat) => cs.setIfInBounds (k * size + x.2) x.1) (done ++ restc).toArray = (done ++ v.cells.toList ++ restc.drop size).toArray := by
   have h := put_cells size v.cells.toList 0 (k * size) (done ++ restc).toArray (by simp; omega)
   rw [← Array.foldl_toList, Array.toList_zipIdx, h]
   apply Array.ext'
   simp only [Nat.add_zero, Array.length_toList, hv]
   rw [← hd, List.take_left, List.drop_append]
   rw [show done.length + size - done.length = size by omega, List.drop_eq_nil_of_le (show done.length ≤ done.length + size by omega)]
   simp
  rw [hz]
  have := ih (k + 1) (done ++ v.cells.toList) (restc.drop size) (fun u hu => hs u (by simp [hu])) (by simp [hv, hd, Nat.succ_mul]) (by simp [hrl])
  rw [this]
  simp
theorem wp_rows {P : Program} {o : Oper} {a : Act} {w : World} {K : Act → World → Prop} {Q : Exit → Act → World → Prop} (t e : TypeId) (n size : Nat) (parts : Array (Nat × Operand)) (i : TypeInfo) (z : Value) (vs : List Value)
  (ho : o.op = .buildSlice t n parts) (hu : P.underlying t = some (.slice e)) (hi : P.info? e = some i) (hz : i.zero = some z) (hsz : i.size = size)
  (hp : (parts.map fun (i, x) => (i, a.eval x)).toList = (vs.zipIdx 0).map fun p => (p.2, p.1)) (hl : vs.length = n) (hs : ∀ v ∈ vs, v.cells.size = size) (hn : 0 < n * size) (hm : n * size ≤ 2 ^ 24)
  (h : K (a.put o.dst (.slice (some ⟨w.heap.size, 0, none⟩) n n)) (w.alloc (.cells (vs.flatMap (·.cells.toList)).toArray e))) : o.wp P a w K Q := by
 obtain ⟨c0, hc0⟩ : ∃ c : Array Value, (Array.range (n * size)).map (z.cells[· % z.cells.size]!) = c := ⟨_, rfl⟩
 have hcl : c0.toList.length = vs.length * size := by rw [← hc0]; simp [hl]
 have hf := fill_rows size vs 0 [] c0.toList hs (by simp) hcl
 simp only [List.nil_append, Array.toArray_toList] at hf
 have hrun : (Instr.buildSlice t n (parts.map fun (i, x) => (i, a.eval x))).run P w = .ok (.slice (some ⟨w.heap.size, 0, none⟩) n n) (w.alloc (.cells (vs.flatMap (·.cells.toList)).toArray e)) := by
  unfold Instr.buildSlice
  have h1 : ¬ n * size > 2 ^ 24 := by omega
  have h2 : ¬ n * size = 0 := by omega
  simp [Sem.run_bind, run_underlying hu, sizeOf, typeInfo, hi, hsz, h1, h2, zeroValue, hz, hc0, newRow]
  have hp' : List.map (fun x => (x.fst, a.eval x.snd)) parts.toList = List.map (fun p => (p.snd, p.fst)) vs.zipIdx := by simpa using hp
  rw [hp', hf]
  simp
 unfold Oper.wp execOp
 simp only [ho, Sem.run_bind, Sem.run_pure, hrun, Result.andThen_ok]
 exact h
end Go.Proofs.YtokjkligechcoaaGreatDoor
/- Walks of layer 16: all primitives in one row. -/
namespace Go.Proofs.YtokjkligechcoaaGreatDoor
open Go.RowKit
attribute [local go_sem] ext_mk size_mk toList_mk get_mk take_drop_len take_tail_len ByteArray.mk_append_mk List.append_toArray
theorem infoPrim : (Tryz.prog.info? 77).map (fun i => (i.zero, i.size, i.bytes)) = some (some (.agg #[.string ByteArray.empty, .int .i64 0, .int .i64 0, .string ByteArray.empty, .slice none 0 0]), 5, 72) := by kernel_rfl
/-- An append to a row of primitives that the call owns. -/
theorem app_pr {w : World} {ops : Array Oper} {rest : List Oper} {o : Oper} {a : Act} {Q : Exit → Act → World → Prop} {base : Nat} {v : Value} {n : Nat} {xs : List Value} (hown : w.ownsRow base 77 5 v n xs) (hgd : o.guard = none) (sl x : Operand)
  (ho : o.op = .call { callee := .builtin .append, args := #[sl, x], argTypes := #[74, 74] })
  (ad : Addr) (m c : Nat) (news : List Value) (hs : a.eval sl = v) (hx : a.eval x = .slice (some ad) m c) (hl : news.length = m * 5)
  (hnews : ∀ j u, news[j]? = some u → w.cell? (ad.add j) = some u) (h1 : ∀ u ∈ news, u.oneCell' = true) (hm : 0 < m) (hb : n + m ≤ 1000) (hbase : base ≤ w.heap.size)
  (h : ∀ g cap V, V.ownsRow base 77 5 (.slice (some ⟨g, 0, none⟩) (n + m) cap) (n + m) (xs ++ news) → w.grownBy V v.ownBlock → (v.ownBlock = some g ∨ g = w.heap.size) → g < V.heap.size → Below base w V → wpList Tryz.prog ops Q rest (a.put o.dst (.slice (some ⟨g, 0, none⟩) (n + m) cap)) V) : wpList Tryz.prog ops Q (o :: rest) a w := by
 obtain ⟨i0, hi, hz0, hz1, hz2⟩ := info_parts infoPrim
 refine wpList_append_lies _ hgd sl x 74 ho base 77 i0 (.agg #[.string ByteArray.empty, .int .i64 0, .int .i64 0, .string ByteArray.empty, .slice none 0 0]) 5 72 Tryz.underlying74 hi hz0 hz1 hz2 rfl (by decide) v n xs hs hown ad m c news hx hl hnews h1 hm ?_ ?_ hbase _ rfl ?_
 ·unfold maxLen; omega
 ·omega
 ·intro g cap V k1 k2 k3 k4
  exact h g cap V k1 k2 k3 k4 ((Below.refl base w).grown k2 hbase (fun k hk => (hown.lt k hk).1))
theorem own_block {w : World} {b n : Nat} {cs : List Value} (h : w.heap[b]? = some (.cells cs.toArray 77 (0, 0))) (hl : cs.length = n * 5) (hn : n ≤ 1000) {base : Nat} (hb : base ≤ b) : w.ownsRow base 77 5 (.slice (some ⟨b, 0, none⟩) n n) n cs :=
 ⟨hl, .inr ⟨b, n, cs.toArray, rfl, hb, h, Nat.le_refl _, by unfold maxLen; omega, by simp [hl], by simp [← hl]⟩⟩
/-- what is read of a row of primitives: the type, how many arguments, how many exceptions -/
def okRow : List Value → List (List UInt8 × Int × Nat) → Prop
 | n :: c :: a :: t :: r :: rest, (ty, ar, ra) :: ps => t = .string ⟨ty.toArray⟩ ∧ a = .int .i64 ar ∧ (∃ p cp, r = .slice p ra cp) ∧ ((∃ s, n = .string s) ∧ ∃ z, c = .int .i64 z) ∧ okRow rest ps
 | [], [] => True
 | _, _ => False
def intW : List UInt8 := [105, 110, 116]
def realW : List UInt8 := [114, 101, 97, 108]
def charW : List UInt8 := [99, 104, 97, 114]
def strW : List UInt8 := [115, 116, 114, 105, 110, 103]
def primT : List (List UInt8 × Int × Nat) := [
 ([105, 110, 116, 32, 42, 32, 105, 110, 116, 32, 45, 62, 32, 105, 110, 116], 2, 1),
 ([105, 110, 116, 32, 42, 32, 105, 110, 116, 32, 45, 62, 32, 105, 110, 116], 2, 1),
 ([105, 110, 116, 32, 42, 32, 105, 110, 116, 32, 45, 62, 32, 105, 110, 116], 2, 1),
 ([105, 110, 116, 32, 45, 62, 32, 105, 110, 116], 1, 1),
 ([105, 110, 116, 32, 45, 62, 32, 105, 110, 116], 1, 1),
 ([105, 110, 116, 32, 42, 32, 105, 110, 116, 32, 45, 62, 32, 98, 111, 111, 108], 2, 0),
 ([105, 110, 116, 32, 42, 32, 105, 110, 116, 32, 45, 62, 32, 98, 111, 111, 108], 2, 0),
 ([105, 110, 116, 32, 42, 32, 105, 110, 116, 32, 45, 62, 32, 98, 111, 111, 108], 2, 0),
 ([105, 110, 116, 32, 42, 32, 105, 110, 116, 32, 45, 62, 32, 98, 111, 111, 108], 2, 0),
 ([114, 101, 97, 108, 32, 42, 32, 114, 101, 97, 108, 32, 45, 62, 32, 114, 101, 97, 108], 2, 0),
 ([114, 101, 97, 108, 32, 42, 32, 114, 101, 97, 108, 32, 45, 62, 32, 114, 101, 97, 108], 2, 0),
 ([114, 101, 97, 108, 32, 42, 32, 114, 101, 97, 108, 32, 45, 62, 32, 114, 101, 97, 108], 2, 0),
 ([114, 101, 97, 108, 32, 45, 62, 32, 114, 101, 97, 108], 1, 0),
 ([114, 101, 97, 108, 32, 45, 62, 32, 114, 101, 97, 108], 1, 0),
 ([114, 101, 97, 108, 32, 42, 32, 114, 101, 97, 108, 32, 45, 62, 32, 98, 111, 111, 108], 2, 0),
 ([114, 101, 97, 108, 32, 42, 32, 114, 101, 97, 108, 32, 45, 62, 32, 98, 111, 111, 108], 2, 0),
 ([114, 101, 97, 108, 32, 42, 32, 114, 101, 97, 108, 32, 45, 62, 32, 98, 111, 111, 108], 2, 0),
 ([114, 101, 97, 108, 32, 42, 32, 114, 101, 97, 108, 32, 45, 62, 32, 98, 111, 111, 108], 2, 0),
 ([99, 104, 97, 114, 32, 42, 32, 99, 104, 97, 114, 32, 45, 62, 32, 98, 111, 111, 108], 2, 0),
 ([99, 104, 97, 114, 32, 42, 32, 99, 104, 97, 114, 32, 45, 62, 32, 98, 111, 111, 108], 2, 0),
 ([99, 104, 97, 114, 32, 42, 32, 99, 104, 97, 114, 32, 45, 62, 32, 98, 111, 111, 108], 2, 0),
 ([99, 104, 97, 114, 32, 42, 32, 99, 104, 97, 114, 32, 45, 62, 32, 98, 111, 111, 108], 2, 0),
 ([115, 116, 114, 105, 110, 103, 32, 42, 32, 115, 116, 114, 105, 110, 103, 32, 45, 62, 32, 98, 111, 111, 108], 2, 0),
 ([115, 116, 114, 105, 110, 103, 32, 42, 32, 115, 116, 114, 105, 110, 103, 32, 45, 62, 32, 98, 111, 111, 108], 2, 0),
 ([115, 116, 114, 105, 110, 103, 32, 42, 32, 115, 116, 114, 105, 110, 103, 32, 45, 62, 32, 98, 111, 111, 108], 2, 0),
 ([115, 116, 114, 105, 110, 103, 32, 42, 32, 115, 116, 114, 105, 110, 103, 32, 45, 62, 32, 98, 111, 111, 108], 2, 0),
 ([105, 110, 116, 32, 42, 32, 105, 110, 116, 32, 45, 62, 32, 105, 110, 116], 2, 2),
 ([105, 110, 116, 32, 42, 32, 105, 110, 116, 32, 45, 62, 32, 105, 110, 116], 2, 1),
 ([105, 110, 116, 32, 42, 32, 105, 110, 116, 32, 45, 62, 32, 105, 110, 116], 2, 2),
 ([105, 110, 116, 32, 42, 32, 105, 110, 116, 32, 45, 62, 32, 105, 110, 116], 2, 1),
 ([114, 101, 97, 108, 32, 42, 32, 114, 101, 97, 108, 32, 45, 62, 32, 114, 101, 97, 108], 2, 0),
 ([114, 101, 97, 108, 32, 45, 62, 32, 105, 110, 116], 1, 2),
 ([114, 101, 97, 108, 32, 45, 62, 32, 105, 110, 116], 1, 2),
 ([114, 101, 97, 108, 32, 45, 62, 32, 105, 110, 116], 1, 2),
 ([114, 101, 97, 108, 32, 45, 62, 32, 105, 110, 116], 1, 2),
 ([105, 110, 116, 32, 45, 62, 32, 114, 101, 97, 108], 1, 0),
 ([114, 101, 97, 108, 32, 42, 32, 114, 101, 97, 108, 32, 45, 62, 32, 98, 111, 111, 108], 2, 0),
 ([114, 101, 97, 108, 32, 45, 62, 32, 98, 111, 111, 108], 1, 0),
 ([114, 101, 97, 108, 32, 45, 62, 32, 115, 116, 114, 105, 110, 103], 1, 0),
 ([105, 110, 116, 32, 45, 62, 32, 115, 116, 114, 105, 110, 103], 1, 0),
 ([115, 116, 114, 105, 110, 103, 32, 45, 62, 32, 105, 110, 116, 32, 42, 32, 105, 110, 116], 1, 1),
 ([115, 116, 114, 105, 110, 103, 32, 45, 62, 32, 114, 101, 97, 108, 32, 42, 32, 105, 110, 116], 1, 0),
 ([99, 104, 97, 114, 32, 45, 62, 32, 105, 110, 116], 1, 0),
 ([105, 110, 116, 32, 45, 62, 32, 99, 104, 97, 114], 1, 1),
 ([115, 116, 114, 105, 110, 103, 32, 42, 32, 115, 116, 114, 105, 110, 103, 32, 45, 62, 32, 115, 116, 114, 105, 110, 103], 2, 1),
 ([115, 116, 114, 105, 110, 103, 32, 45, 62, 32, 105, 110, 116], 1, 0),
 ([115, 116, 114, 105, 110, 103, 32, 42, 32, 105, 110, 116, 32, 45, 62, 32, 99, 104, 97, 114], 2, 1),
 ([115, 116, 114, 105, 110, 103, 32, 42, 32, 105, 110, 116, 32, 42, 32, 105, 110, 116, 32, 45, 62, 32, 115, 116, 114, 105, 110, 103], 3, 1),
 ([99, 104, 97, 114, 32, 45, 62, 32, 115, 116, 114, 105, 110, 103], 1, 0),
 ([39, 39, 97, 32, 42, 32, 39, 39, 97, 32, 45, 62, 32, 98, 111, 111, 108], 2, 0),
 ([39, 39, 97, 32, 42, 32, 39, 39, 97, 32, 45, 62, 32, 98, 111, 111, 108], 2, 0),
 ([39, 97, 32, 45, 62, 32, 39, 97, 32, 114, 101, 102], 1, 0),
 ([39, 97, 32, 114, 101, 102, 32, 45, 62, 32, 39, 97], 1, 0),
 ([39, 97, 32, 114, 101, 102, 32, 42, 32, 39, 97, 32, 45, 62, 32, 117, 110, 105, 116], 2, 0),
 ([105, 110, 116, 32, 42, 32, 39, 97, 32, 45, 62, 32, 39, 97, 32, 97, 114, 114, 97, 121], 2, 1),
 ([39, 97, 32, 97, 114, 114, 97, 121, 32, 45, 62, 32, 105, 110, 116], 1, 0),
 ([39, 97, 32, 97, 114, 114, 97, 121, 32, 42, 32, 105, 110, 116, 32, 45, 62, 32, 39, 97], 2, 1),
 ([39, 97, 32, 97, 114, 114, 97, 121, 32, 42, 32, 105, 110, 116, 32, 42, 32, 39, 97, 32, 45, 62, 32, 117, 110, 105, 116], 3, 1),
 ([115, 116, 114, 105, 110, 103, 32, 45, 62, 32, 117, 110, 105, 116], 1, 0),
 ([117, 110, 105, 116, 32, 45, 62, 32, 115, 116, 114, 105, 110, 103], 1, 0),
 ([115, 116, 114, 105, 110, 103, 32, 45, 62, 32, 101, 120, 110], 1, 0)]
theorem recC_one (c : Int) (t : List UInt8) (a : Option Addr) (n cap : Nat) : ∀ u ∈ recC c t (.slice a n cap), u.oneCell' = true := by
 have h : (recC c t (.slice a n cap)).all (·.oneCell') = true := rfl
 exact List.all_eq_true.1 h
def RecR (w : World) (c : Int) (t : List UInt8) (r : Value) (e : Ending) (w' : World) : Prop :=
 ∃ b, e = .returned (.slice (some ⟨b, 0, none⟩) 9 9) ∧ w.heap.size ≤ b ∧ b < w'.heap.size ∧ w'.heap[b]? = some (.cells (recC c t r).toArray 77 (0, 0)) ∧ Below w.heap.size w w'
theorem RecR.mk1 {w w' : World} {c : Int} {t : List UInt8} {r : Value} {e : Ending} (h : e = .returned (.slice (some ⟨w.heap.size, 0, none⟩) 9 9) ∧ w' = w.alloc (.cells (recC c t r).toArray 77)) : RecR w c t r e w' := by
 obtain ⟨rfl, rfl⟩ := h
 exact ⟨_, rfl, Nat.le_refl _, by simp, heap_alloc_new _ _, (Below.refl _ _).alloc (Nat.le_refl _) _⟩
theorem blk_below {w w' : World} {b : Nat} {o : Obj} (h : w.heap[b]? = some o) (hb : Below w.heap.size w w') : w'.heap[b]? = some o := by
 have hlt : b < w.heap.size := by
  rcases Nat.lt_or_ge b w.heap.size with g | g
  ·exact g
  ·rw [Array.getElem?_eq_none g] at h; cases h
 rw [hb.block b hlt]; exact h
theorem news_blk {w : World} {b : Nat} {cs : List Value} (h : w.heap[b]? = some (.cells cs.toArray 77 (0, 0))) : ∀ j u, cs[j]? = some u → w.cell? ((⟨b, 0, none⟩ : Addr).add j) = some u := fun j u hu => World.news_of_block h j u (by simpa using hu)
def vs35 (k : Nat) : List Value := [
 .agg #[.string ⟨#[100, 105, 118]⟩, .int .i64 (-1), .int .i64 2, .string ⟨#[105, 110, 116, 32, 42, 32, 105, 110, 116, 32, 45, 62, 32, 105, 110, 116]⟩, .slice (some ⟨k, 0, none⟩) 2 2],
 .agg #[.string ⟨#[109, 111, 100]⟩, .int .i64 (-1), .int .i64 2, .string ⟨#[105, 110, 116, 32, 42, 32, 105, 110, 116, 32, 45, 62, 32, 105, 110, 116]⟩, .slice (some ⟨k + 1, 0, none⟩) 1 1],
 .agg #[.string ⟨#[113, 117, 111, 116]⟩, .int .i64 (-1), .int .i64 2, .string ⟨#[105, 110, 116, 32, 42, 32, 105, 110, 116, 32, 45, 62, 32, 105, 110, 116]⟩, .slice (some ⟨k + 2, 0, none⟩) 2 2],
 .agg #[.string ⟨#[114, 101, 109]⟩, .int .i64 (-1), .int .i64 2, .string ⟨#[105, 110, 116, 32, 42, 32, 105, 110, 116, 32, 45, 62, 32, 105, 110, 116]⟩, .slice (some ⟨k + 3, 0, none⟩) 1 1],
 .agg #[.string ⟨#[47]⟩, .int .i64 (-1), .int .i64 2, .string ⟨#[114, 101, 97, 108, 32, 42, 32, 114, 101, 97, 108, 32, 45, 62, 32, 114, 101, 97, 108]⟩, .slice none 0 0],
 .agg #[.string ⟨#[102, 108, 111, 111, 114]⟩, .int .i64 (-1), .int .i64 1, .string ⟨#[114, 101, 97, 108, 32, 45, 62, 32, 105, 110, 116]⟩, .slice (some ⟨k + 4, 0, none⟩) 2 2],
 .agg #[.string ⟨#[99, 101, 105, 108]⟩, .int .i64 (-1), .int .i64 1, .string ⟨#[114, 101, 97, 108, 32, 45, 62, 32, 105, 110, 116]⟩, .slice (some ⟨k + 5, 0, none⟩) 2 2],
 .agg #[.string ⟨#[116, 114, 117, 110, 99]⟩, .int .i64 (-1), .int .i64 1, .string ⟨#[114, 101, 97, 108, 32, 45, 62, 32, 105, 110, 116]⟩, .slice (some ⟨k + 6, 0, none⟩) 2 2],
 .agg #[.string ⟨#[114, 111, 117, 110, 100]⟩, .int .i64 (-1), .int .i64 1, .string ⟨#[114, 101, 97, 108, 32, 45, 62, 32, 105, 110, 116]⟩, .slice (some ⟨k + 7, 0, none⟩) 2 2],
 .agg #[.string ⟨#[114, 101, 97, 108]⟩, .int .i64 (-1), .int .i64 1, .string ⟨#[105, 110, 116, 32, 45, 62, 32, 114, 101, 97, 108]⟩, .slice none 0 0],
 .agg #[.string ⟨#[115, 97, 109, 101]⟩, .int .i64 (-1), .int .i64 2, .string ⟨#[114, 101, 97, 108, 32, 42, 32, 114, 101, 97, 108, 32, 45, 62, 32, 98, 111, 111, 108]⟩, .slice none 0 0],
 .agg #[.string ⟨#[105, 115, 78, 97, 110]⟩, .int .i64 (-1), .int .i64 1, .string ⟨#[114, 101, 97, 108, 32, 45, 62, 32, 98, 111, 111, 108]⟩, .slice none 0 0],
 .agg #[.string ⟨#[114, 101, 97, 108, 84, 101, 120, 116]⟩, .int .i64 (-1), .int .i64 1, .string ⟨#[114, 101, 97, 108, 32, 45, 62, 32, 115, 116, 114, 105, 110, 103]⟩, .slice none 0 0],
 .agg #[.string ⟨#[105, 110, 116, 84, 101, 120, 116]⟩, .int .i64 (-1), .int .i64 1, .string ⟨#[105, 110, 116, 32, 45, 62, 32, 115, 116, 114, 105, 110, 103]⟩, .slice none 0 0],
 .agg #[.string ⟨#[105, 110, 116, 83, 99, 97, 110]⟩, .int .i64 (-1), .int .i64 1, .string ⟨#[115, 116, 114, 105, 110, 103, 32, 45, 62, 32, 105, 110, 116, 32, 42, 32, 105, 110, 116]⟩, .slice (some ⟨k + 8, 0, none⟩) 1 1],
 .agg #[.string ⟨#[114, 101, 97, 108, 83, 99, 97, 110]⟩, .int .i64 (-1), .int .i64 1, .string ⟨#[115, 116, 114, 105, 110, 103, 32, 45, 62, 32, 114, 101, 97, 108, 32, 42, 32, 105, 110, 116]⟩, .slice none 0 0],
 .agg #[.string ⟨#[111, 114, 100]⟩, .int .i64 (-1), .int .i64 1, .string ⟨#[99, 104, 97, 114, 32, 45, 62, 32, 105, 110, 116]⟩, .slice none 0 0],
 .agg #[.string ⟨#[99, 104, 114]⟩, .int .i64 (-1), .int .i64 1, .string ⟨#[105, 110, 116, 32, 45, 62, 32, 99, 104, 97, 114]⟩, .slice (some ⟨k + 9, 0, none⟩) 1 1],
 .agg #[.string ⟨#[94]⟩, .int .i64 (-1), .int .i64 2, .string ⟨#[115, 116, 114, 105, 110, 103, 32, 42, 32, 115, 116, 114, 105, 110, 103, 32, 45, 62, 32, 115, 116, 114, 105, 110, 103]⟩, .slice (some ⟨k + 10, 0, none⟩) 1 1],
 .agg #[.string ⟨#[115, 105, 122, 101]⟩, .int .i64 (-1), .int .i64 1, .string ⟨#[115, 116, 114, 105, 110, 103, 32, 45, 62, 32, 105, 110, 116]⟩, .slice none 0 0],
 .agg #[.string ⟨#[115, 117, 98]⟩, .int .i64 (-1), .int .i64 2, .string ⟨#[115, 116, 114, 105, 110, 103, 32, 42, 32, 105, 110, 116, 32, 45, 62, 32, 99, 104, 97, 114]⟩, .slice (some ⟨k + 11, 0, none⟩) 1 1],
 .agg #[.string ⟨#[115, 117, 98, 115, 116, 114, 105, 110, 103]⟩, .int .i64 (-1), .int .i64 3, .string ⟨#[115, 116, 114, 105, 110, 103, 32, 42, 32, 105, 110, 116, 32, 42, 32, 105, 110, 116, 32, 45, 62, 32, 115, 116, 114, 105, 110, 103]⟩, .slice (some ⟨k + 12, 0, none⟩) 1 1],
 .agg #[.string ⟨#[115, 116, 114]⟩, .int .i64 (-1), .int .i64 1, .string ⟨#[99, 104, 97, 114, 32, 45, 62, 32, 115, 116, 114, 105, 110, 103]⟩, .slice none 0 0],
 .agg #[.string ⟨#[61]⟩, .int .i64 (-1), .int .i64 2, .string ⟨#[39, 39, 97, 32, 42, 32, 39, 39, 97, 32, 45, 62, 32, 98, 111, 111, 108]⟩, .slice none 0 0],
 .agg #[.string ⟨#[60, 62]⟩, .int .i64 (-1), .int .i64 2, .string ⟨#[39, 39, 97, 32, 42, 32, 39, 39, 97, 32, 45, 62, 32, 98, 111, 111, 108]⟩, .slice none 0 0],
 .agg #[.string ⟨#[114, 101, 102]⟩, .int .i64 (-1), .int .i64 1, .string ⟨#[39, 97, 32, 45, 62, 32, 39, 97, 32, 114, 101, 102]⟩, .slice none 0 0],
 .agg #[.string ⟨#[33]⟩, .int .i64 (-1), .int .i64 1, .string ⟨#[39, 97, 32, 114, 101, 102, 32, 45, 62, 32, 39, 97]⟩, .slice none 0 0],
 .agg #[.string ⟨#[58, 61]⟩, .int .i64 (-1), .int .i64 2, .string ⟨#[39, 97, 32, 114, 101, 102, 32, 42, 32, 39, 97, 32, 45, 62, 32, 117, 110, 105, 116]⟩, .slice none 0 0],
 .agg #[.string ⟨#[97, 114, 114, 97, 121]⟩, .int .i64 (-1), .int .i64 2, .string ⟨#[105, 110, 116, 32, 42, 32, 39, 97, 32, 45, 62, 32, 39, 97, 32, 97, 114, 114, 97, 121]⟩, .slice (some ⟨k + 13, 0, none⟩) 1 1],
 .agg #[.string ⟨#[108, 101, 110, 103, 116, 104]⟩, .int .i64 (-1), .int .i64 1, .string ⟨#[39, 97, 32, 97, 114, 114, 97, 121, 32, 45, 62, 32, 105, 110, 116]⟩, .slice none 0 0],
 .agg #[.string ⟨#[103, 101, 116]⟩, .int .i64 (-1), .int .i64 2, .string ⟨#[39, 97, 32, 97, 114, 114, 97, 121, 32, 42, 32, 105, 110, 116, 32, 45, 62, 32, 39, 97]⟩, .slice (some ⟨k + 14, 0, none⟩) 1 1],
 .agg #[.string ⟨#[115, 101, 116]⟩, .int .i64 (-1), .int .i64 3, .string ⟨#[39, 97, 32, 97, 114, 114, 97, 121, 32, 42, 32, 105, 110, 116, 32, 42, 32, 39, 97, 32, 45, 62, 32, 117, 110, 105, 116]⟩, .slice (some ⟨k + 15, 0, none⟩) 1 1],
 .agg #[.string ⟨#[112, 114, 105, 110, 116]⟩, .int .i64 (-1), .int .i64 1, .string ⟨#[115, 116, 114, 105, 110, 103, 32, 45, 62, 32, 117, 110, 105, 116]⟩, .slice none 0 0],
 .agg #[.string ⟨#[105, 110, 112, 117, 116]⟩, .int .i64 (-1), .int .i64 1, .string ⟨#[117, 110, 105, 116, 32, 45, 62, 32, 115, 116, 114, 105, 110, 103]⟩, .slice none 0 0],
 .agg #[.string ⟨#[101, 120, 110]⟩, .int .i64 (-1), .int .i64 1, .string ⟨#[115, 116, 114, 105, 110, 103, 32, 45, 62, 32, 101, 120, 110]⟩, .slice none 0 0]]
def last35 (k : Nat) : List Value :=
 (prC [100, 105, 118] (-1) 2 [105, 110, 116, 32, 42, 32, 105, 110, 116, 32, 45, 62, 32, 105, 110, 116] (.slice (some ⟨k, 0, none⟩) 2 2) ++
 (prC [109, 111, 100] (-1) 2 [105, 110, 116, 32, 42, 32, 105, 110, 116, 32, 45, 62, 32, 105, 110, 116] (.slice (some ⟨k + 1, 0, none⟩) 1 1) ++
 (prC [113, 117, 111, 116] (-1) 2 [105, 110, 116, 32, 42, 32, 105, 110, 116, 32, 45, 62, 32, 105, 110, 116] (.slice (some ⟨k + 2, 0, none⟩) 2 2) ++
 (prC [114, 101, 109] (-1) 2 [105, 110, 116, 32, 42, 32, 105, 110, 116, 32, 45, 62, 32, 105, 110, 116] (.slice (some ⟨k + 3, 0, none⟩) 1 1) ++
 (prC [47] (-1) 2 [114, 101, 97, 108, 32, 42, 32, 114, 101, 97, 108, 32, 45, 62, 32, 114, 101, 97, 108] (.slice none 0 0) ++
 (prC [102, 108, 111, 111, 114] (-1) 1 [114, 101, 97, 108, 32, 45, 62, 32, 105, 110, 116] (.slice (some ⟨k + 4, 0, none⟩) 2 2) ++
 (prC [99, 101, 105, 108] (-1) 1 [114, 101, 97, 108, 32, 45, 62, 32, 105, 110, 116] (.slice (some ⟨k + 5, 0, none⟩) 2 2) ++
 (prC [116, 114, 117, 110, 99] (-1) 1 [114, 101, 97, 108, 32, 45, 62, 32, 105, 110, 116] (.slice (some ⟨k + 6, 0, none⟩) 2 2) ++
 (prC [114, 111, 117, 110, 100] (-1) 1 [114, 101, 97, 108, 32, 45, 62, 32, 105, 110, 116] (.slice (some ⟨k + 7, 0, none⟩) 2 2) ++
 (prC [114, 101, 97, 108] (-1) 1 [105, 110, 116, 32, 45, 62, 32, 114, 101, 97, 108] (.slice none 0 0) ++
 (prC [115, 97, 109, 101] (-1) 2 [114, 101, 97, 108, 32, 42, 32, 114, 101, 97, 108, 32, 45, 62, 32, 98, 111, 111, 108] (.slice none 0 0) ++
 (prC [105, 115, 78, 97, 110] (-1) 1 [114, 101, 97, 108, 32, 45, 62, 32, 98, 111, 111, 108] (.slice none 0 0) ++
 (prC [114, 101, 97, 108, 84, 101, 120, 116] (-1) 1 [114, 101, 97, 108, 32, 45, 62, 32, 115, 116, 114, 105, 110, 103] (.slice none 0 0) ++
 (prC [105, 110, 116, 84, 101, 120, 116] (-1) 1 [105, 110, 116, 32, 45, 62, 32, 115, 116, 114, 105, 110, 103] (.slice none 0 0) ++
 (prC [105, 110, 116, 83, 99, 97, 110] (-1) 1 [115, 116, 114, 105, 110, 103, 32, 45, 62, 32, 105, 110, 116, 32, 42, 32, 105, 110, 116] (.slice (some ⟨k + 8, 0, none⟩) 1 1) ++
 (prC [114, 101, 97, 108, 83, 99, 97, 110] (-1) 1 [115, 116, 114, 105, 110, 103, 32, 45, 62, 32, 114, 101, 97, 108, 32, 42, 32, 105, 110, 116] (.slice none 0 0) ++
 (prC [111, 114, 100] (-1) 1 [99, 104, 97, 114, 32, 45, 62, 32, 105, 110, 116] (.slice none 0 0) ++
 (prC [99, 104, 114] (-1) 1 [105, 110, 116, 32, 45, 62, 32, 99, 104, 97, 114] (.slice (some ⟨k + 9, 0, none⟩) 1 1) ++
 (prC [94] (-1) 2 [115, 116, 114, 105, 110, 103, 32, 42, 32, 115, 116, 114, 105, 110, 103, 32, 45, 62, 32, 115, 116, 114, 105, 110, 103] (.slice (some ⟨k + 10, 0, none⟩) 1 1) ++
 (prC [115, 105, 122, 101] (-1) 1 [115, 116, 114, 105, 110, 103, 32, 45, 62, 32, 105, 110, 116] (.slice none 0 0) ++
 (prC [115, 117, 98] (-1) 2 [115, 116, 114, 105, 110, 103, 32, 42, 32, 105, 110, 116, 32, 45, 62, 32, 99, 104, 97, 114] (.slice (some ⟨k + 11, 0, none⟩) 1 1) ++
 (prC [115, 117, 98, 115, 116, 114, 105, 110, 103] (-1) 3 [115, 116, 114, 105, 110, 103, 32, 42, 32, 105, 110, 116, 32, 42, 32, 105, 110, 116, 32, 45, 62, 32, 115, 116, 114, 105, 110, 103] (.slice (some ⟨k + 12, 0, none⟩) 1 1) ++
 (prC [115, 116, 114] (-1) 1 [99, 104, 97, 114, 32, 45, 62, 32, 115, 116, 114, 105, 110, 103] (.slice none 0 0) ++
 (prC [61] (-1) 2 [39, 39, 97, 32, 42, 32, 39, 39, 97, 32, 45, 62, 32, 98, 111, 111, 108] (.slice none 0 0) ++
 (prC [60, 62] (-1) 2 [39, 39, 97, 32, 42, 32, 39, 39, 97, 32, 45, 62, 32, 98, 111, 111, 108] (.slice none 0 0) ++
 (prC [114, 101, 102] (-1) 1 [39, 97, 32, 45, 62, 32, 39, 97, 32, 114, 101, 102] (.slice none 0 0) ++
 (prC [33] (-1) 1 [39, 97, 32, 114, 101, 102, 32, 45, 62, 32, 39, 97] (.slice none 0 0) ++
 (prC [58, 61] (-1) 2 [39, 97, 32, 114, 101, 102, 32, 42, 32, 39, 97, 32, 45, 62, 32, 117, 110, 105, 116] (.slice none 0 0) ++
 (prC [97, 114, 114, 97, 121] (-1) 2 [105, 110, 116, 32, 42, 32, 39, 97, 32, 45, 62, 32, 39, 97, 32, 97, 114, 114, 97, 121] (.slice (some ⟨k + 13, 0, none⟩) 1 1) ++
 (prC [108, 101, 110, 103, 116, 104] (-1) 1 [39, 97, 32, 97, 114, 114, 97, 121, 32, 45, 62, 32, 105, 110, 116] (.slice none 0 0) ++
 (prC [103, 101, 116] (-1) 2 [39, 97, 32, 97, 114, 114, 97, 121, 32, 42, 32, 105, 110, 116, 32, 45, 62, 32, 39, 97] (.slice (some ⟨k + 14, 0, none⟩) 1 1) ++
 (prC [115, 101, 116] (-1) 3 [39, 97, 32, 97, 114, 114, 97, 121, 32, 42, 32, 105, 110, 116, 32, 42, 32, 39, 97, 32, 45, 62, 32, 117, 110, 105, 116] (.slice (some ⟨k + 15, 0, none⟩) 1 1) ++
 (prC [112, 114, 105, 110, 116] (-1) 1 [115, 116, 114, 105, 110, 103, 32, 45, 62, 32, 117, 110, 105, 116] (.slice none 0 0) ++
 (prC [105, 110, 112, 117, 116] (-1) 1 [117, 110, 105, 116, 32, 45, 62, 32, 115, 116, 114, 105, 110, 103] (.slice none 0 0) ++
 prC [101, 120, 110] (-1) 1 [115, 116, 114, 105, 110, 103, 32, 45, 62, 32, 101, 120, 110] (.slice none 0 0)))))))))))))))))))))))))))))))))))
set_option maxRecDepth 100000 in
theorem vs35_cells (k : Nat) : (vs35 k).flatMap (·.cells.toList) = last35 k := rfl
set_option maxRecDepth 100000 in
theorem vs35_size (k : Nat) : ∀ v ∈ vs35 k, v.cells.size = 5 := by
 have h : (vs35 k).all (fun v => v.cells.size == 5) = true := rfl
 intro v hv
 have := List.all_eq_true.1 h v hv
 simpa using this
set_option maxRecDepth 100000 in
theorem last35_one (k : Nat) : ∀ u ∈ last35 k, u.oneCell' = true := by
 have h : (last35 k).all (·.oneCell') = true := rfl
 exact List.all_eq_true.1 h
theorem okRow_app {ys : List Value} {qs : List (List UInt8 × Int × Nat)} (hy : okRow ys qs) : ∀ (ps : List (List UInt8 × Int × Nat)) (xs : List Value), okRow xs ps → okRow (xs ++ ys) (ps ++ qs) := by
 intro ps
 induction ps with
 | nil =>
  intro xs h
  match xs, h with
  | [], _ => exact hy
  | _ :: _, h => exact absurd h (by simp [okRow])
 | cons p ps ih =>
  obtain ⟨ty, ar, ra⟩ := p
  intro xs h
  match xs, h with
  | n :: c :: a :: t :: r :: rest, h => exact ⟨h.1, h.2.1, h.2.2.1, h.2.2.2.1, ih rest h.2.2.2.2⟩
  | [], h => exact absurd h (by simp [okRow])
  | [_], h => exact absurd h (by simp [okRow])
  | [_, _], h => exact absurd h (by simp [okRow])
  | [_, _, _], h => exact absurd h (by simp [okRow])
  | [_, _, _, _], h => exact absurd h (by simp [okRow])
set_option maxRecDepth 100000 in
theorem ok_int (k : Nat) : okRow (recC 0 intW (.slice (some ⟨k, 0, none⟩) 1 1)) (primT.take 9) := by
 repeat (refine ⟨rfl, rfl, ⟨_, _, rfl⟩, ⟨⟨_, rfl⟩, _, rfl⟩, ?_⟩)
 trivial
set_option maxRecDepth 100000 in
theorem ok_real : okRow (recC 1 realW nilS) ((primT.drop 9).take 9) := by
 repeat (refine ⟨rfl, rfl, ⟨_, _, rfl⟩, ⟨⟨_, rfl⟩, _, rfl⟩, ?_⟩)
 trivial
set_option maxRecDepth 100000 in
theorem ok_char : okRow ((recTests 2 charW).take (5 * 4)) ((primT.drop 18).take 4) := by
 repeat (refine ⟨rfl, rfl, ⟨_, _, rfl⟩, ⟨⟨_, rfl⟩, _, rfl⟩, ?_⟩)
 trivial
set_option maxRecDepth 100000 in
theorem ok_str : okRow ((recTests 3 strW).take (5 * 4)) ((primT.drop 22).take 4) := by
 repeat (refine ⟨rfl, rfl, ⟨_, _, rfl⟩, ⟨⟨_, rfl⟩, _, rfl⟩, ?_⟩)
 trivial
set_option maxRecDepth 100000 in
theorem ok_last (k : Nat) : okRow (last35 k) (primT.drop 26) := by
 repeat (refine ⟨rfl, rfl, ⟨_, _, rfl⟩, ⟨⟨_, rfl⟩, _, rfl⟩, ?_⟩)
 trivial
theorem ok_all (j k : Nat) : okRow ((((recC 0 intW (.slice (some ⟨j, 0, none⟩) 1 1) ++ recC 1 realW nilS) ++ (recTests 2 charW).take (5 * 4)) ++ (recTests 3 strW).take (5 * 4)) ++ last35 k) primT :=
 okRow_app (ok_last k) _ _ (okRow_app ok_str _ _ (okRow_app ok_char _ _ (okRow_app ok_real _ _ (ok_int j))))
theorem own_below {w w' : World} {base n : Nat} {v : Value} {xs : List Value} (h : w.ownsRow base 77 5 v n xs) (hb : Below w.heap.size w w') : w'.ownsRow base 77 5 v n xs :=
 World.ownsRow.kept (row := none) h ⟨hb.os, hb.tape, hb.output, hb.size, fun k hk _ => hb.block k hk⟩ (by cases v.ownBlock <;> simp)
theorem prC_one (n : List UInt8) (c a : Int) (t : List UInt8) : ∀ u ∈ prC n c a t nilS, u.oneCell' = true := by
 have h : (prC n c a t nilS).all (·.oneCell') = true := rfl
 exact List.all_eq_true.1 h
theorem prow_next {wr V : World} {b3 g g' n cap : Nat} {o1 o2 : Obj} {C : List Value} (hne : g ≠ b3) (hb3 : b3 < wr.heap.size) (hblk : wr.heap[b3]? = some (.cells C.toArray 77 (0, 0)))
  (hG : ((wr.alloc o1).alloc o2).grownBy V (Value.slice (some ⟨g, 0, none⟩) n cap).ownBlock) (hat : (Value.slice (some ⟨g, 0, none⟩) n cap).ownBlock = some g' ∨ g' = ((wr.alloc o1).alloc o2).heap.size) :
  g' ≠ b3 ∧ b3 < V.heap.size ∧ V.heap[b3]? = some (.cells C.toArray 77 (0, 0)) := by
 have hs : ((wr.alloc o1).alloc o2).heap.size = wr.heap.size + 2 := by simp
 have hz := hG.size
 rw [hs] at hz hat
 refine ⟨?_, by omega, ?_⟩
 ·rcases hat with h | h
  ·have : g = g' := by simpa [Value.ownBlock] using h
   omega
  ·omega
 ·rw [hG.block b3 (by rw [hs]; omega) (by simp [Value.ownBlock]; omega)]
  exact blk_below hblk ((((Below.refl _ _).alloc (Nat.le_refl _) _).alloc (by simp) _))
set_option maxHeartbeats 8000000 in
set_option maxRecDepth 8000 in
theorem prims_any (w : World) : Calls Tryz.prog 35 #[] w fun e w' => ∃ g cap cs, e = .returned (.slice (some ⟨g, 0, none⟩) 61 cap) ∧ w'.ownsRow w.heap.size 77 5 (.slice (some ⟨g, 0, none⟩) 61 cap) 61 cs ∧ okRow cs primT ∧ Below w.heap.size w w' := by
 have c1 := fun a n cap W => (rec_int a n cap W).mono fun e w' h => RecR.mk1 h
 have c2 := fun a n cap W => (rec_real a n cap W).mono fun e w' h => RecR.mk1 h
 have c3 := fun a n cap W => (rec_char a n cap W).mono fun e w' h => RecR.mk1 h
 have c4 := fun a n cap W => (rec_string a n cap W).mono fun e w' h => RecR.mk1 h
 have C1 := Lib.hid c1
 have C2 := Lib.hid c2
 have C3 := Lib.hid c3
 have C4 := Lib.hid c4
 clear c1 c2 c3 c4
 go_enter Tryz.func35, Tryz.ntmps35
 obtain ⟨X0, hX0⟩ : ∃ X, recC 0 intW (.slice (some ⟨w.heap.size, 0, none⟩) 1 1) ++ recC 1 realW nilS = X := ⟨_, rfl⟩
 have HX0 := Lib.hid hX0
 clear hX0
 go_wp2_with (first
  | (go_at_call 90; (with_reducible refine (C1.out _ _ _ _).mono ?_); rintro e w1 ⟨b1, rfl, hb1, hl1, hk1, hw1⟩; have H1 := Lib.hid hk1; have hz1 : Below w.heap.size w w1 := ((Below.refl _ _).alloc (Nat.le_refl _) _).trans (hw1.mono (by simp)); simp only [World.size_alloc] at hb1; clear hk1)
  | (go_at_call 90; (with_reducible refine (C2.out _ _ _ _).mono ?_); rintro e w2 ⟨b2, rfl, hb2, hl2, hk2, hw2⟩; have H2 := Lib.hid hk2; have hz2 := hz1.trans (hw2.mono hz1.size); clear hk2)
  | (go_at_call 90; (with_reducible refine (C3.out _ _ _ _).mono ?_); rintro e w3 ⟨b3, rfl, hb3, hl3, hk3, hw3⟩; have H3 := Lib.hid hk3; have hz4 := hz3.trans (hw3.mono hz3.size); have HO3 := Lib.hid (own_below HO1.out hw3); clear hk3)
  | (at_builtin; refine app_pr (base := w.heap.size) (own_block (blk_below H1.out hw2) rfl (by decide) (by omega)) rfl _ _ rfl ⟨b2, 0, none⟩ 9 9 (recC 1 realW nilS) rfl rfl rfl (news_blk H2.out) (recC_one _ _ _ _ _) (by decide) (by decide) hz2.size ?_; intro g cap V hO hG hat hg hB; have hz3 := hz2.trans hB; have HO1 := Lib.hid (HX0.out ▸ hO); clear hO hG))
 go_loopw [1, 14] (fun vl vi wr => ∃ (k g cap : Nat), vi = .int .i64 k ∧ k ≤ 4 ∧ vl = .slice (some ⟨g, 0, none⟩) (18 + k) cap ∧ g ≠ b3 ∧ g < wr.heap.size ∧ b3 < wr.heap.size ∧ Hid (wr.ownsRow w.heap.size 77 5 vl (18 + k) (X0 ++ (recTests 2 charW).take (5 * k))) ∧ Hid (wr.heap[b3]? = some (.cells (recC 2 charW nilS).toArray 77 (0, 0))) ∧ Below w.heap.size w wr) (fun _ vi _ => 4 - (intOf vi).toNat)
 case atStart => exact ⟨0, g, cap, rfl, by decide, rfl, by omega, by have := hw3.size; omega, hl3, Lib.hid (by rw [List.take_zero, List.append_nil]; exact HO3.out), Lib.hid H3.out, hz4⟩
 case round =>
  obtain ⟨k, g, cap, rfl, hk, rfl, hne, hg, hb3, HO, HB, hw⟩ := hrel
  rcases (by omega : k = 0 ∨ k = 1 ∨ k = 2 ∨ k = 3 ∨ k = 4) with rfl | rfl | rfl | rfl | rfl
  ·have e0 : wr.cell? ⟨b3, 25, none⟩ = some (.string ⟨#[60]⟩) := by rw [cell_of_row _ _ _ _ _ _ HB.out]; rfl
   have e1 : wr.cell? ⟨b3, 25 + 1, none⟩ = some (.int .i64 2) := by rw [cell_of_row _ _ _ _ _ _ HB.out]; rfl
   have e2 : wr.cell? ⟨b3, 25 + 2, none⟩ = some (.int .i64 2) := by rw [cell_of_row _ _ _ _ _ _ HB.out]; rfl
   have e3 : wr.cell? ⟨b3, 25 + 3, none⟩ = some (.string ⟨(tst charW).toArray⟩) := by rw [cell_of_row _ _ _ _ _ _ HB.out]; rfl
   have e4 : wr.cell? ⟨b3, 25 + 4, none⟩ = some (.slice none 0 0) := by rw [cell_of_row _ _ _ _ _ _ HB.out]; rfl
   go_wp2_with (at_builtin; refine app_pr (own_below HO.out (((Below.refl _ _).alloc (Nat.le_refl _) _).alloc (by simp) _)) rfl _ _ rfl ⟨wr.heap.size + 1, 0, none⟩ 1 1 (prC [60] 2 2 (tst charW) nilS) rfl rfl rfl (news_blk (heap_alloc2_new _ _ _)) (prC_one _ _ _ _) (by decide) (by decide) (by have := hw.size; simp; omega) ?_; intro g' cap' V hO2 hG2 hat2 hg2 hB2)
   go_roundw
   case rel =>
    obtain ⟨n1, n2, n3⟩ := prow_next hne hb3 HB.out hG2 hat2
    exact ⟨0 + 1, g', cap', rfl, by decide, rfl, n1, hg2, n2, Lib.hid (by have h := hO2; rw [List.append_assoc] at h; exact h), Lib.hid n3, hw.trans ((((Below.refl w.heap.size wr).alloc hw.size _).alloc (by have := hw.size; simp; omega) _).trans hB2)⟩
   case measure => simp [intOf]
  ·have e0 : wr.cell? ⟨b3, 30, none⟩ = some (.string ⟨#[60, 61]⟩) := by rw [cell_of_row _ _ _ _ _ _ HB.out]; rfl
   have e1 : wr.cell? ⟨b3, 30 + 1, none⟩ = some (.int .i64 2) := by rw [cell_of_row _ _ _ _ _ _ HB.out]; rfl
   have e2 : wr.cell? ⟨b3, 30 + 2, none⟩ = some (.int .i64 2) := by rw [cell_of_row _ _ _ _ _ _ HB.out]; rfl
   have e3 : wr.cell? ⟨b3, 30 + 3, none⟩ = some (.string ⟨(tst charW).toArray⟩) := by rw [cell_of_row _ _ _ _ _ _ HB.out]; rfl
   have e4 : wr.cell? ⟨b3, 30 + 4, none⟩ = some (.slice none 0 0) := by rw [cell_of_row _ _ _ _ _ _ HB.out]; rfl
   go_wp2_with (at_builtin; refine app_pr (own_below HO.out (((Below.refl _ _).alloc (Nat.le_refl _) _).alloc (by simp) _)) rfl _ _ rfl ⟨wr.heap.size + 1, 0, none⟩ 1 1 (prC [60, 61] 2 2 (tst charW) nilS) rfl rfl rfl (news_blk (heap_alloc2_new _ _ _)) (prC_one _ _ _ _) (by decide) (by decide) (by have := hw.size; simp; omega) ?_; intro g' cap' V hO2 hG2 hat2 hg2 hB2)
   go_roundw
   case rel =>
    obtain ⟨n1, n2, n3⟩ := prow_next hne hb3 HB.out hG2 hat2
    exact ⟨1 + 1, g', cap', rfl, by decide, rfl, n1, hg2, n2, Lib.hid (by have h := hO2; rw [List.append_assoc] at h; exact h), Lib.hid n3, hw.trans ((((Below.refl w.heap.size wr).alloc hw.size _).alloc (by have := hw.size; simp; omega) _).trans hB2)⟩
   case measure => simp [intOf]
  ·have e0 : wr.cell? ⟨b3, 35, none⟩ = some (.string ⟨#[62]⟩) := by rw [cell_of_row _ _ _ _ _ _ HB.out]; rfl
   have e1 : wr.cell? ⟨b3, 35 + 1, none⟩ = some (.int .i64 2) := by rw [cell_of_row _ _ _ _ _ _ HB.out]; rfl
   have e2 : wr.cell? ⟨b3, 35 + 2, none⟩ = some (.int .i64 2) := by rw [cell_of_row _ _ _ _ _ _ HB.out]; rfl
   have e3 : wr.cell? ⟨b3, 35 + 3, none⟩ = some (.string ⟨(tst charW).toArray⟩) := by rw [cell_of_row _ _ _ _ _ _ HB.out]; rfl
   have e4 : wr.cell? ⟨b3, 35 + 4, none⟩ = some (.slice none 0 0) := by rw [cell_of_row _ _ _ _ _ _ HB.out]; rfl
   go_wp2_with (at_builtin; refine app_pr (own_below HO.out (((Below.refl _ _).alloc (Nat.le_refl _) _).alloc (by simp) _)) rfl _ _ rfl ⟨wr.heap.size + 1, 0, none⟩ 1 1 (prC [62] 2 2 (tst charW) nilS) rfl rfl rfl (news_blk (heap_alloc2_new _ _ _)) (prC_one _ _ _ _) (by decide) (by decide) (by have := hw.size; simp; omega) ?_; intro g' cap' V hO2 hG2 hat2 hg2 hB2)
   go_roundw
   case rel =>
    obtain ⟨n1, n2, n3⟩ := prow_next hne hb3 HB.out hG2 hat2
    exact ⟨2 + 1, g', cap', rfl, by decide, rfl, n1, hg2, n2, Lib.hid (by have h := hO2; rw [List.append_assoc] at h; exact h), Lib.hid n3, hw.trans ((((Below.refl w.heap.size wr).alloc hw.size _).alloc (by have := hw.size; simp; omega) _).trans hB2)⟩
   case measure => simp [intOf]
  ·have e0 : wr.cell? ⟨b3, 40, none⟩ = some (.string ⟨#[62, 61]⟩) := by rw [cell_of_row _ _ _ _ _ _ HB.out]; rfl
   have e1 : wr.cell? ⟨b3, 40 + 1, none⟩ = some (.int .i64 2) := by rw [cell_of_row _ _ _ _ _ _ HB.out]; rfl
   have e2 : wr.cell? ⟨b3, 40 + 2, none⟩ = some (.int .i64 2) := by rw [cell_of_row _ _ _ _ _ _ HB.out]; rfl
   have e3 : wr.cell? ⟨b3, 40 + 3, none⟩ = some (.string ⟨(tst charW).toArray⟩) := by rw [cell_of_row _ _ _ _ _ _ HB.out]; rfl
   have e4 : wr.cell? ⟨b3, 40 + 4, none⟩ = some (.slice none 0 0) := by rw [cell_of_row _ _ _ _ _ _ HB.out]; rfl
   go_wp2_with (at_builtin; refine app_pr (own_below HO.out (((Below.refl _ _).alloc (Nat.le_refl _) _).alloc (by simp) _)) rfl _ _ rfl ⟨wr.heap.size + 1, 0, none⟩ 1 1 (prC [62, 61] 2 2 (tst charW) nilS) rfl rfl rfl (news_blk (heap_alloc2_new _ _ _)) (prC_one _ _ _ _) (by decide) (by decide) (by have := hw.size; simp; omega) ?_; intro g' cap' V hO2 hG2 hat2 hg2 hB2)
   go_roundw
   case rel =>
    obtain ⟨n1, n2, n3⟩ := prow_next hne hb3 HB.out hG2 hat2
    exact ⟨3 + 1, g', cap', rfl, by decide, rfl, n1, hg2, n2, Lib.hid (by have h := hO2; rw [List.append_assoc] at h; exact h), Lib.hid n3, hw.trans ((((Below.refl w.heap.size wr).alloc hw.size _).alloc (by have := hw.size; simp; omega) _).trans hB2)⟩
   case measure => simp [intOf]
  ·have HO4 := Lib.hid HO.out
   go_wp2_with (go_at_call 90; (with_reducible refine (C4.out _ _ _ _).mono ?_); rintro e w4 ⟨b4, rfl, hb4, hl4, hk4, hw4⟩; have H4 := Lib.hid hk4; have hz5 := hw.trans (hw4.mono hw.size); have HO5 := Lib.hid (own_below HO4.out hw4); clear hk4)
   obtain ⟨X1, hX1⟩ : ∃ X, X0 ++ (recTests 2 charW).take (5 * 4) = X := ⟨_, rfl⟩
   rw [hX1] at HO5
   have HX1 := Lib.hid hX1
   clear hX1 HO4
   go_loopw [1, 26] (fun vl vi wr => ∃ (k g cap : Nat), vi = .int .i64 k ∧ k ≤ 4 ∧ vl = .slice (some ⟨g, 0, none⟩) (22 + k) cap ∧ g ≠ b4 ∧ g < wr.heap.size ∧ b4 < wr.heap.size ∧ Hid (wr.ownsRow w.heap.size 77 5 vl (22 + k) (X1 ++ (recTests 3 strW).take (5 * k))) ∧ Hid (wr.heap[b4]? = some (.cells (recC 3 strW nilS).toArray 77 (0, 0))) ∧ Below w.heap.size w wr) (fun _ vi _ => 4 - (intOf vi).toNat)
   case atStart => exact ⟨0, g, cap, rfl, by decide, rfl, by omega, by have := hw4.size; omega, hl4, Lib.hid (by rw [List.take_zero, List.append_nil]; exact HO5.out), Lib.hid H4.out, hz5⟩
   case round =>
    obtain ⟨k, g, cap, rfl, hk, rfl, hne, hg, hb4, HO, HB, hw⟩ := hrel
    rcases (by omega : k = 0 ∨ k = 1 ∨ k = 2 ∨ k = 3 ∨ k = 4) with rfl | rfl | rfl | rfl | rfl
    ·have e0 : wr.cell? ⟨b4, 25, none⟩ = some (.string ⟨#[60]⟩) := by rw [cell_of_row _ _ _ _ _ _ HB.out]; rfl
     have e1 : wr.cell? ⟨b4, 25 + 1, none⟩ = some (.int .i64 3) := by rw [cell_of_row _ _ _ _ _ _ HB.out]; rfl
     have e2 : wr.cell? ⟨b4, 25 + 2, none⟩ = some (.int .i64 2) := by rw [cell_of_row _ _ _ _ _ _ HB.out]; rfl
     have e3 : wr.cell? ⟨b4, 25 + 3, none⟩ = some (.string ⟨(tst strW).toArray⟩) := by rw [cell_of_row _ _ _ _ _ _ HB.out]; rfl
     have e4 : wr.cell? ⟨b4, 25 + 4, none⟩ = some (.slice none 0 0) := by rw [cell_of_row _ _ _ _ _ _ HB.out]; rfl
     go_wp2_with (at_builtin; refine app_pr (own_below HO.out (((Below.refl _ _).alloc (Nat.le_refl _) _).alloc (by simp) _)) rfl _ _ rfl ⟨wr.heap.size + 1, 0, none⟩ 1 1 (prC [60] 3 2 (tst strW) nilS) rfl rfl rfl (news_blk (heap_alloc2_new _ _ _)) (prC_one _ _ _ _) (by decide) (by decide) (by have := hw.size; simp; omega) ?_; intro g' cap' V hO2 hG2 hat2 hg2 hB2)
     go_roundw
     case rel =>
      obtain ⟨n1, n2, n3⟩ := prow_next hne hb4 HB.out hG2 hat2
      exact ⟨0 + 1, g', cap', rfl, by decide, rfl, n1, hg2, n2, Lib.hid (by have h := hO2; rw [List.append_assoc] at h; exact h), Lib.hid n3, hw.trans ((((Below.refl w.heap.size wr).alloc hw.size _).alloc (by have := hw.size; simp; omega) _).trans hB2)⟩
     case measure => simp [intOf]
    ·have e0 : wr.cell? ⟨b4, 30, none⟩ = some (.string ⟨#[60, 61]⟩) := by rw [cell_of_row _ _ _ _ _ _ HB.out]; rfl
     have e1 : wr.cell? ⟨b4, 30 + 1, none⟩ = some (.int .i64 3) := by rw [cell_of_row _ _ _ _ _ _ HB.out]; rfl
     have e2 : wr.cell? ⟨b4, 30 + 2, none⟩ = some (.int .i64 2) := by rw [cell_of_row _ _ _ _ _ _ HB.out]; rfl
     have e3 : wr.cell? ⟨b4, 30 + 3, none⟩ = some (.string ⟨(tst strW).toArray⟩) := by rw [cell_of_row _ _ _ _ _ _ HB.out]; rfl
     have e4 : wr.cell? ⟨b4, 30 + 4, none⟩ = some (.slice none 0 0) := by rw [cell_of_row _ _ _ _ _ _ HB.out]; rfl
     go_wp2_with (at_builtin; refine app_pr (own_below HO.out (((Below.refl _ _).alloc (Nat.le_refl _) _).alloc (by simp) _)) rfl _ _ rfl ⟨wr.heap.size + 1, 0, none⟩ 1 1 (prC [60, 61] 3 2 (tst strW) nilS) rfl rfl rfl (news_blk (heap_alloc2_new _ _ _)) (prC_one _ _ _ _) (by decide) (by decide) (by have := hw.size; simp; omega) ?_; intro g' cap' V hO2 hG2 hat2 hg2 hB2)
     go_roundw
     case rel =>
      obtain ⟨n1, n2, n3⟩ := prow_next hne hb4 HB.out hG2 hat2
      exact ⟨1 + 1, g', cap', rfl, by decide, rfl, n1, hg2, n2, Lib.hid (by have h := hO2; rw [List.append_assoc] at h; exact h), Lib.hid n3, hw.trans ((((Below.refl w.heap.size wr).alloc hw.size _).alloc (by have := hw.size; simp; omega) _).trans hB2)⟩
     case measure => simp [intOf]
    ·have e0 : wr.cell? ⟨b4, 35, none⟩ = some (.string ⟨#[62]⟩) := by rw [cell_of_row _ _ _ _ _ _ HB.out]; rfl
     have e1 : wr.cell? ⟨b4, 35 + 1, none⟩ = some (.int .i64 3) := by rw [cell_of_row _ _ _ _ _ _ HB.out]; rfl
     have e2 : wr.cell? ⟨b4, 35 + 2, none⟩ = some (.int .i64 2) := by rw [cell_of_row _ _ _ _ _ _ HB.out]; rfl
     have e3 : wr.cell? ⟨b4, 35 + 3, none⟩ = some (.string ⟨(tst strW).toArray⟩) := by rw [cell_of_row _ _ _ _ _ _ HB.out]; rfl
     have e4 : wr.cell? ⟨b4, 35 + 4, none⟩ = some (.slice none 0 0) := by rw [cell_of_row _ _ _ _ _ _ HB.out]; rfl
     go_wp2_with (at_builtin; refine app_pr (own_below HO.out (((Below.refl _ _).alloc (Nat.le_refl _) _).alloc (by simp) _)) rfl _ _ rfl ⟨wr.heap.size + 1, 0, none⟩ 1 1 (prC [62] 3 2 (tst strW) nilS) rfl rfl rfl (news_blk (heap_alloc2_new _ _ _)) (prC_one _ _ _ _) (by decide) (by decide) (by have := hw.size; simp; omega) ?_; intro g' cap' V hO2 hG2 hat2 hg2 hB2)
     go_roundw
     case rel =>
      obtain ⟨n1, n2, n3⟩ := prow_next hne hb4 HB.out hG2 hat2
      exact ⟨2 + 1, g', cap', rfl, by decide, rfl, n1, hg2, n2, Lib.hid (by have h := hO2; rw [List.append_assoc] at h; exact h), Lib.hid n3, hw.trans ((((Below.refl w.heap.size wr).alloc hw.size _).alloc (by have := hw.size; simp; omega) _).trans hB2)⟩
     case measure => simp [intOf]
    ·have e0 : wr.cell? ⟨b4, 40, none⟩ = some (.string ⟨#[62, 61]⟩) := by rw [cell_of_row _ _ _ _ _ _ HB.out]; rfl
     have e1 : wr.cell? ⟨b4, 40 + 1, none⟩ = some (.int .i64 3) := by rw [cell_of_row _ _ _ _ _ _ HB.out]; rfl
     have e2 : wr.cell? ⟨b4, 40 + 2, none⟩ = some (.int .i64 2) := by rw [cell_of_row _ _ _ _ _ _ HB.out]; rfl
     have e3 : wr.cell? ⟨b4, 40 + 3, none⟩ = some (.string ⟨(tst strW).toArray⟩) := by rw [cell_of_row _ _ _ _ _ _ HB.out]; rfl
     have e4 : wr.cell? ⟨b4, 40 + 4, none⟩ = some (.slice none 0 0) := by rw [cell_of_row _ _ _ _ _ _ HB.out]; rfl
     go_wp2_with (at_builtin; refine app_pr (own_below HO.out (((Below.refl _ _).alloc (Nat.le_refl _) _).alloc (by simp) _)) rfl _ _ rfl ⟨wr.heap.size + 1, 0, none⟩ 1 1 (prC [62, 61] 3 2 (tst strW) nilS) rfl rfl rfl (news_blk (heap_alloc2_new _ _ _)) (prC_one _ _ _ _) (by decide) (by decide) (by have := hw.size; simp; omega) ?_; intro g' cap' V hO2 hG2 hat2 hg2 hB2)
     go_roundw
     case rel =>
      obtain ⟨n1, n2, n3⟩ := prow_next hne hb4 HB.out hG2 hat2
      exact ⟨3 + 1, g', cap', rfl, by decide, rfl, n1, hg2, n2, Lib.hid (by have h := hO2; rw [List.append_assoc] at h; exact h), Lib.hid n3, hw.trans ((((Below.refl w.heap.size wr).alloc hw.size _).alloc (by have := hw.size; simp; omega) _).trans hB2)⟩
     case measure => simp [intOf]
    ·have HO6 := Lib.hid HO.out
     have hsz := hw.size
     clear C1 C2 C3 C4 H1 H2 H3 H4 hw1 hw2 hw3 hw4 hz1 hz2 hz3 hz4 hz5 hb1 hb2 hb3 hb4 hl1 hl2 hl3 hl4 HO HB HO1 HO3 HO5 hne hg
     go_wp2_with fail
     obtain ⟨i0, hi, hz0, hz1, hz2⟩ := info_parts infoPrim
     refine wp_rows 74 77 35 5 _ i0 _ (vs35 wr.heap.size) rfl Tryz.underlying74 hi hz0 hz1 (by first | (simp [vs35, Act.eval]; done) | (simp [vs35, Act.eval, go_sem]; done) | (simp [vs35]; rfl)) rfl (vs35_size _) (by decide) (by decide) ?_
     clear hi hz0 hz1 hz2
     rw [vs35_cells]
     go_at_K
     go_wp2_with (at_builtin; refine app_pr (own_below HO6.out ?hbel) rfl _ _ rfl ⟨_, 0, none⟩ 35 35 (last35 wr.heap.size) rfl rfl rfl (news_blk (heap_alloc_new _ _)) (last35_one _) (by decide) (by decide) (by simp; omega) ?_; (case hbel => (repeat (first | exact Below.refl _ _ | refine Below.alloc ?_ (by first | omega | (simp; omega) | simp) _))); intro g' cap' V hO2 hG2 hat2 hg2 hB2)
     go_ret
     exact ⟨g', cap', _, rfl, hO2, by rw [← HX1.out, ← HX0.out]; exact ok_all _ _, (hw.trans (by repeat (first | exact Below.refl _ _ | refine Below.alloc ?_ (by first | omega | (simp; omega) | simp) _))).trans hB2⟩
end Go.Proofs.YtokjkligechcoaaGreatDoor
