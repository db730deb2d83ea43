/- Arguments opened: a slice of whatever elements, cell by cell; a struct, field by field; with the bulk of each. For any program. -/
import Derived.Deep.Slices
import Derived.Deep.Fields
import Derived.ChangeSame
import Derived.ChangeArms
import Derived.WideShapes
import Derived.LaidLaws
import Derived.DataShut
import Derived.Test.YtokjkligechcoaaGreatDoorIm
import Derived.OpenShut
set_option linter.unusedVariables false
namespace Go.Proofs.YtokjkligechcoaaGreatDoor.Opn
open Go.ChangeShapes Go.WideShapes Go.Deep
variable {H : Type} {enc : TypeId × Value → H} {P : Program} {w : World} {base : Nat} {spare : Nat → Bool} {held : Bool}
theorem mem_all {e : TypeId} {l : List (DataW H)} {d : DataW H} (h : d ∈ l) {z : Nat} (hz : z ∈ DataW.weights P e d) : z ∈ DataW.weightsAll P e l := by
 induction l with
 | nil => cases h
 | cons x r ih =>
  unfold DataW.weightsAll
  rcases List.mem_cons.1 h with rfl | h
  ·exact List.mem_append_left _ hz
  ·exact List.mem_append_right _ (ih h)
theorem mem_each {ts : List TypeId} {l : List (DataW H)} {i : Nat} {t : TypeId} {d : DataW H} (ht : ts[i]? = some t) (h : l[i]? = some d) {z : Nat} (hz : z ∈ DataW.weights P t d) : z ∈ DataW.weightsEach P ts l := by
 induction ts generalizing l i with
 | nil => cases ht
 | cons t0 ts ih =>
  cases l with
  | nil => cases h
  | cons x r =>
   unfold DataW.weightsEach
   cases i with
   | zero => cases ht; cases h; exact List.mem_append_left _ hz
   | succ i => exact List.mem_append_right _ (ih ht h)
/-- A slice's elements, cell by cell. -/
theorem open_sl {t e : TypeId} {C fuel : Nat} {cs : List Value} {x : DataW H × List MemPlace} (ht : P.underlying t = some (.slice e)) (hC : P.cellsOf e = C) (hC0 : 0 < C)
  (h : DataW.trod enc P w base spare held fuel t cs = some x) (hw : ∀ y ∈ DataW.weights P t x.1, y ≤ reachBytes) :
  ∃ (a : Option Addr) (len cap : Nat), cs = [.slice a len cap] ∧ len ≤ cap ∧ cap ≤ maxLen ∧ len * P.bytesOf e ≤ reachBytes ∧
   (len = 0 ∨ ∃ b off, a = some ⟨b, off, none⟩ ∧ b < w.heap.size ∧ ∀ i, i < len → ∃ (cs' : List Value) (y : DataW H × List MemPlace) (n : Nat), cs'.length = C ∧ (∀ j, j < C → w.cell? ⟨b, off + (i * C + j), none⟩ = cs'[j]?) ∧
    DataW.trod enc P w base spare held n e cs' = some y ∧ ∀ z ∈ DataW.weights P e y.1, z ≤ reachBytes) := by
 rcases open_slice ht h with ⟨rfl, rfl⟩ | ⟨a, len, cap, m, n, D, Pl, rfl, hb, hl, hm, hmm, rfl, hi⟩
 ·exact ⟨none, 0, 0, rfl, Nat.le_refl _, Nat.zero_le _, by omega, .inl rfl⟩
 ·have hmm' : len ≤ m := by rw [hmm]; split <;> omega
  have hwt : ∀ y, y ∈ ((((List.range len).map D).length + ((List.range (m - len)).map fun j => D (len + j)).length) * P.bytesOf e :: (DataW.weightsAll P e ((List.range len).map D) ++ DataW.weightsAll P e ((List.range (m - len)).map fun j => D (len + j)))) → y ≤ reachBytes := by
   intro y hy
   apply hw
   unfold DataW.weights
   rw [ht]; exact hy
  refine ⟨some a, len, cap, rfl, hl, hm, ?_, ?_⟩
  ·have h1 := hwt _ List.mem_cons_self
   simp only [List.length_map, List.length_range] at h1
   rw [show len + (m - len) = m by omega] at h1
   exact Nat.le_trans (Nat.mul_le_mul_right _ hmm') h1
  ·by_cases h0 : len = 0
   ·exact .inl h0
   ·right
    obtain ⟨b, off, spot⟩ := a
    have key : ∀ i, i < len → ∃ (cs' : List Value), cs'.length = C ∧ (∀ j, j < C → w.cell? ((⟨b, off, spot⟩ : Addr).add (i * C + j)) = cs'[j]?) ∧ DataW.trod enc P w base spare held n e cs' = some (D i, Pl i) := by
     intro i hil
     obtain ⟨cs', hc, ht'⟩ := hi i (by omega)
     rw [hC] at hc
     obtain ⟨_, hcl, hat⟩ := World.cells?_some hc
     refine ⟨cs', hcl, fun j hj => ?_, ht'⟩
     rw [← hat j hj, add_add]
    obtain ⟨cs0, hl0, hc0, _⟩ := key 0 (by omega)
    have hc00 := hc0 0 hC0
    rw [List.getElem?_eq_getElem (by omega)] at hc00
    have hs : spot = none := by simpa [Addr.add] using World.cell?_spot hc00
    subst hs
    have hblt : b < w.heap.size := World.block_lt_of_cell? w (⟨b, off, none⟩ : Addr) (by simpa [Addr.add] using hc00)
    refine ⟨b, off, rfl, hblt, fun i hil => ?_⟩
    obtain ⟨cs', h1, h2, h3⟩ := key i hil
    refine ⟨cs', _, n, h1, fun j hj => ?_, h3, fun z hz => hwt z (List.mem_cons_of_mem _ (List.mem_append_left _ (mem_all (List.mem_map.2 ⟨i, List.mem_range.2 hil, rfl⟩) hz)))⟩
    rw [← h2 j hj]
    unfold Addr.add
    split
    next g => rw [g]; rfl
    next => rfl
/-- A struct's fields, one by one. -/
theorem open_st {t : TypeId} {fs : Array Field} {fuel : Nat} {cs : List Value} {x : DataW H × List MemPlace} (ht : P.underlying t = some (.struct fs))
  (h : DataW.trod enc P w base spare held fuel t cs = some x) (hw : ∀ y ∈ DataW.weights P t x.1, y ≤ reachBytes) :
  cs.length = P.cellsOf t ∧ ∀ (i : Nat) (f : Field), fs[i]? = some f → ∃ (y : DataW H × List MemPlace) (n : Nat), DataW.trod enc P w base spare held n f.type ((cs.drop f.offset).take (P.cellsOf f.type)) = some y ∧ ∀ z ∈ DataW.weights P f.type y.1, z ≤ reachBytes := by
 obtain ⟨xs, n, rfl, rfl, hlen, hxs, hf⟩ := DataW.trod_struct ht h
 refine ⟨hlen, fun i f hi => ?_⟩
 have hilt : i < fs.size := (Array.getElem?_eq_some_iff.1 hi).1
 have h1 := hf i f hi
 rw [List.getElem?_eq_getElem (by omega)] at h1
 refine ⟨_, n, h1, fun z hz => hw z ?_⟩
 unfold DataW.weights
 rw [ht]
 refine mem_each (i := i) (t := f.type) ?_ (d := (xs[i]'(by omega)).1) ?_ hz
 ·have hi' : fs.toList[i]? = some f := by simpa using hi
  rw [List.getElem?_map, hi']; rfl
 ·rw [List.getElem?_map, List.getElem?_eq_getElem (by omega)]; rfl
theorem open_str {t : TypeId} {fuel : Nat} {cs : List Value} {x : DataW H × List MemPlace} (ht : P.underlying t = some .string)
  (h : DataW.trod enc P w base spare held fuel t cs = some x) (hw : ∀ y ∈ DataW.weights P t x.1, y ≤ reachBytes) : ∃ l : List UInt8, cs = [.string ⟨l.toArray⟩] ∧ l.length ≤ 140737488351232 := by
 obtain ⟨s, rfl, rfl, _⟩ := DataW.trod_string ht h
 refine ⟨s.data.toList, by simp, ?_⟩
 have := hw _ (by unfold DataW.weights; exact List.mem_singleton.2 rfl)
 exact this
theorem open_in {t : TypeId} {k : IntKind} {fuel : Nat} {cs : List Value} {x : DataW H × List MemPlace} (ht : P.underlying t = some (.int k))
  (h : DataW.trod enc P w base spare held fuel t cs = some x) : ∃ n : Int, cs = [.int k n] ∧ k.min ≤ n ∧ n ≤ k.max := by
 obtain ⟨n, rfl, _, hwf⟩ := DataW.trod_int ht h
 exact ⟨n, rfl, (Lit.wf_int_iff k n).1 hwf⟩
end Go.Proofs.YtokjkligechcoaaGreatDoor.Opn
/- Walks of layer 16: the reader of bytes at a small program's bytes. -/
namespace Go.Proofs.YtokjkligechcoaaGreatDoor
open Go.RowKit
attribute [local go_sem] ext_mk size_mk toList_mk get_mk take_drop_len take_tail_len ByteArray.mk_append_mk List.append_toArray
/-- one box is o; all other blocks are as they were -/
structure BxAt (w W : World) (p : Nat) (o : Obj) : Prop where
 k : KAt W p o
 be : Below p w W
 kp : ∀ j, j < w.heap.size → j ≠ p → W.heap[j]? = w.heap[j]?
theorem BxAt.start {w : World} {p : Nat} {o : Obj} (h : KAt w p o) : BxAt w w p o := ⟨h, Below.refl _ _, fun _ _ _ => rfl⟩
theorem BxAt.trans {a b c : World} {p : Nat} {o o' : Obj} (h : BxAt a b p o) (k : BxAt b c p o') : BxAt a c p o' :=
 ⟨k.k, h.be.trans k.be, fun j hj hn => (k.kp j (Nat.lt_of_lt_of_le hj h.be.size) hn).trans (h.kp j hj hn)⟩
theorem BxAt.set {w W : World} {p i : Nat} {cs : Array Value} {T : TypeId} (h : BxAt w W p (.cells cs T (0, 0))) (v : Value) : BxAt w (W.setCell ⟨p, i, none⟩ v) p (.cells (cs.setIfInBounds i v) T (0, 0)) :=
 ⟨⟨heap_setCell_same (i := i) _ _ _ _ v h.k.x⟩, h.be.setCell (p := ⟨p, i, none⟩) (Nat.le_refl _) _, fun j hj hn => (Below.heap_setCell _ _ _ _ hn).trans (h.kp j hj hn)⟩
theorem BxAt.below {w W V : World} {p : Nat} {o : Obj} (h : BxAt w W p o) (hb : Below W.heap.size W V) : BxAt w V p o :=
 ⟨h.k.below hb, h.be.trans (hb.mono (Nat.le_of_lt (heap_lt h.k.x))), fun j hj hn => (hb.block j (Nat.lt_of_lt_of_le hj h.be.size)).trans (h.kp j hj hn)⟩
theorem BxAt.alloc {w W : World} {p : Nat} {o : Obj} (h : BxAt w W p o) (q : Obj) : BxAt w (W.alloc q) p o := h.below ((Below.refl _ _).alloc (Nat.le_refl _) _)
theorem BxAt.drew {w W : World} {p : Nat} {o : Obj} (h : BxAt w W p o) : BxAt w W.drew p o := h.below ((Below.refl _ _).drew)
theorem BxAt.put {w W : World} {p : Nat} {o : Obj} (h : BxAt w W p o) (hp : p < w.heap.size) (a : Addr) (h1 : w.heap.size ≤ a.block) (h2 : a.block ≠ p) (v : Value) : BxAt w (W.setCell a v) p o :=
 ⟨h.k.put a (fun e => h2 e.symm) v, h.be.trans ⟨rfl, rfl, rfl, by simp [World.setCell], fun k hk => Below.heap_setCell _ _ _ _ (by omega)⟩, fun j hj hn => (Below.heap_setCell _ _ _ _ (by omega)).trans (h.kp j hj hn)⟩
theorem BxAt.cell {w W : World} {p : Nat} {o : Obj} (h : BxAt w W p o) {a : Addr} (ha : a.block < w.heap.size) (hn : a.block ≠ p) : W.cell? a = w.cell? a := World.cell?_of_block (h.kp _ ha hn)
theorem BxAt.blk {w W : World} {p m : Nat} {o q : Obj} (h : BxAt w W p o) (hm : KAt w m q) (hn : m ≠ p) : KAt W m q := ⟨(h.kp m (heap_lt hm.x) hn).trans hm.x⟩
/-- the reader's box -/
def dBlk (g cap at' : Nat) : Obj := .cells #[.slice (some ⟨g, 0, none⟩) 19 cap, .int .i64 at', .bool false] 108 (0, 0)
theorem KAt.dcells {W : World} {p g cap i : Nat} (h : KAt W p (dBlk g cap i)) : W.cell? ⟨p, 0, none⟩ = some (.slice (some ⟨g, 0, none⟩) 19 cap) ∧ W.cell? ⟨p, 1, none⟩ = some (.int .i64 i) ∧ W.cell? ⟨p, 2, none⟩ = some (.bool false) ∧ W.frozen? ⟨p, 1, none⟩ = false ∧ W.frozen? ⟨p, 2, none⟩ = false := by
 refine ⟨?_, ?_, ?_, frozen_of_row _ _ _ _ _ h.x, frozen_of_row _ _ _ _ _ h.x⟩
 all_goals (rw [cell_of_row _ _ _ _ _ _ h.x]; rfl)
/-- the bytes lie -/
structure SAt (w : World) (g : Nat) (p : Nat) : Prop where
 l : g < w.heap.size
 n : g ≠ p
 c : ∀ i, i < 19 → w.cell? ⟨g, i, none⟩ = some (.int .u8 ((encL.getD i 0).toNat : Int))
theorem SAt.bx {w W : World} {g p : Nat} {o : Obj} (h : SAt w g p) (k : BxAt w W p o) : SAt W g p :=
 ⟨Nat.lt_of_lt_of_le h.l k.be.size, h.n, fun i hi => (k.cell (a := ⟨g, i, none⟩) h.l h.n).trans (h.c i hi)⟩
theorem SAt.below {w W : World} {g p : Nat} (h : SAt w g p) (hb : Below w.heap.size w W) : SAt W g p :=
 ⟨Nat.lt_of_lt_of_le h.l hb.size, h.n, fun i hi => (hb.cell (p := ⟨g, i, none⟩) h.l).trans (h.c i hi)⟩
/-- behind calls of the reader: where it stands, the bytes, a block of the call's own -/
structure NAt (w W : World) (p g cap i m : Nat) (o : Obj) : Prop where
 b : BxAt w W p (dBlk g cap i)
 s : SAt W g p
 e : KAt W m o
 n : m ≠ p
theorem NAt.call {w W V : World} {p g cap i j m : Nat} {o : Obj} (h : NAt w W p g cap i m o) (k : BxAt W V p (dBlk g cap j)) : NAt w V p g cap j m o := ⟨h.b.trans k, h.s.bx k, k.blk h.e h.n, h.n⟩
theorem NAt.below {w W V : World} {p g cap i m : Nat} {o : Obj} (h : NAt w W p g cap i m o) (hb : Below W.heap.size W V) : NAt w V p g cap i m o := ⟨h.b.below hb, h.s.below hb, h.e.below hb, h.n⟩
end Go.Proofs.YtokjkligechcoaaGreatDoor
/- Walks of layer 24: the sections of a small image. -/
namespace Go.Proofs.YtokjkligechcoaaGreatDoor
open Go.RowKit
attribute [local go_sem] ext_mk size_mk toList_mk get_mk take_drop_len take_tail_len ByteArray.mk_append_mk List.append_toArray
/-- the box of what is left of the bytes -/
def rBlk (g off n c : Nat) : Obj := .cells #[.slice (some ⟨g, off, none⟩) n c] 40 (0, 0)
theorem KAt.rcells {W : World} {q g off n c : Nat} (h : KAt W q (rBlk g off n c)) : W.cell? ⟨q, 0, none⟩ = some (.slice (some ⟨g, off, none⟩) n c) ∧ W.frozen? ⟨q, 0, none⟩ = false :=
 ⟨by rw [cell_of_row _ _ _ _ _ _ h.x]; rfl, frozen_of_row _ _ _ _ _ h.x⟩
theorem mk1 (W : World) : (Instr.makeSlice 40 (.int .i64 1) (.int .i64 1)).run Tryz.prog W = .ok (.slice (some ⟨W.heap.size, 0, none⟩) 1 1) (W.alloc (.cells #[.int .u8 0] 5)) := by kernel_rfl
/-- the image's bytes lie -/
structure TAt (w : World) (g : Nat) : Prop where
 l : g < w.heap.size
 c : ∀ i, i < 35 → w.cell? ⟨g, i, none⟩ = some (.int .u8 ((imgL.getD i 0).toNat : Int))
theorem TAt.of {w : World} {g : Nat} (h : BysAt w (some ⟨g, 0, none⟩) imgL) : TAt w g := by
 rcases h.2 with q | ⟨b, off, q1, q2, q3⟩
 ·exact absurd q (by decide)
 ·cases q1; exact ⟨q2, fun i hi => by have := q3 i hi; rwa [Nat.zero_add] at this⟩
theorem TAt.below {w W : World} {g : Nat} (h : TAt w g) (hb : Below w.heap.size w W) : TAt W g :=
 ⟨Nat.lt_of_lt_of_le h.l hb.size, fun i hi => (hb.cell (p := ⟨g, i, none⟩) h.l).trans (h.c i hi)⟩
theorem TAt.bx {w W : World} {g p : Nat} {o : Obj} (h : TAt w g) (hn : g ≠ p) (k : BxAt w W p o) : TAt W g :=
 ⟨Nat.lt_of_lt_of_le h.l k.be.size, fun i hi => (k.cell (a := ⟨g, i, none⟩) h.l hn).trans (h.c i hi)⟩
theorem TAt.src {W : World} {g : Nat} (h : TAt W g) (off : Nat) (l : List UInt8) (hl : ∀ j, j < l.length → imgL.getD (off + j) 0 = l.getD j 0) (hn : off + l.length ≤ 35) : ∀ j v, (Lib.byteCells l)[j]? = some v → W.cell? ((⟨g, off, none⟩ : Addr).add j) = some v :=
 BysAt.news (fun i hi => by rw [h.c (off + i) (by omega), hl i hi])
end Go.Proofs.YtokjkligechcoaaGreatDoor
/- Walks of layer 24: what a small image's sections are. -/
namespace Go.Proofs.YtokjkligechcoaaGreatDoor
open Go.RowKit
attribute [local go_sem] ext_mk size_mk toList_mk get_mk take_drop_len take_tail_len ByteArray.mk_append_mk List.append_toArray
theorem results_cell2 {P : Program} {fn : Func} {p u : Tmp} {ty : TypeId} (h : fn.results = #[.cell p ty, .tmp u]) (tmps : Array Value) (w : World) (g : Nat) (t : TypeId) (cs : Array Value) (fr : Nat × Nat) (d : TypeDesc)
  (hp : tmps.getD p undef = .pointer (some ⟨g, 0, none⟩)) (hg : w.heap[g]? = some (.cells cs t fr))
  (hu : P.underlying ty = some d) (hd : (match d with | .struct _ | .array _ _ => true | _ => false) = true) (hi : (P.info? ty).map (·.size) = some cs.size) :
  (results fn tmps).run P w = .ok (.tuple #[.agg cs, tmps.getD u undef]) w := by
 have hp' : tmps[p]?.getD undef = .pointer (some ⟨g, 0, none⟩) := by simpa using hp
 simp [results, h, hp', asAddr, run_loadVar_row w g t ty cs fr d hg hu hd hi]
theorem conv_bys {W : World} {g off : Nat} {l : List UInt8} (cap : Nat) (h : ∀ j u, (Lib.byteCells l)[j]? = some u → W.cell? ((⟨g, off, none⟩ : Addr).add j) = some u) : Sem.run Tryz.prog (convert 40 9 (.slice (some ⟨g, off, none⟩) l.length cap)) W = .ok (.string ⟨l.toArray⟩) W :=
 run_convert_bytes_back _ 40 9 5 ⟨g, off, none⟩ cap l Tryz.underlying40 Tryz.underlying5 Tryz.underlying9 (fun j hj => h j _ (by simp [Lib.byteCells, hj]))
structure SW (WA W : World) (g : Nat) : Prop where
 be : Below WA.heap.size WA W
 T : TAt W g
theorem SW.all {WA W V : World} {g : Nat} (h : SW WA W g) (hb : Below W.heap.size W V) : V.cell? ⟨g, 31, none⟩ = some (.int .u8 205) ∧ V.cell? ⟨g, 32, none⟩ = some (.int .u8 98) ∧ V.cell? ⟨g, 33, none⟩ = some (.int .u8 103) ∧ V.cell? ⟨g, 34, none⟩ = some (.int .u8 42) ∧ SW WA V g :=
 have hT := h.T.below hb
 ⟨hT.c 31 (by decide), hT.c 32 (by decide), hT.c 33 (by decide), hT.c 34 (by decide), h.be.trans (hb.mono h.be.size), hT⟩
theorem BysAt.blk {W V : World} {s : Nat} {l : List UInt8} (h : BysAt W (some ⟨s, 0, none⟩) l) (e : s < W.heap.size → V.heap[s]? = W.heap[s]?) (hz : W.heap.size ≤ V.heap.size) : BysAt V (some ⟨s, 0, none⟩) l := by
 refine ⟨h.1, ?_⟩
 rcases h.2 with q | ⟨b, off, q1, q2, q3⟩
 ·exact .inl q
 ·cases q1
  exact .inr ⟨s, 0, rfl, Nat.lt_of_lt_of_le q2 hz, fun i hi => (World.cell?_of_block (a := ⟨s, 0 + i, none⟩) (e q2)).trans (q3 i hi)⟩
theorem BysAt.bx {W V : World} {s p : Nat} {l : List UInt8} {o : Obj} (h : BysAt W (some ⟨s, 0, none⟩) l) (hn : s ≠ p) (k : BxAt W V p o) : BysAt V (some ⟨s, 0, none⟩) l := h.blk (fun hl => k.kp s hl hn) k.be.size
theorem BysAt.put {W : World} {s : Nat} {l : List UInt8} (h : BysAt W (some ⟨s, 0, none⟩) l) {a : Addr} (hn : s ≠ a.block) (v : Value) : BysAt (W.setCell a v) (some ⟨s, 0, none⟩) l := h.blk (fun hl => Below.heap_setCell _ _ _ _ hn) (by simp [World.setCell])
end Go.Proofs.YtokjkligechcoaaGreatDoor
/- Walks of layer 16: a small program's bytes are that program. -/
namespace Go.Proofs.YtokjkligechcoaaGreatDoor
open Go.RowKit
attribute [local go_sem] ext_mk size_mk toList_mk get_mk take_drop_len take_tail_len ByteArray.mk_append_mk List.append_toArray
theorem infoInsn : (Tryz.prog.info? 58).map (fun i => (i.zero, i.size, i.bytes)) = some (some (.agg #[.int .i64 0, .int .i64 0, .int .i64 0, .int .i64 0, .slice none 0 0, .slice none 0 0]), 6, 80) := by kernel_rfl
theorem infoFunc : (Tryz.prog.info? 48).map (fun i => (i.zero, i.size, i.bytes)) = some (some (.agg #[.int .i64 0, .int .i64 0, .slice none 0 0]), 3, 40) := by kernel_rfl
def rzBlk : Obj := .cells #[.slice none 0 0, .slice none 0 0, .slice none 0 0, .int .i64 0] 26 (0, 0)
theorem KAt.zcells {W : World} {m : Nat} (h : KAt W m rzBlk) : W.cell? ⟨m, 0, none⟩ = some (.slice none 0 0) ∧ W.cell? ⟨m, 1, none⟩ = some (.slice none 0 0) ∧ W.cell? ⟨m, 2, none⟩ = some (.slice none 0 0) ∧ W.cell? ⟨m, 3, none⟩ = some (.int .i64 0) ∧ W.frozen? ⟨m, 0, none⟩ = false ∧ W.frozen? ⟨m, 1, none⟩ = false ∧ W.frozen? ⟨m, 2, none⟩ = false ∧ W.frozen? ⟨m, 3, none⟩ = false := by
 refine ⟨?_, ?_, ?_, ?_, frozen_of_row _ _ _ _ _ h.x, frozen_of_row _ _ _ _ _ h.x, frozen_of_row _ _ _ _ _ h.x, frozen_of_row _ _ _ _ _ h.x⟩
 all_goals (rw [cell_of_row _ _ _ _ _ _ h.x]; rfl)
theorem BxAt.low {w W V : World} {p B : Nat} {o : Obj} (h : BxAt w W p o) (hb : Below B W V) (hp : p < B) (h0 : w.heap.size ≤ B) : BxAt w V p o :=
 ⟨⟨by rw [hb.block _ hp]; exact h.k.x⟩, h.be.trans (hb.mono (Nat.le_of_lt hp)), fun j hj hn => (hb.block j (Nat.lt_of_lt_of_le hj h0)).trans (h.kp j hj hn)⟩
/-- behind Decode's head: the result's box, the reader, the bytes, the program's box -/
structure DAt (W0 W : World) (S p m g cap i : Nat) : Prop where
 b : BxAt W0 W p (dBlk g cap i)
 s : SAt W g p
 r : KAt W S rzBlk
 q : KAt W m rzBlk
 hm : W0.heap.size ≤ m
 hS : S < W0.heap.size
 hn : S ≠ p
 hp : p < W0.heap.size
 hg : g < W0.heap.size
theorem DAt.call {W0 W V : World} {S p m g cap i j : Nat} (h : DAt W0 W S p m g cap i) (k : BxAt W V p (dBlk g cap j)) : DAt W0 V S p m g cap j :=
 ⟨h.b.trans k, h.s.bx k, k.blk h.r h.hn, k.blk h.q (by have := h.hm; have := h.hp; omega), h.hm, h.hS, h.hn, h.hp, h.hg⟩
theorem DAt.low {W0 W V : World} {S p m g cap i B : Nat} (h : DAt W0 W S p m g cap i) (hb : Below B W V) (hB : m < B) : DAt W0 V S p m g cap i := by
 have h1 := h.hm
 have h2 := h.hS
 have h3 := h.hp
 have h4 := h.hg
 exact ⟨h.b.low hb (by omega) (by omega), ⟨Nat.lt_of_lt_of_le h.s.l hb.size, h.s.n, fun i hi => (hb.cell (p := ⟨g, i, none⟩) (by show g < B; omega)).trans (h.s.c i hi)⟩,
  ⟨by rw [hb.block _ (by omega)]; exact h.r.x⟩, ⟨by rw [hb.block _ hB]; exact h.q.x⟩, h.hm, h.hS, h.hn, h.hp, h.hg⟩
theorem DAt.below {W0 W V : World} {S p m g cap i : Nat} (h : DAt W0 W S p m g cap i) (hb : Below W.heap.size W V) : DAt W0 V S p m g cap i := h.low hb (heap_lt h.q.x)
theorem DAt.cells {W0 W : World} {S p m g cap i : Nat} (h : DAt W0 W S p m g cap i) : W.cell? ⟨p, 1, none⟩ = some (.int .i64 i) ∧ W.cell? ⟨p, 2, none⟩ = some (.bool false) := ⟨h.b.k.dcells.2.1, h.b.k.dcells.2.2.1⟩
/-- the function's box -/
def fnBlk (v : Value) : Obj := .cells #[.int .i64 0, .int .i64 1, v] 48 (0, 0)
theorem row_bx {W V : World} {p base n size : Nat} {e : TypeId} {v : Value} {xs : List Value} {o : Obj} (h : W.ownsRow base e size v n xs) (hp : p < base) (k : BxAt W V p o) : V.ownsRow base e size v n xs := by
 obtain ⟨hl, ⟨rfl, h0⟩ | ⟨g, cap, cur, rfl, hg, hcur, hn, hcap, hsz, htk⟩⟩ := h
 ·exact ⟨hl, .inl ⟨rfl, h0⟩⟩
 ·exact ⟨hl, .inr ⟨g, cap, cur, rfl, hg, by rw [k.kp g (heap_lt hcur) (by omega)]; exact hcur, hn, hcap, hsz, htk⟩⟩
/-- the function's box and its own row of instructions -/
structure CAt (W0 W : World) (S p m g cap i fb : Nat) (v : Value) (k : Nat) (xs : List Value) : Prop where
 d : DAt W0 W S p m g cap i
 f : KAt W fb (fnBlk v)
 o : W.ownsRow (fb + 1) 58 6 v k xs
 h : m < fb
theorem CAt.call {W0 W V : World} {S p m g cap i j fb k : Nat} {v : Value} {xs : List Value} (h : CAt W0 W S p m g cap i fb v k xs) (q : BxAt W V p (dBlk g cap j)) : CAt W0 V S p m g cap j fb v k xs := by
 have h1 := h.h
 have h2 := h.d.hm
 have h3 := h.d.hp
 exact ⟨h.d.call q, q.blk h.f (by omega), row_bx h.o (by omega) q, h.h⟩
theorem CAt.below {W0 W V : World} {S p m g cap i fb k : Nat} {v : Value} {xs : List Value} (h : CAt W0 W S p m g cap i fb v k xs) (hb : Below W.heap.size W V) : CAt W0 V S p m g cap i fb v k xs :=
 ⟨h.d.below hb, h.f.below hb, row_below h.o hb, h.h⟩
theorem p_set {W : World} {m : Nat} (h : KAt W m rzBlk) (a b c d : Value) :
  ((((W.setCell ⟨m, 0, none⟩ a).setCell ⟨m, 1, none⟩ b).setCell ⟨m, 2, none⟩ c).setCell ⟨m, 3, none⟩ d).heap[m]? = some (.cells #[a, b, c, d] 26 (0, 0)) :=
 heap_setCell_same (i := 3) _ _ _ _ _ (heap_setCell_same (i := 2) _ _ _ _ _ (heap_setCell_same (i := 1) _ _ _ _ _ (heap_setCell_same (i := 0) _ _ _ _ _ h.x)))
theorem P1At.put {W : World} {F C cc : Nat} (h : P1At W F C cc) (a : Addr) (hF : F ≠ a.block) (hC : C ≠ a.block) (v : Value) : P1At (W.setCell a v) F C cc := by
 have e : ∀ b i, b ≠ a.block → (W.setCell a v).cell? ⟨b, i, none⟩ = W.cell? ⟨b, i, none⟩ := fun b i hb => World.cell?_of_block (a := ⟨b, i, none⟩) (Below.heap_setCell _ _ _ _ hb)
 have z : (W.setCell a v).heap.size = W.heap.size := by simp [World.setCell]
 exact ⟨by rw [z]; exact h.fl, by rw [z]; exact h.cl, by rw [e _ _ hF]; exact h.f0, by rw [e _ _ hF]; exact h.f1, by rw [e _ _ hF]; exact h.f2, fun i hi => by rw [e _ _ hC]; exact h.c i hi⟩
end Go.Proofs.YtokjkligechcoaaGreatDoor
/- Walks of layer 24: a small image is unpacked; a small image and a sum that everybody knows. -/
namespace Go.Proofs.YtokjkligechcoaaGreatDoor
open Go.RowKit
attribute [local go_sem] ext_mk size_mk toList_mk get_mk take_drop_len take_tail_len ByteArray.mk_append_mk List.append_toArray
theorem BysAt.conv {W : World} {s : Nat} {l : List UInt8} (h : BysAt W (some ⟨s, 0, none⟩) l) (cap : Nat) : Sem.run Tryz.prog (convert 40 9 (.slice (some ⟨s, 0, none⟩) l.length cap)) W = .ok (.string ⟨l.toArray⟩) W := conv_bys cap h.new
theorem BysAt.keep {W V : World} {s : Nat} {l : List UInt8} (h : BysAt W (some ⟨s, 0, none⟩) l) (hb : Below W.heap.size W V) : BysAt V (some ⟨s, 0, none⟩) l := h.blk (fun hl => hb.block s hl) hb.size
end Go.Proofs.YtokjkligechcoaaGreatDoor
/- A row of bytes as an argument. -/
namespace Go.Proofs.YtokjkligechcoaaGreatDoor
open Go.RowKit
attribute [local go_sem] ext_mk size_mk toList_mk get_mk take_drop_len take_tail_len ByteArray.mk_append_mk List.append_toArray
end Go.Proofs.YtokjkligechcoaaGreatDoor
