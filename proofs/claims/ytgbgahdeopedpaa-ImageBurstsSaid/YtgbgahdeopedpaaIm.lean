/- Walks of layer 24: a number's bytes; the bytes of a small image. -/
import Derived.Test.YtgbgahdeopedpaaIy
import Derived.Deep.CutRange
import Derived.Deep.CutBlock
namespace Go.Proofs.Ytgbgahdeopedpaa
open Go.RowKit
set_option linter.unusedVariables false
attribute [local go_sem] ext_mk size_mk toList_mk get_mk take_drop_len take_tail_len ByteArray.mk_append_mk List.append_toArray

set_option maxRecDepth 8000 in
theorem length_small (c : UInt8) (hc : c.toNat < 128) (w : World) : Calls Try.prog 23 #[.int .i64 (c.toNat : Int)] w fun x w' => ∃ g cap, x = .returned (.slice (some ⟨g, 0, none⟩) 1 cap) ∧ 1 ≤ cap ∧ w.heap.size ≤ g ∧ BysAt w' (some ⟨g, 0, none⟩) [c] ∧ Below w.heap.size w w' := by
  have k0 : decide (128 ≤ (c.toNat : Int)) = false := decide_eq_false (by omega)
  have k1 : IntKind.u8.wrap (c.toNat : Int) = (c.toNat : Int) := IntWalk.u8_in _ (by omega)
  have hA : Below w.heap.size w (w.alloc (.cells #[.int .u8 (c.toNat : Int)] 5)) := (Below.refl _ _).alloc (Nat.le_refl _) _
  have HA := Lib.hid hA
  have HC := Lib.hid hc
  clear hA hc
  go_enter Try.func23, Try.ntmps23
  go_wp2_with fail
  go_loopw [0, 3] (fun vi v3 wr => vi = .int .i64 (c.toNat : Int) ∧ v3 = .slice none 0 0 ∧ wr = w) (fun _ _ _ => 0)
  case atStart => exact ⟨rfl, rfl, rfl⟩
  case round =>
    obtain ⟨rfl, rfl, rfl⟩ := hrel
    go_wp2_with (first | (at_builtin; refine app_keep rfl _ _ rfl wr.heap.size _ [] [c] _ ⟨wr.heap.size, 0, none⟩ rfl (OwnB.nil _ _) rfl (BysAt.news (l := [c]) (fun i hi => by obtain rfl : i = 0 := (by simp at hi; omega); simp)) (by simp) (by simp) (by simp) ?_; intro g cap V h1 h2 h3 h4 h5; have H1 := Lib.hid h1; have H2 := Lib.hid h2; have H4 := Lib.hid h4; clear h1 h2 h3 h4))
    go_ret
    refine ⟨g, cap, rfl, ?_, ?_, H1.out.bys, HA.out.trans H2.out⟩
    · rcases H1.out.2 with ⟨q, _⟩ | ⟨_, _, _, q, _, _, q4, _⟩
      · cases q
      · cases q; exact q4
    · rcases H4.out with q | q
      · exact nomatch (show (none : Option Nat) = some g from q)
      · rw [q]; simp

def encL : List UInt8 := [0, 0, 0, 1, 0, 1, 2, 1, 0, 0, 0, 0, 0, 13, 0, 0, 0, 0, 0]

theorem encode_bys (F C cf cc : Nat) (w : World) (hP : P1At w F C cc) :
    Calls Try.prog 22 #[.agg #[.slice (some ⟨F, 0, none⟩) 1 cf, .slice none 0 0, .slice none 0 0, .int .i64 0]] w fun x w' => ∃ g cap, x = .returned (.tuple #[.slice (some ⟨g, 0, none⟩) 19 cap, .int .i64 0]) ∧ BysAt w' (some ⟨g, 0, none⟩) encL ∧ Below w.heap.size w w' := by
  refine (encode_p1 F C cf cc w hP).mono ?_
  rintro x w' ⟨g, cap, rfl, h1, h2, h3, h4⟩
  refine ⟨g, cap, rfl, ⟨by decide, .inr ⟨g, 0, rfl, h2, fun i hi => ?_⟩⟩, h4⟩
  rw [Nat.zero_add, h3 i hi]
  congr 2
  exact (show ∀ i, i < 19 → ([0, 0, 0, 1, 0, 1, 2, 1, 0, 0, 0, 0, 0, 13, 0, 0, 0, 0, 0] : List Int).getD i 0 = ((encL.getD i 0).toNat : Int) from by decide) i hi

def iBlk (F cf : Nat) : Obj := .cells #[.string ⟨#[97]⟩, .string ⟨#[]⟩, .slice (some ⟨F, 0, none⟩) 1 cf, .slice none 0 0, .slice none 0 0, .int .i64 0] 33 (0, 0)

theorem KAt.icells {W : World} {m F cf : Nat} (h : KAt W m (iBlk F cf)) : W.cell? ⟨m, 0, none⟩ = some (.string ⟨#[97]⟩) ∧ W.cell? ⟨m, 1, none⟩ = some (.string ⟨#[]⟩) ∧ W.cell? ⟨m, 2, none⟩ = some (.slice (some ⟨F, 0, none⟩) 1 cf) ∧ W.cell? ⟨m, 3, none⟩ = some (.slice none 0 0) ∧ W.cell? ⟨m, 4, none⟩ = some (.slice none 0 0) ∧ W.cell? ⟨m, 5, none⟩ = some (.int .i64 0) := by
  refine ⟨?_, ?_, ?_, ?_, ?_, ?_⟩
  all_goals (rw [cell_of_row _ _ _ _ _ _ h.x]; rfl)

/-- the bytes behind each section -/
def pkL : Nat → List UInt8
  | 0 => [107, 105, 108, 110, 1]
  | 1 => [107, 105, 108, 110, 1] ++ [1] ++ [1] ++ [97]
  | 2 => [107, 105, 108, 110, 1] ++ [1] ++ [1] ++ [97] ++ [2] ++ [0] ++ []
  | _ => [107, 105, 108, 110, 1] ++ [1] ++ [1] ++ [97] ++ [2] ++ [0] ++ [] ++ [3] ++ [19] ++ encL

/-- what the sections' loop reads -/
structure L0 (w1 WA : World) (g cap : Nat) (W : World) : Prop where
  be : Below WA.heap.size WA W
  d : ∃ k1 k2, KAt W (WA.heap.size + 2) (.cells #[.slice (some ⟨WA.heap.size, 0, none⟩) 1 k1, .slice (some ⟨WA.heap.size + 1, 0, none⟩) 0 k2, .slice (some ⟨g, 0, none⟩) 19 cap] 22 (0, 0))
  t : W.cell? ⟨WA.heap.size, 0, none⟩ = some (.int .u8 97)
  l : WA.heap.size + 3 ≤ W.heap.size
  o : KAt WA w1.heap.size (.cells #[.int .u8 107, .int .u8 105, .int .u8 108, .int .u8 110, .int .u8 1] 5 (5, 6))
  g : BysAt WA (some ⟨g, 0, none⟩) encL

theorem L0.move {w1 WA W V : World} {g cap : Nat} (h : L0 w1 WA g cap W) (hb : Below (WA.heap.size + 3) W V) : L0 w1 WA g cap V := by
  obtain ⟨k1, k2, hk⟩ := h.d
  exact ⟨h.be.trans (hb.mono (by omega)), ⟨k1, k2, ⟨by rw [hb.block _ (by omega)]; exact hk.x⟩⟩, by rw [hb.cell (p := ⟨WA.heap.size, 0, none⟩) (by show WA.heap.size < _; omega)]; exact h.t, Nat.le_trans h.l hb.size, h.o, h.g⟩

theorem L0.below {w1 WA W V : World} {g cap : Nat} (h : L0 w1 WA g cap W) (hb : Below W.heap.size W V) : L0 w1 WA g cap V := h.move (hb.mono h.l)

theorem L0.alloc {w1 WA W : World} {g cap : Nat} (h : L0 w1 WA g cap W) (o : Obj) : L0 w1 WA g cap (W.alloc o) := h.below ((Below.refl _ _).alloc (Nat.le_refl _) _)

theorem L0.facts {w1 WA W : World} {g cap : Nat} (h : L0 w1 WA g cap W) : ∃ k1 k2, W.cell? ⟨WA.heap.size + 1 + 1, 0, none⟩ = some (.slice (some ⟨WA.heap.size, 0, none⟩) 1 k1) ∧ W.cell? ⟨WA.heap.size + 1 + 1, 1, none⟩ = some (.slice (some ⟨WA.heap.size + 1, 0, none⟩) 0 k2) ∧ W.cell? ⟨WA.heap.size + 1 + 1, 2, none⟩ = some (.slice (some ⟨g, 0, none⟩) 19 cap) ∧
    W.cell? ⟨WA.heap.size, 0, none⟩ = some (.int .u8 97) ∧ True ∧ True := by
  obtain ⟨k1, k2, hk⟩ := h.d
  refine ⟨k1, k2, ?_, ?_, ?_, h.t, trivial, trivial⟩
  all_goals (rw [cell_of_row _ _ _ _ _ _ hk.x]; rfl)

theorem addr_add (g j : Nat) : (⟨g, 0, none⟩ : Addr).add j = ⟨g, j, none⟩ := by
  unfold Addr.add
  by_cases h0 : j = 0
  · subst h0; rfl
  · rw [if_neg h0]; simp

theorem L0.hdr {w1 WA W : World} {g cap : Nat} (h : L0 w1 WA g cap W) : ∀ j u, (Lib.byteCells [107, 105, 108, 110, 1])[j]? = some u → W.cell? ((⟨w1.heap.size, 0, none⟩ : Addr).add j) = some u := by
  intro j u hu
  rw [addr_add, h.be.cell (p := ⟨w1.heap.size, j, none⟩) (heap_lt h.o.x)]
  have hj : j < 5 := by
    have := List.getElem?_eq_some_iff.1 hu
    obtain ⟨q, _⟩ := this
    simpa [Lib.byteCells] using q
  rw [cell_of_row _ _ _ _ _ _ h.o.x]
  match j, hj, hu with
  | 0, _, hu | 1, _, hu | 2, _, hu | 3, _, hu | 4, _, hu => exact hu

theorem pk_start {w1 WA : World} {g cap k1 k2 : Nat} {f1 : Nat × Nat} {o2 : Obj} (ho : KAt WA w1.heap.size (.cells #[.int .u8 107, .int .u8 105, .int .u8 108, .int .u8 110, .int .u8 1] 5 (5, 6))) (hg : BysAt WA (some ⟨g, 0, none⟩) encL) :
    L0 w1 WA g cap (((WA.alloc (.cells (bytesRow { data := #[97] } k1) 5 f1)).alloc o2).alloc (.cells #[.slice (some ⟨WA.heap.size, 0, none⟩) 1 k1, .slice (some ⟨WA.heap.size + 1, 0, none⟩) 0 k2, .slice (some ⟨g, 0, none⟩) 19 cap] 22)).drew.drew := by
  have z : ∀ (W : World) (o : Obj), (W.alloc o).heap.size = W.heap.size + 1 := fun W o => by simp
  have k := KAt.new ((WA.alloc (.cells (bytesRow { data := #[97] } k1) 5 f1)).alloc o2) (.cells #[.slice (some ⟨WA.heap.size, 0, none⟩) 1 k1, .slice (some ⟨WA.heap.size + 1, 0, none⟩) 0 k2, .slice (some ⟨g, 0, none⟩) 19 cap] 22 (0, 0))
  rw [z, z] at k
  have t : (WA.alloc (.cells (bytesRow { data := #[97] } k1) 5 f1)).cell? ⟨WA.heap.size, 0, none⟩ = some (.int .u8 97) := by
    rw [cell_of_row _ _ _ _ _ _ (heap_alloc_new WA _)]
    simp [bytesRow, Array.getElem?_append]
  refine ⟨(((((Below.refl _ _).alloc (Nat.le_refl _) _).alloc (by rw [z]; omega) _).alloc (by rw [z, z]; omega) _).drew).drew, ⟨k1, k2, k.drew.drew⟩, ?_, ?_, ho, hg⟩
  · have e : Below (WA.heap.size + 1) (WA.alloc (.cells (bytesRow { data := #[97] } k1) 5 f1)) (((WA.alloc (.cells (bytesRow { data := #[97] } k1) 5 f1)).alloc o2).alloc (.cells #[.slice (some ⟨WA.heap.size, 0, none⟩) 1 k1, .slice (some ⟨WA.heap.size + 1, 0, none⟩) 0 k2, .slice (some ⟨g, 0, none⟩) 19 cap] 22)).drew.drew :=
      ((((Below.refl _ _).alloc (by rw [z]; omega) _).alloc (by rw [z, z]; omega) _).drew).drew
    rw [e.cell (p := ⟨WA.heap.size, 0, none⟩) (Nat.lt_succ_self _)]; exact t
  · show _ ≤ (((WA.alloc (.cells (bytesRow { data := #[97] } k1) 5 f1)).alloc o2).alloc (.cells #[.slice (some ⟨WA.heap.size, 0, none⟩) 1 k1, .slice (some ⟨WA.heap.size + 1, 0, none⟩) 0 k2, .slice (some ⟨g, 0, none⟩) 19 cap] 22)).heap.size
    rw [z, z, z]; omega

theorem OwnB.keep {w w' : World} {base : Nat} {v : Value} {l : List UInt8} (h : OwnB w base v l) (hb : Below w.heap.size w w') : OwnB w' base v l := row_below h hb

theorem OwnB.cap {w : World} {base g c : Nat} {l : List UInt8} (h : OwnB w base (.slice (some ⟨g, 0, none⟩) l.length c) l) : l.length ≤ c ∧ base ≤ g := by
  rcases h.2 with ⟨q, _⟩ | ⟨_, _, _, q, q1, _, q4, _⟩
  · cases q
  · cases q; exact ⟨q4, q1⟩

theorem OwnB.some {w : World} {base : Nat} {v : Value} {l : List UInt8} (h : OwnB w base v l) (h0 : 0 < l.length) : ∃ g cap, v = .slice (some ⟨g, 0, none⟩) l.length cap := by
  obtain ⟨_, ⟨_, q⟩ | ⟨g, cap, cur, q, _⟩⟩ := h
  · omega
  · exact ⟨g, cap, q⟩

theorem sum31 : Im.sumL (pkL 3) = 711418573 := by decide +kernel

/-- the bytes of the small image -/
def imgL : List UInt8 := pkL 3 ++ [205, 98, 103, 42]

/-- one section's three appends: the number, the length, the bytes -/
structure PkS (w1 WA : World) (g cap : Nat) (W : World) (B : Nat) (v : Value) (l : List UInt8) : Prop where
  L : L0 w1 WA g cap W
  b1 : WA.heap.size + 3 ≤ B
  b2 : B ≤ W.heap.size
  o : OwnB W B v l

theorem PkS.below {w1 WA W V : World} {g cap B : Nat} {v : Value} {l : List UInt8} (h : PkS w1 WA g cap W B v l) (hb : Below W.heap.size W V) : PkS w1 WA g cap V B v l := ⟨h.L.below hb, h.b1, Nat.le_trans h.b2 hb.size, h.o.keep hb⟩

theorem PkS.step {w1 WA W V : World} {g cap B : Nat} {v u : Value} {l r : List UInt8} (h : PkS w1 WA g cap W B v l) (ho : OwnB V B u r) (hb : Below B W V) : PkS w1 WA g cap V B u r := ⟨h.L.move (hb.mono h.b1), h.b1, Nat.le_trans h.b2 hb.size, ho⟩

theorem t1 {w1 WA W : World} {g cap : Nat} (h : L0 w1 WA g cap W) : ∀ j u, (Lib.byteCells [97])[j]? = Option.some u → W.cell? ((⟨WA.heap.size, 0, none⟩ : Addr).add j) = Option.some u :=
  BysAt.news (l := [97]) (fun i hi => by obtain rfl : i = 0 := (by simp at hi; omega); exact h.t)

theorem one_news {W : World} {c : UInt8} {T : TypeId} : ∀ j u, (Lib.byteCells [c])[j]? = Option.some u → (W.alloc (.cells #[.int .u8 (c.toNat : Int)] T)).cell? ((⟨W.heap.size, 0, none⟩ : Addr).add j) = Option.some u :=
  BysAt.news (l := [c]) (fun i hi => by obtain rfl : i = 0 := (by simp at hi; omega); simp)

theorem four_news {W : World} {a b c d : UInt8} {T : TypeId} : ∀ j u, (Lib.byteCells [a, b, c, d])[j]? = Option.some u → (W.alloc (.cells #[.int .u8 (a.toNat : Int), .int .u8 (b.toNat : Int), .int .u8 (c.toNat : Int), .int .u8 (d.toNat : Int)] T)).cell? ((⟨W.heap.size, 0, none⟩ : Addr).add j) = Option.some u := by
  intro j u hu
  rw [addr_add, cell_of_row _ _ _ _ _ _ (heap_alloc_new W _)]
  rw [← hu]
  simp [Lib.byteCells]

theorem BysAt.new {W : World} {g : Nat} {l : List UInt8} (h : BysAt W (Option.some ⟨g, 0, none⟩) l) : ∀ j u, (Lib.byteCells l)[j]? = Option.some u → W.cell? ((⟨g, 0, none⟩ : Addr).add j) = Option.some u := by
  rcases h.2 with h | ⟨b, off, ha, hb, hc⟩
  · subst h; intro j u hu; simp [Lib.byteCells] at hu
  · cases ha; exact BysAt.news hc

set_option maxHeartbeats 4000000 in
set_option maxRecDepth 8000 in
theorem pack_p1 (F C cf cc : Nat) (w : World) (hP : P1At w F C cc) :
    Calls Try.prog 13 #[.agg #[.string ⟨#[97]⟩, .string ⟨#[]⟩, .slice (some ⟨F, 0, none⟩) 1 cf, .slice none 0 0, .slice none 0 0, .int .i64 0]] w fun x w' => ∃ g cap, x = .returned (.tuple #[.slice (some ⟨g, 0, none⟩) 35 cap, .int .i64 0]) ∧ 35 ≤ cap ∧ w.heap.size ≤ g ∧ BysAt w' (some ⟨g, 0, none⟩) imgL ∧ Below w.heap.size w w' := by
  have HP := Lib.hid hP
  have CE := Lib.hid (fun W h => encode_bys F C cf cc W h)
  have CL := Lib.hid (fun c hc W => length_small c hc W)
  have CS := Lib.hid (fun a l cap W h => sum_any a l cap W h)
  have hcc := fun (W : World) (C : Array Value) (n c : Nat) => Lib.run_convert_bytes_const (P := Try.prog) W 22 5 C n c Try.underlying22 Try.underlying5
  have hcs := fun (W : World) (s : ByteArray) => run_bytes_of_string (P := Try.prog) W 9 22 5 s Try.underlying9 Try.underlying22 Try.underlying5
  have hA : Below w.heap.size w (w.alloc (iBlk F cf)) := (Below.refl _ _).alloc (Nat.le_refl _) _
  have HA := Lib.hid hA
  clear hA hP
  go_enter Try.func13, Try.ntmps13
  go_upto_region 7 with (first
    | (go_at_call 22; refine (CE.out _ (HP.out.below HA.out)).mono ?_; rintro e w1 ⟨g, cap, rfl, hB, hb1⟩; have HB1 := Lib.hid (HA.out.trans (hb1.mono HA.out.size)); have X1 := Lib.hid ((KAt.new w (iBlk F cf)).below hb1); have HB := Lib.hid hB; clear hB hb1; obtain ⟨c0, c1, c2, c3, c4, c5⟩ := X1.out.icells))
  obtain ⟨WA, hWA⟩ : ∃ W, w1.alloc (.cells #[.int .u8 107, .int .u8 105, .int .u8 108, .int .u8 110, .int .u8 1] 5 (5, 6)) = W := ⟨_, rfl⟩
  have XA : KAt WA w.heap.size (iBlk F cf) := by rw [← hWA]; exact X1.out.alloc _
  have OA : KAt WA w1.heap.size (.cells #[.int .u8 107, .int .u8 105, .int .u8 108, .int .u8 110, .int .u8 1] 5 (5, 6)) := by rw [← hWA]; exact KAt.new _ _
  have HA1 : Below w1.heap.size w1 WA := by rw [← hWA]; exact (Below.refl _ _).alloc (Nat.le_refl _) _
  rw [hWA]
  have hlA := heap_lt OA.x
  have HB2 := Lib.hid (HB1.out.trans (HA1.mono HB1.out.size))
  have HBA := Lib.hid (HB.out.below HA1)
  clear hWA c0 c1 c2 c3 c4 c5 hcc
  obtain ⟨c0, c1, c2, c3, c4, c5⟩ := XA.icells
  have c1a : ∀ o, (WA.alloc o).cell? ⟨w.heap.size, 1, none⟩ = some (.string ⟨#[]⟩) := fun o => (XA.alloc o).icells.2.1
  go_wp2_with fail
  clear c0 c1 c2 c3 c4 c5 c1a
  have HOA := Lib.hid OA
  have HlA := Lib.hid hlA
  clear XA OA hlA
  go_loopw [6, 40] (fun v6 vi wr => L0 w1 WA g cap wr ∧ ((vi = .int .i64 0 ∧ v6 = .slice (some ⟨w1.heap.size, 0, none⟩) 5 5) ∨ (∃ B, WA.heap.size + 3 ≤ B ∧ B ≤ wr.heap.size ∧ ((vi = .int .i64 1 ∧ OwnB wr B v6 (pkL 1)) ∨ (vi = .int .i64 2 ∧ OwnB wr B v6 (pkL 2)) ∨ (vi = .int .i64 3 ∧ OwnB wr B v6 (pkL 3)))))) (fun _ vi _ => 3 - (intOf vi).toNat)
  case atStart => exact ⟨pk_start HOA.out HBA.out, .inl ⟨rfl, rfl⟩⟩
  case round =>
    obtain ⟨W0, hW0⟩ : ∃ W, W = wr := ⟨_, rfl⟩
    subst hW0
    obtain ⟨hL, hv⟩ := hrel
    rcases hv with ⟨rfl, rfl⟩ | ⟨B, hB1, hB2, ⟨rfl, hO⟩ | ⟨rfl, hO⟩ | ⟨rfl, hO⟩⟩
    · obtain ⟨k1, k2, d0, d1, d2, t0, hO0, hg0⟩ := hL.facts
      have HL := Lib.hid hL
      clear hL
      go_wp2_with (first
        | (at_builtin; refine app_full rfl _ _ rfl [107, 105, 108, 110, 1] [1] _ rfl (HL.out.alloc _).hdr _ ⟨W0.heap.size, 0, none⟩ rfl one_news (by decide) (by decide) ?_; intro v3 V1 h1 hb1; obtain ⟨B, hB⟩ : ∃ B, (W0.alloc (.cells #[.int .u8 1] 5)).heap.size = B := ⟨_, rfl⟩; have P1 := Lib.hid (PkS.mk ((HL.out.alloc _).below hb1) (Nat.le_trans (HL.out.alloc _).l (Nat.le_of_eq hB)) (Nat.le_trans (Nat.le_of_eq hB.symm) hb1.size) (hB ▸ h1)); clear h1)
        | (go_at_call 23; refine (CL.out 1 (by decide) _).mono ?_; rintro e w3 ⟨g3, c3, rfl, q1, q2, q3, q4⟩; have P3 := Lib.hid (P1.out.below q4))
        | (at_builtin; refine app_bytes rfl _ _ rfl B v3 _ [1] c3 ⟨g3, 0, none⟩ rfl P3.out.o rfl q3.new (by decide) P3.out.b2 ?_; intro v4 V4 h4 hb4 _; have P4 := Lib.hid (P3.out.step h4 hb4); clear q3)
        | (at_builtin; refine app_bytes rfl _ _ rfl B v4 _ [97] k1 ⟨WA.heap.size, 0, none⟩ rfl P4.out.o rfl (t1 P4.out.L) (by decide) P4.out.b2 ?_; intro v5 V5 h5 hb5 _; have P5 := Lib.hid (P4.out.step h5 hb5)))
      go_roundw
      case rel => exact ⟨P5.out.L, .inr ⟨B, P5.out.b1, P5.out.b2, .inl ⟨rfl, P5.out.o⟩⟩⟩
      case measure => simp [intOf]
    · obtain ⟨k1, k2, d0, d1, d2, t0, hO0, hg0⟩ := hL.facts
      have P0 := Lib.hid (PkS.mk hL hB1 hB2 hO)
      clear hL hO
      go_wp2_with (first
        | (at_builtin; refine app_one P0.out.o rfl _ _ rfl 2 _ rfl rfl (by decide) P0.out.b2 ?_; intro v3 V1 h1 hb1; have P1 := Lib.hid (P0.out.step h1 hb1))
        | (go_at_call 23; refine (CL.out 0 (by decide) _).mono ?_; rintro e w3 ⟨g3, c3, rfl, q1, q2, q3, q4⟩; have P3 := Lib.hid (P1.out.below q4))
        | (at_builtin; refine app_bytes rfl _ _ rfl B v3 _ [0] c3 ⟨g3, 0, none⟩ rfl P3.out.o rfl q3.new (by decide) P3.out.b2 ?_; intro v4 V4 h4 hb4 _; have P4 := Lib.hid (P3.out.step h4 hb4); clear q3)
        | (at_builtin; refine app_bytes rfl _ _ rfl B v4 _ [] k2 ⟨WA.heap.size + 1, 0, none⟩ rfl P4.out.o rfl (fun j u hu => by simp [Lib.byteCells] at hu) (by decide) P4.out.b2 ?_; intro v5 V5 h5 hb5 _; have P5 := Lib.hid (P4.out.step h5 hb5)))
      go_roundw
      case rel => exact ⟨P5.out.L, .inr ⟨B, P5.out.b1, P5.out.b2, .inr (.inl ⟨rfl, P5.out.o⟩)⟩⟩
      case measure => simp [intOf]
    · obtain ⟨k1, k2, d0, d1, d2, t0, hO0, hg0⟩ := hL.facts
      have P0 := Lib.hid (PkS.mk hL hB1 hB2 hO)
      clear hL hO
      go_wp2_with (first
        | (at_builtin; refine app_one P0.out.o rfl _ _ rfl 3 _ rfl rfl (by decide) P0.out.b2 ?_; intro v3 V1 h1 hb1; have P1 := Lib.hid (P0.out.step h1 hb1))
        | (go_at_call 23; refine (CL.out 19 (by decide) _).mono ?_; rintro e w3 ⟨g3, c3, rfl, q1, q2, q3, q4⟩; have P3 := Lib.hid (P1.out.below q4))
        | (at_builtin; refine app_bytes rfl _ _ rfl B v3 _ [19] c3 ⟨g3, 0, none⟩ rfl P3.out.o rfl q3.new (by decide) P3.out.b2 ?_; intro v4 V4 h4 hb4 _; have P4 := Lib.hid (P3.out.step h4 hb4); clear q3)
        | (at_builtin; refine app_bytes rfl _ _ rfl B v4 _ encL cap ⟨g, 0, none⟩ rfl P4.out.o rfl ((P4.out.L.g.below P4.out.L.be).new) (by decide) P4.out.b2 ?_; intro v5 V5 h5 hb5 _; have P5 := Lib.hid (P4.out.step h5 hb5)))
      go_roundw
      case rel => exact ⟨P5.out.L, .inr ⟨B, P5.out.b1, P5.out.b2, .inr (.inr ⟨rfl, P5.out.o⟩)⟩⟩
      case measure => simp [intOf]
    · have P0 := Lib.hid (PkS.mk hL hB1 hB2 hO)
      obtain ⟨g4, c4, rfl⟩ := hO.some (by decide)
      clear hL hO
      go_wp2_with (first
        | (go_at_call 10; refine (CS.out (some ⟨g4, 0, none⟩) (pkL 3) c4 _ P0.out.o.bys).mono ?_; rintro e w3 ⟨rfl, hb3⟩; have P3 := Lib.hid (P0.out.below hb3); rw [sum31])
        | (at_builtin; refine app_bytes rfl _ _ rfl B _ (pkL 3) [205, 98, 103, 42] 4 ⟨w3.heap.size, 0, none⟩ rfl (P3.out.o.keep ((Below.refl _ _).alloc (Nat.le_refl _) _)) rfl four_news (by decide) (Nat.le_trans P3.out.b2 (by simp)) ?_; intro v4 V4 h4 hb4 _; have P4 := Lib.hid (PkS.step (P3.out.below ((Below.refl _ _).alloc (Nat.le_refl _) _)) h4 hb4); obtain ⟨g5, c5, rfl⟩ := h4.some (by decide); clear h4))
      go_ret2
      obtain ⟨q1, q2⟩ := P4.out.o.cap
      exact ⟨g5, c5, rfl, q1, Nat.le_trans HB2.out.size (Nat.le_trans (Nat.le_of_lt (Nat.lt_of_lt_of_le (by omega : WA.heap.size < WA.heap.size + 3) P4.out.b1)) q2), P4.out.o.bys, HB2.out.trans (P4.out.L.be.mono HB2.out.size)⟩
end Go.Proofs.Ytgbgahdeopedpaa
