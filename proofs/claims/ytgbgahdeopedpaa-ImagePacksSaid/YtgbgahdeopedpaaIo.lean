/- Walks of layer 24: what a small image's sections are. -/
import Derived.Test.YtgbgahdeopedpaaIn
import Derived.Deep.RegionHeld3
namespace Go.Proofs.Ytgbgahdeopedpaa
open Go.RowKit
set_option linter.unusedVariables false
attribute [local go_sem] ext_mk size_mk toList_mk get_mk take_drop_len take_tail_len ByteArray.mk_append_mk List.append_toArray

theorem results_cell2 {P : Program} {fn : Func} {p u : Tmp} {ty : TypeId} (h : fn.results = #[.cell p ty, .tmp u]) (tmps : Array Value) (w : World) (g : Nat) (t : TypeId) (cs : Array Value) (fr : Nat × Nat) (d : TypeDesc)
    (hp : tmps.getD p undef = .pointer (some ⟨g, 0, none⟩)) (hg : w.heap[g]? = some (.cells cs t fr))
    (hu : P.underlying ty = some d) (hd : (match d with | .struct _ | .array _ _ => true | _ => false) = true) (hi : (P.info? ty).map (·.size) = some cs.size) :
    (results fn tmps).run P w = .ok (.tuple #[.agg cs, tmps.getD u undef]) w := by
  have hp' : tmps[p]?.getD undef = .pointer (some ⟨g, 0, none⟩) := by simpa using hp
  simp [results, h, hp', asAddr, run_loadVar_row w g t ty cs fr d hg hu hd hi]

theorem conv_bys {W : World} {g off : Nat} {l : List UInt8} (cap : Nat) (h : ∀ j u, (Lib.byteCells l)[j]? = some u → W.cell? ((⟨g, off, none⟩ : Addr).add j) = some u) : Sem.run Try.prog (convert 22 9 (.slice (some ⟨g, off, none⟩) l.length cap)) W = .ok (.string ⟨l.toArray⟩) W :=
  run_convert_bytes_back _ 22 9 5 ⟨g, off, none⟩ cap l Try.underlying22 Try.underlying5 Try.underlying9 (fun j hj => h j _ (by simp [Lib.byteCells, hj]))

def zBlk : Obj := .cells #[.slice none 0 0, .slice none 0 0, .slice none 0 0] 67 (0, 0)

theorem TAt.body {W : World} {g : Nat} (h : TAt W g) : BysAt W (some ⟨g, 0, none⟩) (pkL 3) := by
  refine ⟨by decide, .inr ⟨g, 0, rfl, h.l, fun i hi => ?_⟩⟩
  have hi' : i < 31 := hi
  rw [Nat.zero_add, h.c i (by omega)]
  congr 2
  exact (show ∀ i, i < 31 → ((imgL.getD i 0).toNat : Int) = (((pkL 3).getD i 0).toNat : Int) from by decide) i hi'

structure SW (WA W : World) (g : Nat) : Prop where
  be : Below WA.heap.size WA W
  T : TAt W g

theorem SW.all {WA W V : World} {g : Nat} (h : SW WA W g) (hb : Below W.heap.size W V) : V.cell? ⟨g, 31, none⟩ = some (.int .u8 205) ∧ V.cell? ⟨g, 32, none⟩ = some (.int .u8 98) ∧ V.cell? ⟨g, 33, none⟩ = some (.int .u8 103) ∧ V.cell? ⟨g, 34, none⟩ = some (.int .u8 42) ∧ SW WA V g :=
  have hT := h.T.below hb
  ⟨hT.c 31 (by decide), hT.c 32 (by decide), hT.c 33 (by decide), hT.c 34 (by decide), h.be.trans (hb.mono h.be.size), hT⟩

theorem sum_31 (WA : World) (g cap : Nat) (W : World) (h : SW WA W g) :
    Calls Try.prog 10 #[.slice (some ⟨g, 0, none⟩) 31 cap] W fun e w' => e = .returned (.int .u32 711418573) ∧ Below W.heap.size W w' := by
  have := sum_any (some ⟨g, 0, none⟩) (pkL 3) cap W h.T.body
  rw [sum31] at this
  exact this

def oBlk (v0 v1 v2 : Value) : Obj := .cells #[v0, v1, v2] 67 (0, 0)

/-- what the sections' loop keeps: the result's box, the rows that were read, the box of what is left -/
structure SeAt (w W : World) (q g off n : Nat) (v0 v1 v2 : Value) : Prop where
  be : Below w.heap.size w W
  r : KAt W w.heap.size zBlk
  o : KAt W (w.heap.size + 1) (oBlk v0 v1 v2)
  b : ∃ c, n + 4 ≤ c ∧ KAt W q (rBlk g off n c)
  hq : w.heap.size + 1 < q
  hg : g < w.heap.size
  T : TAt W g

theorem SeAt.next {w W V : World} {q g off n off' n' c : Nat} {v0 v1 v2 : Value} (h : SeAt w W q g off n v0 v1 v2) (k : BxAt W V q (rBlk g off' n' c)) (hc : n' + 4 ≤ c) : SeAt w V q g off' n' v0 v1 v2 :=
  have := h.hq
  ⟨h.be.trans (k.be.mono (by omega)), k.blk h.r (by omega), k.blk h.o (by omega), ⟨c, hc, k.k⟩, h.hq, h.hg, h.T.bx (by have := h.hg; omega) k⟩

theorem SeAt.put {w W : World} {q g off n : Nat} {v0 v1 v2 : Value} (h : SeAt w W q g off n v0 v1 v2) (i : Nat) (v : Value) :
    SeAt w (W.setCell ⟨w.heap.size + 1, i, none⟩ v) q g off n (if i = 0 then v else v0) (if i = 1 then v else v1) (if i = 2 then v else v2) := by
  have h1 := h.hq
  have h2 := h.hg
  obtain ⟨c, hc, hk⟩ := h.b
  refine ⟨h.be.setCell (p := ⟨w.heap.size + 1, i, none⟩) (Nat.le_succ _) _, h.r.put _ (by show w.heap.size ≠ w.heap.size + 1; omega) _, ⟨?_⟩, ⟨c, hc, hk.put _ (by show q ≠ w.heap.size + 1; omega) _⟩, h1, h2, ?_⟩
  · have e := heap_setCell_same (i := i) _ _ _ _ v h.o.x
    rw [e]
    match i with
    | 0 | 1 | 2 => rfl
    | (i + 3) => simp [oBlk]
  · exact ⟨by have := h.T.l; simpa [World.setCell] using this, fun j hj => (World.cell?_of_block (a := ⟨g, j, none⟩) (Below.heap_setCell _ _ _ _ (by show g ≠ w.heap.size + 1; omega))).trans (h.T.c j hj)⟩

theorem SeAt.cells {w W : World} {q g off n : Nat} {v0 v1 v2 : Value} (h : SeAt w W q g off n v0 v1 v2) :
    (∃ c, W.cell? ⟨q, 0, none⟩ = some (.slice (some ⟨g, off, none⟩) n c)) ∧
    W.cell? ⟨w.heap.size + 1, 0, none⟩ = some v0 ∧ W.cell? ⟨w.heap.size + 1, 1, none⟩ = some v1 ∧ W.cell? ⟨w.heap.size + 1, 2, none⟩ = some v2 ∧
    W.frozen? ⟨w.heap.size + 1, 0, none⟩ = false ∧ W.frozen? ⟨w.heap.size + 1, 1, none⟩ = false ∧ W.frozen? ⟨w.heap.size + 1, 2, none⟩ = false := by
  obtain ⟨c, hc, hk⟩ := h.b
  refine ⟨⟨c, hk.rcells.1⟩, ?_, ?_, ?_, frozen_of_row _ _ _ _ _ h.o.x, frozen_of_row _ _ _ _ _ h.o.x, frozen_of_row _ _ _ _ _ h.o.x⟩
  all_goals (rw [cell_of_row _ _ _ _ _ _ h.o.x]; rfl)

theorem SeAt.rcells {w W : World} {q g off n : Nat} {v0 v1 v2 : Value} (h : SeAt w W q g off n v0 v1 v2) :
    W.cell? ⟨w.heap.size, 0, none⟩ = some (.slice none 0 0) ∧ W.cell? ⟨w.heap.size, 1, none⟩ = some (.slice none 0 0) ∧ W.cell? ⟨w.heap.size, 2, none⟩ = some (.slice none 0 0) ∧
    W.frozen? ⟨w.heap.size, 0, none⟩ = false ∧ W.frozen? ⟨w.heap.size, 1, none⟩ = false ∧ W.frozen? ⟨w.heap.size, 2, none⟩ = false := by
  refine ⟨?_, ?_, ?_, frozen_of_row _ _ _ _ _ h.r.x, frozen_of_row _ _ _ _ _ h.r.x, frozen_of_row _ _ _ _ _ h.r.x⟩
  all_goals (rw [cell_of_row _ _ _ _ _ _ h.r.x]; rfl)

theorem se_start {w WA wc : World} {g c : Nat} (hA : Below w.heap.size w WA) (hT : TAt WA g) (k0 : KAt WA w.heap.size zBlk) (k1 : KAt WA (w.heap.size + 1) zBlk) (hb : Below WA.heap.size WA wc) (hc : 26 + 4 ≤ c) (hg : g < w.heap.size) :
    SeAt w (wc.alloc (rBlk g 5 26 c)) wc.heap.size g 5 26 (.slice none 0 0) (.slice none 0 0) (.slice none 0 0) := by
  have hz : Below wc.heap.size wc (wc.alloc (rBlk g 5 26 c)) := (Below.refl _ _).alloc (Nat.le_refl _) _
  have h1 := heap_lt k1.x
  have h2 := hb.size
  exact ⟨(hA.trans (hb.mono hA.size)).trans (hz.mono (by omega)), (k0.below hb).alloc _, (k1.below hb).alloc _, ⟨c, hc, KAt.new _ _⟩, by omega, hg, (hT.below hb).below hz⟩

theorem BysAt.blk {W V : World} {s : Nat} {l : List UInt8} (h : BysAt W (some ⟨s, 0, none⟩) l) (e : s < W.heap.size → V.heap[s]? = W.heap[s]?) (hz : W.heap.size ≤ V.heap.size) : BysAt V (some ⟨s, 0, none⟩) l := by
  refine ⟨h.1, ?_⟩
  rcases h.2 with q | ⟨b, off, q1, q2, q3⟩
  · exact .inl q
  · cases q1
    exact .inr ⟨s, 0, rfl, Nat.lt_of_lt_of_le q2 hz, fun i hi => (World.cell?_of_block (a := ⟨s, 0 + i, none⟩) (e q2)).trans (q3 i hi)⟩

theorem BysAt.bx {W V : World} {s p : Nat} {l : List UInt8} {o : Obj} (h : BysAt W (some ⟨s, 0, none⟩) l) (hn : s ≠ p) (k : BxAt W V p o) : BysAt V (some ⟨s, 0, none⟩) l := h.blk (fun hl => k.kp s hl hn) k.be.size

theorem BysAt.put {W : World} {s : Nat} {l : List UInt8} (h : BysAt W (some ⟨s, 0, none⟩) l) {a : Addr} (hn : s ≠ a.block) (v : Value) : BysAt (W.setCell a v) (some ⟨s, 0, none⟩) l := h.blk (fun hl => Below.heap_setCell _ _ _ _ hn) (by simp [World.setCell])
abbrev Se0 (w W : World) (q g : Nat) : Prop := SeAt w W q g 5 26 (.slice none 0 0) (.slice none 0 0) (.slice none 0 0)

structure Se1 (w W : World) (q g s0 : Nat) : Prop where
  s : SeAt w W q g 8 23 (.slice (some ⟨s0, 0, none⟩) 1 1) (.slice none 0 0) (.slice none 0 0)
  h0 : q < s0
  b0 : BysAt W (some ⟨s0, 0, none⟩) [97]

structure Se2 (w W : World) (q g s0 s1 : Nat) : Prop where
  s : SeAt w W q g 10 21 (.slice (some ⟨s0, 0, none⟩) 1 1) (.slice (some ⟨s1, 0, none⟩) 0 0) (.slice none 0 0)
  h0 : q < s0
  b0 : BysAt W (some ⟨s0, 0, none⟩) [97]
  h1 : q < s1
  b1 : BysAt W (some ⟨s1, 0, none⟩) []

structure Se3 (w W : World) (q g s0 s1 s2 : Nat) : Prop where
  s : SeAt w W q g 31 0 (.slice (some ⟨s0, 0, none⟩) 1 1) (.slice (some ⟨s1, 0, none⟩) 0 0) (.slice (some ⟨s2, 0, none⟩) 19 19)
  h0 : q < s0
  b0 : BysAt W (some ⟨s0, 0, none⟩) [97]
  h1 : q < s1
  b1 : BysAt W (some ⟨s1, 0, none⟩) []
  h2 : q < s2
  b2 : BysAt W (some ⟨s2, 0, none⟩) encL

theorem se_ne {w W : World} {q g off n s i : Nat} {v0 v1 v2 : Value} (h : SeAt w W q g off n v0 v1 v2) (hs : q < s) : s ≠ (⟨w.heap.size + 1, i, none⟩ : Addr).block := by
  have := h.hq
  show s ≠ w.heap.size + 1
  omega

theorem z_set {W : World} {m : Nat} (h : KAt W m zBlk) (a b c : Value) :
    (((W.setCell ⟨m, 0, none⟩ a).setCell ⟨m, 1, none⟩ b).setCell ⟨m, 2, none⟩ c).heap[m]? = some (.cells #[a, b, c] 67 (0, 0)) :=
  heap_setCell_same (i := 2) _ _ _ _ _ (heap_setCell_same (i := 1) _ _ _ _ _ (heap_setCell_same (i := 0) _ _ _ _ _ h.x))

set_option maxHeartbeats 4000000 in
set_option maxRecDepth 8000 in
theorem sections_p1 (g cap : Nat) (w : World) (hB : BysAt w (some ⟨g, 0, none⟩) imgL) (hc : 35 ≤ cap) :
    Calls Try.prog 26 #[.slice (some ⟨g, 0, none⟩) 35 cap] w fun x w' => ∃ s0 s1 s2, x = .returned (.tuple #[.agg #[.slice (some ⟨s0, 0, none⟩) 1 1, .slice (some ⟨s1, 0, none⟩) 0 0, .slice (some ⟨s2, 0, none⟩) 19 19], .int .i64 0]) ∧ BysAt w' (some ⟨s0, 0, none⟩) [97] ∧ BysAt w' (some ⟨s1, 0, none⟩) [] ∧ BysAt w' (some ⟨s2, 0, none⟩) encL ∧ Below w.heap.size w w' := by
  have hT := TAt.of hB
  have CS := Lib.hid (fun a l cap W h => sum_any a l cap W h)
  have hmf : ∀ (fn : Fn) (first cap : Array Value) (w : World), (Instr.makeFunc fn first cap).run Try.prog w = .ok (.func fn first cap) w := fun _ _ _ _ => rfl
  have hA2 : ∀ o1 o2, Below w.heap.size w ((w.alloc o1).alloc o2) := fun o1 o2 => ((Below.refl _ _).alloc (Nat.le_refl _) _).alloc (by simp) _
  have hcv : ∀ o1 o2, Sem.run Try.prog (convert 22 9 (.slice (some ⟨g, 0, none⟩) 4 cap)) ((w.alloc o1).alloc o2) = .ok (.string ⟨#[107, 105, 108, 110]⟩) ((w.alloc o1).alloc o2) := fun o1 o2 => conv_bys (l := [107, 105, 108, 110]) cap ((hT.below (hA2 o1 o2)).src 0 [107, 105, 108, 110] (by decide) (by decide))
  have b4 : ∀ o1 o2, ((w.alloc o1).alloc o2).cell? ⟨g, 4, none⟩ = some (.int .u8 1) := fun o1 o2 => (hT.below (hA2 o1 o2)).c 4 (by decide)
  have HB := Lib.hid hB
  have HT := Lib.hid hT
  have HA2 := Lib.hid hA2
  clear hB hT hA2
  go_enter Try.func26, Try.ntmps26
  go_wp2_with fail
  go_quiet (fail)
  go_wp2_with fail
  obtain ⟨WA, hWA⟩ : ∃ W, (((w.alloc (.cells #[.slice none 0 0, .slice none 0 0, .slice none 0 0] 67)).alloc (.cells #[.slice none 0 0, .slice none 0 0, .slice none 0 0] 67)).drewN nq) = W := ⟨_, rfl⟩
  have hAA : Below w.heap.size w WA := by rw [← hWA]; exact below_drewN (HA2.out _ _) _
  have k0 : KAt WA w.heap.size zBlk := by rw [← hWA]; exact ((KAt.new w zBlk).alloc zBlk).below (below_drewN (Below.refl _ _) _)
  have k1 : KAt WA (w.heap.size + 1) zBlk := by
    have h := KAt.new (w.alloc zBlk) zBlk
    rw [show (w.alloc zBlk).heap.size = w.heap.size + 1 from by simp] at h
    rw [← hWA]; exact h.below (below_drewN (Below.refl _ _) _)
  rw [hWA]
  clear hWA hcv b4
  have hTA := HT.out.below hAA
  have b31 : WA.cell? ⟨g, 31, none⟩ = some (.int .u8 205) := hTA.c 31 (by decide)
  have b32 : WA.cell? ⟨g, 32, none⟩ = some (.int .u8 98) := hTA.c 32 (by decide)
  have b33 : WA.cell? ⟨g, 33, none⟩ = some (.int .u8 103) := hTA.c 33 (by decide)
  have b34 : WA.cell? ⟨g, 34, none⟩ = some (.int .u8 42) := hTA.c 34 (by decide)
  have HAA := Lib.hid hAA
  have HTA := Lib.hid hTA
  have K0 := Lib.hid k0
  have K1 := Lib.hid k1
  clear hAA hTA k0 k1
  go_cut [61] from 37 to 61 (fun v61 wx => v61 = .bool false ∧ Below WA.heap.size WA wx)
  case first =>
    have hS0 : SW WA WA.drew g := ⟨(Below.refl _ _).drew, HTA.out.below ((Below.refl _ _).drew)⟩
    have CT := Lib.hid (fun W => sum_31 WA g cap W)
    go_region_held3 (fun w' => w'.cell? ⟨g, 31, none⟩ = some (.int .u8 205) ∧ w'.cell? ⟨g, 32, none⟩ = some (.int .u8 98) ∧ w'.cell? ⟨g, 33, none⟩ = some (.int .u8 103) ∧ w'.cell? ⟨g, 34, none⟩ = some (.int .u8 42) ∧ SW WA w' g)
      (first
        | (go_keep; done)
        | (refine ⟨?_, ?_, ?_, ?_, hS0⟩ <;> (go_keep; done))
        | (go_split_ands; exact SW.all (by assumption) hbx))
      (first | (go_at_call 10; (with_reducible refine (CT.out _ ?_).mono ?_); (go_split_ands; assumption); rintro e w1 ⟨rfl, hbx⟩))
    all_goals go_wp2_with fail
    all_goals go_meet
    all_goals (go_split_ands; exact ⟨rfl, SW.be (by assumption)⟩)
  case rest =>
    obtain ⟨rfl, hb1⟩ := hcut
    have se := se_start HAA.out HTA.out K0.out K1.out hb1 (show 26 + 4 ≤ cap - 5 by omega) HT.out.l
    have N1 := Lib.hid (fun q g c W h1 h2 h3 h4 => next_1 q g c W h1 h2 h3 h4)
    have N2 := Lib.hid (fun q g c W h1 h2 h3 h4 => next_2 q g c W h1 h2 h3 h4)
    have N3 := Lib.hid (fun q g c W h1 h2 h3 h4 => next_3 q g c W h1 h2 h3 h4)
    have SE := Lib.hid se
    clear hb1 se b31 b32 b33 b34
    go_wp2_with fail
    obtain ⟨W3, hW3⟩ : ∃ W, wc.alloc (.cells #[.slice (some ⟨g, 5, none⟩) 26 (cap - 5)] 22) = W := ⟨_, rfl⟩
    have se := SE.out
    unfold rBlk at se
    rw [hW3] at se
    rw [hW3]
    obtain ⟨q, hq⟩ : ∃ q, wc.heap.size = q := ⟨_, rfl⟩
    rw [hq] at se
    rw [hq]
    clear SE hW3 hq
    have SE := Lib.hid se
    clear se
    go_loopw [66] (fun vi wr => (vi = .int .i64 0 ∧ Se0 w wr q g) ∨ (vi = .int .i64 1 ∧ ∃ s0, Se1 w wr q g s0) ∨ (vi = .int .i64 2 ∧ ∃ s0 s1, Se2 w wr q g s0 s1) ∨ (vi = .int .i64 3 ∧ ∃ s0 s1 s2, Se3 w wr q g s0 s1 s2)) (fun vi _ => 3 - (intOf vi).toNat)
    case atStart => exact .inl ⟨rfl, SE.out⟩
    case round =>
      obtain ⟨W0, hW0⟩ : ∃ W, W = wr := ⟨_, rfl⟩
      subst hW0
      clear SE
      rcases hrel with ⟨rfl, h0⟩ | ⟨rfl, s0, h0⟩ | ⟨rfl, s0, s1, h0⟩ | ⟨rfl, s0, s1, s2, h0⟩
      · have H := Lib.hid h0
        clear h0
        go_wp2_with (first | (go_at_call 39; (obtain ⟨c, hc, hk⟩ := H.out.b); refine (N1.out q g c _ hk hc H.out.T (by have := H.out.hg; have := H.out.hq; omega)).mono ?_; rintro e w1 ⟨s, c2, rfl, hs, hB, hX, hc2⟩; have H1 := Lib.hid (H.out.next hX hc2); have HS := Lib.hid (And.intro (Nat.lt_of_lt_of_le (heap_lt hk.x) hs) hB); clear hk hs hB hX hc2; obtain ⟨-, e0, e1, e2, z0, z1, z2⟩ := H1.out.cells))
        go_roundw
        case rel => exact .inr (.inl ⟨rfl, s, H1.out.put 0 _, HS.out.1, HS.out.2.put (se_ne H1.out HS.out.1) _⟩)
        case measure => simp [intOf]
      · have H := Lib.hid h0
        clear h0
        go_wp2_with (first | (go_at_call 39; (obtain ⟨c, hc, hk⟩ := H.out.s.b); refine (N2.out q g c _ hk hc H.out.s.T (by have := H.out.s.hg; have := H.out.s.hq; omega)).mono ?_; rintro e w1 ⟨s, c2, rfl, hs, hB, hX, hc2⟩; have H1 := Lib.hid (H.out.s.next hX hc2); have B0 := Lib.hid (H.out.b0.bx (Nat.ne_of_gt H.out.h0) hX); have HS := Lib.hid (And.intro (Nat.lt_of_lt_of_le (heap_lt hk.x) hs) hB); clear hk hs hB hX hc2; obtain ⟨-, e0, e1, e2, z0, z1, z2⟩ := H1.out.cells))
        go_roundw
        case rel => exact .inr (.inr (.inl ⟨rfl, s0, s, H1.out.put 1 _, H.out.h0, B0.out.put (se_ne H1.out H.out.h0) _, HS.out.1, HS.out.2.put (se_ne H1.out HS.out.1) _⟩))
        case measure => simp [intOf]
      · have H := Lib.hid h0
        clear h0
        go_wp2_with (first | (go_at_call 39; (obtain ⟨c, hc, hk⟩ := H.out.s.b); refine (N3.out q g c _ hk hc H.out.s.T (by have := H.out.s.hg; have := H.out.s.hq; omega)).mono ?_; rintro e w1 ⟨s, c2, rfl, hs, hB, hX, hc2⟩; have H1 := Lib.hid (H.out.s.next hX hc2); have B0 := Lib.hid (H.out.b0.bx (Nat.ne_of_gt H.out.h0) hX); have B1 := Lib.hid (H.out.b1.bx (Nat.ne_of_gt H.out.h1) hX); have HS := Lib.hid (And.intro (Nat.lt_of_lt_of_le (heap_lt hk.x) hs) hB); clear hk hs hB hX hc2; obtain ⟨-, e0, e1, e2, z0, z1, z2⟩ := H1.out.cells))
        go_roundw
        case rel => exact .inr (.inr (.inr ⟨rfl, s0, s1, s, H1.out.put 2 _, H.out.h0, B0.out.put (se_ne H1.out H.out.h0) _, H.out.h1, B1.out.put (se_ne H1.out H.out.h1) _, HS.out.1, HS.out.2.put (se_ne H1.out HS.out.1) _⟩))
        case measure => simp [intOf]
      · have H := Lib.hid h0
        obtain ⟨⟨c, eq⟩, e0, e1, e2, z0, z1, z2⟩ := h0.s.cells
        obtain ⟨r0, r1, r2, y0, y1, y2⟩ := h0.s.rcells
        clear h0
        go_wp2_with fail
        have hi' : (Try.prog.info? 67).map (·.size) = some 3 := by kernel_rfl
        (try simp only [Exit.inBlock, Exit.then]); refine bodyPost_ret (results_cell2 rfl _ _ w.heap.size 67 _ (0, 0) _ rfl (z_set H.out.s.r _ _ _) Try.underlying67 rfl hi') rfl ?_
        have k0 : s0 ≠ w.heap.size := by have := H.out.h0; have := H.out.s.hq; omega
        have k1 : s1 ≠ w.heap.size := by have := H.out.h1; have := H.out.s.hq; omega
        have k2 : s2 ≠ w.heap.size := by have := H.out.h2; have := H.out.s.hq; omega
        exact ⟨s0, s1, s2, rfl, ((H.out.b0.put (a := ⟨_, 0, none⟩) k0 _).put (a := ⟨_, 1, none⟩) k0 _).put (a := ⟨_, 2, none⟩) k0 _, ((H.out.b1.put (a := ⟨_, 0, none⟩) k1 _).put (a := ⟨_, 1, none⟩) k1 _).put (a := ⟨_, 2, none⟩) k1 _, ((H.out.b2.put (a := ⟨_, 0, none⟩) k2 _).put (a := ⟨_, 1, none⟩) k2 _).put (a := ⟨_, 2, none⟩) k2 _, ((H.out.s.be.setCell (p := ⟨w.heap.size, 0, none⟩) (Nat.le_refl _) _).setCell (p := ⟨w.heap.size, 1, none⟩) (Nat.le_refl _) _).setCell (p := ⟨w.heap.size, 2, none⟩) (Nat.le_refl _) _⟩
end Go.Proofs.Ytgbgahdeopedpaa
