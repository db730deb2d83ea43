/- Walks of layer 16: the bytes of a small program. -/
import Derived.Test.YtgbgahdeopedpaaIk
namespace Go.Proofs.Ytgbgahdeopedpaa
open Go.RowKit
set_option linter.unusedVariables false
attribute [local go_sem] ext_mk size_mk toList_mk get_mk take_drop_len take_tail_len ByteArray.mk_append_mk List.append_toArray

def qBlk (p : Nat) : Obj := .cells #[.pointer (some ⟨p, 0, none⟩)] 79 (0, 0)

/-- behind Encode's head: the program's box, the writer, the variable that names it -/
structure EAt (w : World) (F cf p q : Nat) (xs : List Value) (W : World) : Prop where
  be : Below w.heap.size w W
  pa : KAt W w.heap.size (pBlk F cf)
  qa : KAt W q (qBlk p)
  wa : WrAt W p xs
  hp : w.heap.size < p
  hq : p < q

theorem EAt.step {w W V : World} {F cf p q : Nat} {xs ys : List Value} (h : EAt w F cf p q xs W) (hw : WrAt V p ys) (ht : WTch p W V) : EAt w F cf p q ys V :=
  ⟨h.be.trans (ht.be.mono (Nat.le_of_lt h.hp)), h.pa.tch (by decide) (Nat.ne_of_lt h.hp) ht, h.qa.tch (by decide) (Nat.ne_of_gt h.hq) ht, hw, h.hp, h.hq⟩

theorem EAt.below {w W V : World} {F cf p q : Nat} {xs : List Value} (h : EAt w F cf p q xs W) (hb : Below W.heap.size W V) : EAt w F cf p q xs V :=
  ⟨h.be.trans (hb.mono h.be.size), h.pa.below hb, h.qa.below hb, h.wa.below hb, h.hp, h.hq⟩

theorem EAt.alloc {w W : World} {F cf p q : Nat} {xs : List Value} (h : EAt w F cf p q xs W) (o : Obj) : EAt w F cf p q xs (W.alloc o) := h.below ((Below.refl _ _).alloc (Nat.le_refl _) _)

theorem EAt.lt {w W : World} {F cf p q : Nat} {xs : List Value} (h : EAt w F cf p q xs W) : p ≤ W.heap.size := by obtain ⟨v, hv⟩ := h.wa; exact Nat.le_of_lt hv.lt

theorem EAt.cells {w W : World} {F cf p q : Nat} {xs : List Value} (h : EAt w F cf p q xs W) : W.cell? ⟨w.heap.size, 0, none⟩ = some (.slice (some ⟨F, 0, none⟩) 1 cf) ∧ W.cell? ⟨w.heap.size, 1, none⟩ = some (.slice none 0 0) ∧ W.cell? ⟨w.heap.size, 2, none⟩ = some (.slice none 0 0) ∧ W.cell? ⟨w.heap.size, 3, none⟩ = some (.int .i64 0) ∧ W.cell? ⟨q, 0, none⟩ = some (.pointer (some ⟨p, 0, none⟩)) := by
  obtain ⟨a, b, c, d⟩ := h.pa.pcells
  exact ⟨a, b, c, d, by rw [cell_of_row _ _ _ _ _ _ h.qa.x]; rfl⟩

theorem signed_0 (p : Nat) (xs : List Value) (w : World) (hw : WrAt w p xs) (hx : xs.length ≤ 1000000) :
    Calls Try.prog 34 #[.pointer (some ⟨p, 0, none⟩), .int .i64 0] w fun x w' => (∃ v, x = .returned v) ∧ WrAt w' p (xs ++ [.int .u8 0]) ∧ WTch p w w' := by
  have C := Lib.hid (plain_small p 0 xs w hw (by decide) (by decide) hx)
  clear hw hx
  go_enter Try.func34, Try.ntmps34
  go_wp2_with (first | (go_at_call 33; refine C.out.mono ?_; rintro e w1 ⟨⟨_, rfl⟩, h1, h2⟩))
  go_end0
  exact ⟨⟨_, rfl⟩, h1, h2⟩

theorem list_0 (p : Nat) (f : Value) (xs : List Value) (w : World) (hw : WrAt w p xs) (hx : xs.length ≤ 1000000) :
    Calls Try.prog 35 #[.pointer (some ⟨p, 0, none⟩), .slice none 0 0, f] w fun x w' => (∃ v, x = .returned v) ∧ WrAt w' p (xs ++ [.int .u8 0]) ∧ WTch p w w' := by
  have C := Lib.hid (plain_small p 0 xs w hw (by decide) (by decide) hx)
  clear hw hx
  go_enter Try.func35, Try.ntmps35
  go_wp2_with (first | (go_at_call 33; refine C.out.mono ?_; rintro e w1 ⟨⟨_, rfl⟩, h1, h2⟩))
  go_loopw [15] (fun vi wr => vi = .int .i64 0 ∧ wr = w1) (fun vi _ => 0)
  case atStart => exact ⟨rfl, rfl⟩
  case round =>
    obtain ⟨rfl, rfl⟩ := hrel
    go_wp2_with fail
    go_end0
    exact ⟨⟨_, rfl⟩, h1, h2⟩

theorem encl_plain (p q : Nat) (n : Int) (xs : List Value) (w : World) (hq : KAt w q (qBlk p)) (hw : WrAt w p xs) (h0 : 0 ≤ n) (h1 : n < 128) (hx : xs.length ≤ 1000000) :
    Calls Try.prog 32 #[.int .i64 n, .pointer (some ⟨q, 0, none⟩)] w fun x w' => (∃ v, x = .returned v) ∧ WrAt w' p (xs ++ [.int .u8 n]) ∧ WTch p w w' := by
  have C := Lib.hid (plain_small p n xs w hw h0 h1 hx)
  have c0 : w.cell? ⟨q, 0, none⟩ = some (.pointer (some ⟨p, 0, none⟩)) := by rw [cell_of_row _ _ _ _ _ _ hq.x]; rfl
  have k1 : IntKind.u64.wrap n = n := IntWalk.u64_in _ (by omega)
  clear hw hx hq
  go_enter Try.func32, Try.ntmps32
  go_wp2_with (first | (go_at_call 33; refine C.out.mono ?_; rintro e w1 ⟨⟨_, rfl⟩, h1, h2⟩))
  go_end0
  exact ⟨⟨_, rfl⟩, h1, h2⟩

theorem wr19 {W : World} {p : Nat} {v : Value} {xs : List Value} (h : WrV W p v xs) (hx : xs = [0, 0, 0, 1, 0, 1, 2, 1, 0, 0, 0, 0, 0, 13, 0, 0, 0, 0, 0].map (Value.int .u8)) :
    ∃ g cap, v = .slice (some ⟨g, 0, none⟩) 19 cap ∧ 19 ≤ cap ∧ g < W.heap.size ∧ (∀ i, i < 19 → W.cell? ⟨g, i, none⟩ = some (.int .u8 ([0, 0, 0, 1, 0, 1, 2, 1, 0, 0, 0, 0, 0, 13, 0, 0, 0, 0, 0].getD i 0))) := by
  subst hx
  rcases h.2.2 with ⟨_, q⟩ | ⟨g, cap, cur, q, _, q3, q4, _⟩
  · simp at q
  · refine ⟨g, cap, q, q4, heap_lt q3, ?_⟩
    intro i hi
    have h2 := h.2
    rw [q] at h2
    have := h2.cells (g := g) rfl i (.int .u8 ([0, 0, 0, 1, 0, 1, 2, 1, 0, 0, 0, 0, 0, 13, 0, 0, 0, 0, 0].getD i 0)) (by
      rw [List.getElem?_map, (show ∀ i, i < 19 → ([0, 0, 0, 1, 0, 1, 2, 1, 0, 0, 0, 0, 0, 13, 0, 0, 0, 0, 0] : List Int)[i]? = some ([0, 0, 0, 1, 0, 1, 2, 1, 0, 0, 0, 0, 0, 13, 0, 0, 0, 0, 0].getD i 0) from by decide) i hi]; rfl)
    have e : (⟨g, 0, none⟩ : Addr).add i = ⟨g, i, none⟩ := by
      unfold Addr.add
      by_cases h0 : i = 0
      · subst h0; rfl
      · rw [if_neg h0]; simp
    rwa [e] at this

theorem e_start {w W : World} {F cf : Nat} (hb : Below w.heap.size w W) (hP : KAt W w.heap.size (pBlk F cf)) :
    EAt w F cf W.heap.size (W.heap.size + 1) [] ((W.alloc (.cells #[.slice none 0 0] 81)).alloc (.cells #[.pointer (some ⟨W.heap.size, 0, none⟩)] 79)) := by
  have hl := heap_lt hP.x
  have z : ∀ (W : World) (o : Obj), (W.alloc o).heap.size = W.heap.size + 1 := fun W o => by simp
  have k1 := KAt.new W (wBlk (.slice none 0 0))
  have k2 := KAt.new (W.alloc (wBlk (.slice none 0 0))) (qBlk W.heap.size)
  rw [z] at k2
  refine ⟨(hb.alloc hb.size _).alloc (by rw [z]; have := hb.size; omega) _, (hP.alloc _).alloc _, k2, ⟨_, k1.alloc _, World.ownsRow_nil _ _ _ _⟩, hl, by omega⟩

set_option maxHeartbeats 4000000 in
set_option maxRecDepth 8000 in
theorem encode_p1 (F C cf cc : Nat) (w : World) (hP : P1At w F C cc) :
    Calls Try.prog 22 #[.agg #[.slice (some ⟨F, 0, none⟩) 1 cf, .slice none 0 0, .slice none 0 0, .int .i64 0]] w fun x w' => ∃ g cap, x = .returned (.tuple #[.slice (some ⟨g, 0, none⟩) 19 cap, .int .i64 0]) ∧ 19 ≤ cap ∧ g < w'.heap.size ∧ (∀ i, i < 19 → w'.cell? ⟨g, i, none⟩ = some (.int .u8 ([0, 0, 0, 1, 0, 1, 2, 1, 0, 0, 0, 0, 0, 13, 0, 0, 0, 0, 0].getD i 0))) ∧ Below w.heap.size w w' := by
  have HP := Lib.hid hP
  have CC := Lib.hid (fun W h => check_p1 F C cf cc W h)
  have CP := Lib.hid (fun p q n xs W hq hw h0 h1 hx => encl_plain p q n xs W hq hw h0 h1 hx)
  have CS := Lib.hid (fun p xs W hw hx => signed_0 p xs W hw hx)
  have CL := Lib.hid (fun p f xs W hw hx => list_0 p f xs W hw hx)
  have hmf : ∀ (fn : Fn) (first cap : Array Value) (w : World), (Instr.makeFunc fn first cap).run Try.prog w = .ok (.func fn first cap) w := fun _ _ _ _ => rfl
  have hA : Below w.heap.size w (w.alloc (pBlk F cf)) := (Below.refl _ _).alloc (Nat.le_refl _) _
  have hPA : P1At (w.alloc (pBlk F cf)) F C cc := hP.below hA
  have HA := Lib.hid hA
  have HPA := Lib.hid hPA
  clear hP hA hPA
  go_enter Try.func22, Try.ntmps22
  go_wp2_with (first
    | (go_at_call 31; refine (CC.out _ HPA.out).mono ?_; rintro e w0 ⟨rfl, hb0⟩; have E := (e_start (HA.out.trans (hb0.mono HA.out.size)) ((KAt.new w (pBlk F cf)).below hb0)); clear hb0; obtain ⟨c0, c1, c2, c3, c4⟩ := E.cells))
  obtain ⟨p, hp⟩ : ∃ p, w0.heap.size = p := ⟨_, rfl⟩
  obtain ⟨W1, hW1⟩ : ∃ W, ((w0.alloc (.cells #[.slice none 0 0] 81)).alloc (.cells #[.pointer (some ⟨w0.heap.size, 0, none⟩)] 79)) = W := ⟨_, rfl⟩
  rw [hW1] at E c0 c1 c2 c3 c4
  rw [hW1]
  rw [hp] at E c4
  rw [hp]
  clear hW1 hp
  go_region
  have E := E.below (Below.refl _ _).drew
  clear c0 c1 c2 c3 c4
  obtain ⟨c0, c1, c2, c3, c4⟩ := E.cells
  go_wp2_with (first
    | (go_at_call 32; refine (CP.out _ _ _ _ _ E.qa E.wa (by decide) (by decide) (by decide)).mono ?_; rintro e w1 ⟨⟨_, rfl⟩, h1, h2⟩; have E := E.step h1 h2; clear c0 c1 c2 c3 c4; obtain ⟨c0, c1, c2, c3, c4⟩ := E.cells))
  go_loopw [45] (fun vi wr => vi = .int .i64 0 ∧ EAt w F cf p (p + 1) ([] ++ [Value.int .u8 0] ++ [Value.int .u8 0]) wr) (fun vi _ => 0)
  case atStart => exact ⟨rfl, E⟩
  case round =>
    obtain ⟨rfl, E1⟩ := hrel
    clear E c0 c1 c2 c3 c4
    have E := E1
    clear E1
    obtain ⟨c0, c1, c2, c3, c4⟩ := E.cells
    go_wp2_with (first
      | (go_at_call 32; refine (CP.out _ _ _ _ _ E.qa E.wa (by decide) (by decide) (by decide)).mono ?_; rintro e w1 ⟨⟨_, rfl⟩, h1, h2⟩; have E := E.step h1 h2; clear c0 c1 c2 c3 c4; obtain ⟨c0, c1, c2, c3, c4⟩ := E.cells))
    go_loopw [77] (fun vi wr => vi = .int .i64 0 ∧ EAt w F cf p (p + 1) ([] ++ [Value.int .u8 0] ++ [Value.int .u8 0] ++ [Value.int .u8 0]) wr) (fun vi _ => 0)
    case atStart => exact ⟨rfl, E⟩
    case round =>
      obtain ⟨rfl, E1⟩ := hrel
      clear E c0 c1 c2 c3 c4
      have E := E1
      clear E1
      obtain ⟨c0, c1, c2, c3, c4⟩ := E.cells
      go_wp2_with (first
        | (go_at_call 32; refine (CP.out _ _ _ _ _ E.qa E.wa (by decide) (by decide) (by decide)).mono ?_; rintro e w1 ⟨⟨_, rfl⟩, h1, h2⟩; have E := E.step h1 h2; clear c0 c1 c2 c3 c4; obtain ⟨c0, c1, c2, c3, c4⟩ := E.cells))
      go_loopw [108] (fun vi wr => (vi = .int .i64 0 ∧ EAt w F cf p (p + 1) ([] ++ [Value.int .u8 0] ++ [Value.int .u8 0] ++ [Value.int .u8 0] ++ [Value.int .u8 1]) wr) ∨ (vi = .int .i64 1 ∧ EAt w F cf p (p + 1) ([] ++ [Value.int .u8 0] ++ [Value.int .u8 0] ++ [Value.int .u8 0] ++ [Value.int .u8 1] ++ [Value.int .u8 0] ++ [Value.int .u8 1] ++ [Value.int .u8 2] ++ [Value.int .u8 1] ++ [Value.int .u8 0] ++ [Value.int .u8 0] ++ [Value.int .u8 0] ++ [Value.int .u8 0] ++ [Value.int .u8 0] ++ [Value.int .u8 13] ++ [Value.int .u8 0] ++ [Value.int .u8 0] ++ [Value.int .u8 0] ++ [Value.int .u8 0] ++ [Value.int .u8 0]) wr)) (fun vi _ => 1 - (intOf vi).toNat)
      case atStart => exact .inl ⟨rfl, E⟩
      case round =>
        obtain ⟨W0, hW0⟩ : ∃ W, W = wr := ⟨_, rfl⟩
        subst hW0
        clear E c0 c1 c2 c3 c4
        rcases hrel with ⟨rfl, E⟩ | ⟨rfl, E⟩
        · have f0 := (HP.out.below E.be).f0
          have f1 := (HP.out.below E.be).f1
          have f2 := (HP.out.below E.be).f2
          have hne : W0.heap.size ≠ p := by
            obtain ⟨v, hv⟩ := E.wa
            exact Nat.ne_of_gt hv.lt
          have X := KAt.new W0 (fBlk C cc)
          have E1 := E.alloc (fBlk C cc)
          obtain ⟨c0, c1, c2, c3, c4⟩ := E1.cells
          obtain ⟨y0, y1, y2⟩ := X.fcells
          unfold fBlk at c0 c1 c2 c3 c4 y0 y1 y2
          clear E
          have E := Lib.hid E1
          have X := Lib.hid X
          clear E1
          go_wp2_with (first
            | (go_at_call 32; refine (CP.out _ _ _ _ _ E.out.qa E.out.wa (by decide) (by decide) (by decide)).mono ?_; rintro e w1 ⟨⟨_, rfl⟩, h1, h2⟩; have E := Lib.hid (E.out.step h1 h2); have X := Lib.hid (KAt.tch X.out (by decide) hne h2); clear c0 c1 c2 c3 c4 y0 y1 y2; obtain ⟨c0, c1, c2, c3, c4⟩ := E.out.cells; obtain ⟨y0, y1, y2⟩ := X.out.fcells))
          have HN := Lib.hid hne
          clear hne
          go_loopw [128] (fun vj wr => ((vj = .int .i64 0 ∧ EAt w F cf p (p + 1) ([] ++ [Value.int .u8 0] ++ [Value.int .u8 0] ++ [Value.int .u8 0] ++ [Value.int .u8 1] ++ [Value.int .u8 0] ++ [Value.int .u8 1] ++ [Value.int .u8 2]) wr) ∨ (vj = .int .i64 1 ∧ EAt w F cf p (p + 1) ([] ++ [Value.int .u8 0] ++ [Value.int .u8 0] ++ [Value.int .u8 0] ++ [Value.int .u8 1] ++ [Value.int .u8 0] ++ [Value.int .u8 1] ++ [Value.int .u8 2] ++ [Value.int .u8 1] ++ [Value.int .u8 0] ++ [Value.int .u8 0] ++ [Value.int .u8 0] ++ [Value.int .u8 0] ++ [Value.int .u8 0]) wr) ∨ (vj = .int .i64 2 ∧ EAt w F cf p (p + 1) ([] ++ [Value.int .u8 0] ++ [Value.int .u8 0] ++ [Value.int .u8 0] ++ [Value.int .u8 1] ++ [Value.int .u8 0] ++ [Value.int .u8 1] ++ [Value.int .u8 2] ++ [Value.int .u8 1] ++ [Value.int .u8 0] ++ [Value.int .u8 0] ++ [Value.int .u8 0] ++ [Value.int .u8 0] ++ [Value.int .u8 0] ++ [Value.int .u8 13] ++ [Value.int .u8 0] ++ [Value.int .u8 0] ++ [Value.int .u8 0] ++ [Value.int .u8 0] ++ [Value.int .u8 0]) wr)) ∧ KAt wr W0.heap.size (fBlk C cc)) (fun vj _ => 2 - (intOf vj).toNat)
          case atStart => exact ⟨.inl ⟨rfl, E.out⟩, X.out⟩
          case round =>
            obtain ⟨W2, hW2⟩ : ∃ W, W = wr := ⟨_, rfl⟩
            subst hW2
            clear E X c0 c1 c2 c3 c4 y0 y1 y2
            obtain ⟨hE, X⟩ := hrel
            rcases hE with ⟨rfl, E⟩ | ⟨rfl, E⟩ | ⟨rfl, E⟩
            ·
              have d0 : W2.cell? ⟨C, 0, none⟩ = some (.int .i64 1) := (HP.out.below E.be).c 0 (by decide)
              have d1 : W2.cell? ⟨C, 0 + 1, none⟩ = some (.int .i64 0) := (HP.out.below E.be).c (0 + 1) (by decide)
              have d2 : W2.cell? ⟨C, 0 + 2, none⟩ = some (.int .i64 0) := (HP.out.below E.be).c (0 + 2) (by decide)
              have d3 : W2.cell? ⟨C, 0 + 3, none⟩ = some (.int .i64 0) := (HP.out.below E.be).c (0 + 3) (by decide)
              have d4 : W2.cell? ⟨C, 0 + 4, none⟩ = some (.slice none 0 0) := (HP.out.below E.be).c (0 + 4) (by decide)
              have d5 : W2.cell? ⟨C, 0 + 5, none⟩ = some (.slice none 0 0) := (HP.out.below E.be).c (0 + 5) (by decide)
              have hne2 : W2.heap.size ≠ p := by
                obtain ⟨v, hv⟩ := E.wa
                exact Nat.ne_of_gt hv.lt
              have HN2 := Lib.hid hne2
              have Z := KAt.new W2 (xBlk 1)
              have E1 := E.alloc (xBlk 1)
              have X1 := X.alloc (xBlk 1)
              obtain ⟨c0, c1, c2, c3, c4⟩ := E1.cells
              obtain ⟨z0, z1, z2, z3, z4, z5⟩ := Z.xcells
              unfold xBlk at c0 c1 c2 c3 c4 z0 z1 z2 z3 z4 z5
              clear E X hne2
              have E := Lib.hid E1
              have X := Lib.hid X1
              have Z := Lib.hid Z
              clear E1 X1
              go_wp2_with (first
                | (go_at_call 32; refine (CP.out _ _ _ _ _ E.out.qa E.out.wa (by decide) (by decide) (by decide)).mono ?_; rintro e w1 ⟨⟨_, rfl⟩, h1, h2⟩; have E := Lib.hid (E.out.step h1 h2); have X := Lib.hid (KAt.tch X.out (by decide) HN.out h2); have Z := Lib.hid (KAt.tch Z.out (by decide) HN2.out h2); clear h1 h2 c0 c1 c2 c3 c4 z0 z1 z2 z3 z4 z5; obtain ⟨c0, c1, c2, c3, c4⟩ := E.out.cells; obtain ⟨z0, z1, z2, z3, z4, z5⟩ := Z.out.xcells)
                | (go_at_call 34; refine (CS.out _ _ _ E.out.wa (by decide)).mono ?_; rintro e w1 ⟨⟨_, rfl⟩, h1, h2⟩; have E := Lib.hid (E.out.step h1 h2); have X := Lib.hid (KAt.tch X.out (by decide) HN.out h2); have Z := Lib.hid (KAt.tch Z.out (by decide) HN2.out h2); clear h1 h2 c0 c1 c2 c3 c4 z0 z1 z2 z3 z4 z5; obtain ⟨c0, c1, c2, c3, c4⟩ := E.out.cells; obtain ⟨z0, z1, z2, z3, z4, z5⟩ := Z.out.xcells)
                | (go_at_call 35; refine (CL.out _ _ _ _ E.out.wa (by decide)).mono ?_; rintro e w1 ⟨⟨_, rfl⟩, h1, h2⟩; have E := Lib.hid (E.out.step h1 h2); have X := Lib.hid (KAt.tch X.out (by decide) HN.out h2); have Z := Lib.hid (KAt.tch Z.out (by decide) HN2.out h2); clear h1 h2 c0 c1 c2 c3 c4 z0 z1 z2 z3 z4 z5; obtain ⟨c0, c1, c2, c3, c4⟩ := E.out.cells; obtain ⟨z0, z1, z2, z3, z4, z5⟩ := Z.out.xcells))
              go_roundw
              case rel => exact ⟨.inr (.inl ⟨rfl, E.out⟩), X.out⟩
              case measure => simp [intOf]
            ·
              have d0 : W2.cell? ⟨C, 6, none⟩ = some (.int .i64 13) := (HP.out.below E.be).c 6 (by decide)
              have d1 : W2.cell? ⟨C, 6 + 1, none⟩ = some (.int .i64 0) := (HP.out.below E.be).c (6 + 1) (by decide)
              have d2 : W2.cell? ⟨C, 6 + 2, none⟩ = some (.int .i64 0) := (HP.out.below E.be).c (6 + 2) (by decide)
              have d3 : W2.cell? ⟨C, 6 + 3, none⟩ = some (.int .i64 0) := (HP.out.below E.be).c (6 + 3) (by decide)
              have d4 : W2.cell? ⟨C, 6 + 4, none⟩ = some (.slice none 0 0) := (HP.out.below E.be).c (6 + 4) (by decide)
              have d5 : W2.cell? ⟨C, 6 + 5, none⟩ = some (.slice none 0 0) := (HP.out.below E.be).c (6 + 5) (by decide)
              have hne2 : W2.heap.size ≠ p := by
                obtain ⟨v, hv⟩ := E.wa
                exact Nat.ne_of_gt hv.lt
              have HN2 := Lib.hid hne2
              have Z := KAt.new W2 (xBlk 13)
              have E1 := E.alloc (xBlk 13)
              have X1 := X.alloc (xBlk 13)
              obtain ⟨c0, c1, c2, c3, c4⟩ := E1.cells
              obtain ⟨z0, z1, z2, z3, z4, z5⟩ := Z.xcells
              unfold xBlk at c0 c1 c2 c3 c4 z0 z1 z2 z3 z4 z5
              clear E X hne2
              have E := Lib.hid E1
              have X := Lib.hid X1
              have Z := Lib.hid Z
              clear E1 X1
              go_wp2_with (first
                | (go_at_call 32; refine (CP.out _ _ _ _ _ E.out.qa E.out.wa (by decide) (by decide) (by decide)).mono ?_; rintro e w1 ⟨⟨_, rfl⟩, h1, h2⟩; have E := Lib.hid (E.out.step h1 h2); have X := Lib.hid (KAt.tch X.out (by decide) HN.out h2); have Z := Lib.hid (KAt.tch Z.out (by decide) HN2.out h2); clear h1 h2 c0 c1 c2 c3 c4 z0 z1 z2 z3 z4 z5; obtain ⟨c0, c1, c2, c3, c4⟩ := E.out.cells; obtain ⟨z0, z1, z2, z3, z4, z5⟩ := Z.out.xcells)
                | (go_at_call 34; refine (CS.out _ _ _ E.out.wa (by decide)).mono ?_; rintro e w1 ⟨⟨_, rfl⟩, h1, h2⟩; have E := Lib.hid (E.out.step h1 h2); have X := Lib.hid (KAt.tch X.out (by decide) HN.out h2); have Z := Lib.hid (KAt.tch Z.out (by decide) HN2.out h2); clear h1 h2 c0 c1 c2 c3 c4 z0 z1 z2 z3 z4 z5; obtain ⟨c0, c1, c2, c3, c4⟩ := E.out.cells; obtain ⟨z0, z1, z2, z3, z4, z5⟩ := Z.out.xcells)
                | (go_at_call 35; refine (CL.out _ _ _ _ E.out.wa (by decide)).mono ?_; rintro e w1 ⟨⟨_, rfl⟩, h1, h2⟩; have E := Lib.hid (E.out.step h1 h2); have X := Lib.hid (KAt.tch X.out (by decide) HN.out h2); have Z := Lib.hid (KAt.tch Z.out (by decide) HN2.out h2); clear h1 h2 c0 c1 c2 c3 c4 z0 z1 z2 z3 z4 z5; obtain ⟨c0, c1, c2, c3, c4⟩ := E.out.cells; obtain ⟨z0, z1, z2, z3, z4, z5⟩ := Z.out.xcells))
              go_roundw
              case rel => exact ⟨.inr (.inr ⟨rfl, E.out⟩), X.out⟩
              case measure => simp [intOf]
            ·
              obtain ⟨v, hv⟩ := E.wa
              obtain ⟨g, cap, rfl, q4, hg, hcells⟩ := wr19 hv rfl
              obtain ⟨b0, b1⟩ := hv.cells
              obtain ⟨c0, c1, c2, c3, c4⟩ := E.cells
              have HC19 := Lib.hid hcells
              clear hcells
              go_wp2_with fail
              go_roundw
              case rel => exact .inr ⟨rfl, E⟩
              case measure => simp [intOf]
        ·
          obtain ⟨v, hv⟩ := E.wa
          obtain ⟨g, cap, rfl, q4, hg, hcells⟩ := wr19 hv rfl
          obtain ⟨b0, b1⟩ := hv.cells
          obtain ⟨c0, c1, c2, c3, c4⟩ := E.cells
          have HC19 := Lib.hid hcells
          clear hcells
          go_wp2_with fail
          go_ret2
          exact ⟨_, _, rfl, q4, hg, HC19.out, E.be⟩
end Go.Proofs.Ytgbgahdeopedpaa
