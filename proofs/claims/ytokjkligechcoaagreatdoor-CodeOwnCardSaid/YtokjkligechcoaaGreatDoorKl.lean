/- Walks of layer 16: roots of a function without code, both sides. -/
import Derived.Test.YtokjkligechcoaaGreatDoorKg
import Derived.Test.YtokjkligechcoaaGreatDoorHb
set_option linter.unusedVariables false
namespace Go.Proofs.YtokjkligechcoaaGreatDoor
open _root_.Go.Lib (hid)
open Go.RowKit
attribute [local go_sem] ext_mk size_mk toList_mk get_mk take_drop_len take_tail_len ByteArray.mk_append_mk List.append_toArray
set_option maxHeartbeats 2000000 in
set_option maxRecDepth 8000 in
theorem rroots_nil (ca : Option Addr) (cc : Nat) (ps rs : Int) (w : World) :
  Calls Tryz.prog 40 #[.agg #[.int .i64 ps, .int .i64 rs, .slice ca 0 cc]] w fun e w' => (∃ v, e = .returned v) ∧ Below w.heap.size w w' := by
 have hmA : ∀ W, (Instr.makeSlice 148 (.int .i64 0) (.int .i64 0)).run Tryz.prog W = .ok (.slice (some ⟨W.heap.size, 0, none⟩) 0 0) (W.alloc (.cells (madeCells #[.slice none 0 0] 0) 133)) := fun W => run_make_row' (P := Tryz.prog) 148 133 (.slice none 0 0) 24 Tryz.underlying148 infoBools rfl .i64 .i64 0 (by omega) (by omega) W
 obtain ⟨fo, hfo⟩ : ∃ fo, Obj.cells #[.int .i64 ps, .int .i64 rs, .slice ca 0 cc] 48 (0, 0) = fo := ⟨_, rfl⟩
 have HFC : Hid (∀ V, KAt V w.heap.size fo → V.cell? ⟨w.heap.size, 2, none⟩ = some (.slice ca 0 cc)) := hid (by rw [← hfo]; exact fun V h => (fboxc h).2.2)
 obtain ⟨W1, hW1⟩ : ∃ W1, (w.alloc (.cells #[.int .i64 ps, .int .i64 rs, .slice ca 0 cc] 48)).alloc (.cells (madeCells #[.slice none 0 0] 0) 133) = W1 := ⟨_, rfl⟩
 have B1 := hid (show Below w.heap.size w W1 by rw [← hW1]; exact ((Below.refl _ _).alloc (Nat.le_refl _) _).alloc (by simp) _)
 have K1 := hid (show KAt W1 w.heap.size fo by rw [← hW1, ← hfo]; exact (KAt.new w _).alloc _)
 have f2 := HFC.out _ K1.out
 clear hfo
 go_enter Tryz.func40, Tryz.ntmps40
 go_wp2_with fail
 (try rw [hW1])
 go_loopw [3] (fun v3 wr => v3 = .int .i64 0 ∧ wr = W1) (fun _ _ => 0)
 case atStart => exact ⟨rfl, rfl⟩
 case round =>
  obtain ⟨rfl, rfl⟩ := hrel
  go_wp2_with fail
  go_loopw [4] (fun v4 wz => (v4 = .bool true ∨ v4 = .bool false) ∧ wz = wr) (fun v4 _ => match v4 with | .bool true => 1 | _ => 0)
  case atStart => exact ⟨.inl rfl, rfl⟩
  case round =>
   obtain ⟨hv, hw⟩ := hrel
   subst hw
   rcases hv with rfl | rfl
   ·go_wp2_with fail
    go_loopw [4, 5] (fun v4 v5 wz => v4 = .bool false ∧ v5 = .int .i64 (-1) ∧ wz = wr) (fun _ _ _ => 0)
    case atStart => exact ⟨rfl, rfl, rfl⟩
    case round =>
     obtain ⟨rfl, rfl, hw⟩ := hrel
     subst hw
     go_wp2_with fail
     go_roundw
     case rel => exact ⟨.inr rfl, trivial⟩
     case measure => simp
   ·go_wp2_with fail
    go_loopw [11] (fun v11 wz => v11 = .int .i64 0 ∧ wz = wr) (fun _ _ => 0)
    case atStart => exact ⟨rfl, rfl⟩
    case round =>
     obtain ⟨rfl, hw⟩ := hrel
     subst hw
     go_wp2_with fail
     go_end0
     exact ⟨⟨_, rfl⟩, B1.out⟩
set_option maxHeartbeats 8000000 in
set_option maxRecDepth 8000 in
theorem croots_nil (pw : Nat) (ca : Option Addr) (cc : Nat) (ps : Int) (rs : Nat) (w : World) (hrs : rs ≤ 4096) :
  Calls Tryz.prog 39 #[.pointer (some ⟨pw, 0, none⟩), .agg #[.int .i64 ps, .int .i64 (rs : Int), .slice ca 0 cc]] w fun e w' => (∃ v, e = .returned v) ∧ Below w.heap.size w w' := by
 obtain ⟨n, hn0⟩ : ∃ n, n = 0 := ⟨_, rfl⟩
 have hcn : n ≤ 65536 := by omega
 rw [show (Value.slice ca 0 cc) = .slice ca n cc by rw [hn0]]
 have HN0 := hid hn0
 clear hn0
 obtain ⟨m, hmm⟩ : ∃ m, wn rs = m := ⟨_, rfl⟩
 have hml : m ≤ 64 := by rw [← hmm]; unfold wn; omega
 have hmA : ∀ W, (Instr.makeSlice 139 (.int .i64 ((n : Int) + 1)) (.int .i64 ((n : Int) + 1))).run Tryz.prog W = .ok (.slice (some ⟨W.heap.size, 0, none⟩) (n + 1) (n + 1)) (W.alloc (.cells (madeCells #[.slice none 0 0] (n + 1)) 140)) := fun W => run_make_row' (P := Tryz.prog) 139 140 (.slice none 0 0) 24 Tryz.underlying139 infoRow rfl .i64 .i64 (n + 1) (by omega) (by omega) W
 have hmf : ∀ (fn : Fn) (first cap : Array Value) (w : World), (Instr.makeFunc fn first cap).run Tryz.prog w = .ok (.func fn first cap) w := fun _ _ _ _ => rfl
 have CNR : Hid (∀ W : World, Calls Tryz.prog 74 #[.int .i64 (rs : Int)] W fun e w' => ∃ g, e = .returned (.slice (some ⟨g, 0, none⟩) m m) ∧ W.heap.size ≤ g ∧ OwnAt w' g m 45 (u64s (wordsOf m 0)) ∧ Below W.heap.size W w') := hid (fun W => by rw [← hmm]; exact newRow_any rs (by omega) W)
 obtain ⟨fo, hfo⟩ : ∃ fo, Obj.cells #[.int .i64 ps, .int .i64 (rs : Int), .slice ca n cc] 48 (0, 0) = fo := ⟨_, rfl⟩
 obtain ⟨p, hp⟩ : ∃ p : Value, Value.pointer (some ⟨pw, 0, none⟩) = p := ⟨_, rfl⟩
 have HFO := hid hfo
 have HM := hid hmm
 obtain ⟨W1, hW1⟩ : ∃ W1, (((w.alloc (.cells #[.pointer (some ⟨pw, 0, none⟩)] 67)).alloc (.cells #[.int .i64 ps, .int .i64 (rs : Int), .slice ca n cc] 48)).alloc (.cells (madeCells #[.slice none 0 0] (n + 1)) 140)).alloc (.cells #[.slice (some ⟨w.heap.size + 1 + 1, 0, none⟩) (n + 1) (n + 1)] 139) = W1 := ⟨_, rfl⟩
 have hb0 : Below w.heap.size w W1 := by rw [← hW1]; exact ((((Below.refl _ _).alloc (Nat.le_refl _) _).alloc (by simp) _).alloc (by simp; omega) _).alloc (by simp; omega) _
 have kp : KAt W1 w.heap.size (.cells #[p] 67 (0, 0)) := by rw [← hW1, ← hp]; exact (((KAt.new w _).alloc _).alloc _).alloc _
 have kf : KAt W1 (w.heap.size + 1) fo := by
  have h := ((KAt.new (w.alloc (.cells #[.pointer (some ⟨pw, 0, none⟩)] 67)) (.cells #[.int .i64 ps, .int .i64 (rs : Int), .slice ca n cc] 48)).alloc (.cells (madeCells #[.slice none 0 0] (n + 1)) 140)).alloc (.cells #[.slice (some ⟨w.heap.size + 1 + 1, 0, none⟩) (n + 1) (n + 1)] 139)
  rw [hW1, show (w.alloc (.cells #[.pointer (some ⟨pw, 0, none⟩)] 67)).heap.size = w.heap.size + 1 from by simp] at h
  rw [← hfo]; exact h
 obtain ⟨Y, hY⟩ : ∃ Y, (w.alloc (.cells #[.pointer (some ⟨pw, 0, none⟩)] 67)).alloc (.cells #[.int .i64 ps, .int .i64 (rs : Int), .slice ca n cc] 48) = Y := ⟨_, rfl⟩
 have zY : Y.heap.size = w.heap.size + 1 + 1 := by rw [← hY]; simp
 have ki : KAt W1 (w.heap.size + 1 + 1 + 1) (.cells #[.slice (some ⟨w.heap.size + 1 + 1, 0, none⟩) (n + 1) (n + 1)] 139 (0, 0)) := by
  have h := KAt.new (Y.alloc (.cells (madeCells #[.slice none 0 0] (n + 1)) 140)) (.cells #[.slice (some ⟨w.heap.size + 1 + 1, 0, none⟩) (n + 1) (n + 1)] 139)
  rw [show (Y.alloc (.cells (madeCells #[.slice none 0 0] (n + 1)) 140)).heap.size = w.heap.size + 1 + 1 + 1 from by simp [zY]] at h
  rw [← hY, hW1] at h; exact h
 have ko : MkR W1 (w.heap.size + 1 + 1) m n 0 := by
  have o1 := (OwnAt.new Y (madeCells #[.slice none 0 0] (n + 1)) 140 (by rw [size_madeCells]; unfold maxLen; omega)).alloc (.cells #[.slice (some ⟨w.heap.size + 1 + 1, 0, none⟩) (n + 1) (n + 1)] 139)
  rw [size_madeCells, made_toList, zY, ← hY, hW1] at o1
  exact ⟨_, o1, by simp, fun k hk => absurd hk (Nat.not_lt_zero _), fun k _ hk => by simp [hk]⟩
 have S1 := hid (And.intro hb0 (And.intro kp (And.intro kf (And.intro ki ko))))
 have HFC : Hid (∀ V, KAt V (w.heap.size + 1) fo → V.cell? ⟨w.heap.size + 1, 0, none⟩ = some (.int .i64 ps) ∧ V.cell? ⟨w.heap.size + 1, 1, none⟩ = some (.int .i64 (rs : Int)) ∧ V.cell? ⟨w.heap.size + 1, 2, none⟩ = some (.slice ca n cc)) := hid (by rw [← hfo]; exact fun V h => fboxc h)
 have hrs0 : (0 : Int) ≤ (rs : Int) := by omega
 have HP := hid hp
 clear hfo hb0 kp kf ki ko hY zY hp hmm
 have j0 := pbox1 S1.out.2.2.2.1
 go_enter Tryz.func39, Tryz.ntmps39
 go_wp2_with fail
 (try rw [hW1])
 go_loopw [22] (fun v22 wr => ∃ i : Nat, v22 = .int .i64 (i : Int) ∧ i ≤ n + 1 ∧ Below w.heap.size w wr ∧ KAt wr w.heap.size (.cells #[p] 67 (0, 0)) ∧ KAt wr (w.heap.size + 1) fo ∧ KAt wr (w.heap.size + 1 + 1 + 1) (.cells #[.slice (some ⟨w.heap.size + 1 + 1, 0, none⟩) (n + 1) (n + 1)] 139 (0, 0)) ∧ MkR wr (w.heap.size + 1 + 1) m n i) (fun v22 _ => n + 1 - (intOf v22).toNat)
 case atStart => exact ⟨0, rfl, Nat.zero_le _, S1.out.1, S1.out.2.1, S1.out.2.2.1, S1.out.2.2.2.1, S1.out.2.2.2.2⟩
 case round =>
  clear S1 j0
  obtain ⟨i, rfl, hi, hb, kp, kf, ki, ko⟩ := hrel
  have HB := hid hb
  have KP := hid kp
  have KF := hid kf
  have KI := hid ki
  have KO := hid ko
  by_cases hlt : i < n + 1
  ·obtain ⟨f0, f1, f2⟩ := HFC.out _ kf
   have i0 := pbox1 ki
   obtain ⟨a0, a1⟩ := ko.cell hlt
   have it : ((i : Int)).toNat = i := Int.toNat_natCast i
   have hin : (i : Int) < (n : Int) + 1 := by omega
   clear hb kp kf ki ko
   go_wp2_with fail
   go_region_law (go_simp; go_at_call 74; refine (CNR.out _).mono ?_; rintro e w2 ⟨g, rfl, g1, g2, g3⟩; have hb2 : Below wr.heap.size wr w2 := (by first | exact g3 | exact ((Below.refl wr.heap.size wr).drew).trans g3); have B2 := hid hb2; have O2 := hid g2; have G2 := hid (show wr.heap.size ≤ g from g1); obtain ⟨p0, p1, p2⟩ := HFC.out _ (KF.out.below hb2); have q0 := pbox1 (KI.out.below hb2); obtain ⟨r0, r1⟩ := (KO.out.below hb2).cell hlt; clear g1 g2 g3 hb2)
   all_goals go_wp2_with fail
   all_goals
    go_roundw
    case rel => exact ⟨i + 1, by go_num, hlt, (HB.out.trans (B2.out.mono HB.out.size)).setCell (p := ⟨w.heap.size + 1 + 1, i, none⟩) (by show w.heap.size ≤ w.heap.size + 1 + 1; omega) _, (KP.out.below B2.out).put _ (by show w.heap.size ≠ w.heap.size + 1 + 1; omega) _, (KF.out.below B2.out).put _ (by show w.heap.size + 1 ≠ w.heap.size + 1 + 1; omega) _, (KI.out.below B2.out).put _ (by show w.heap.size + 1 + 1 + 1 ≠ w.heap.size + 1 + 1; omega) _, (KO.out.below B2.out).put hlt (by have := heap_lt KI.out.x; have := G2.out; omega) O2.out⟩
    case measure => simp only [intOf]; omega
  ·obtain rfl : i = n + 1 := by omega
   rw [show (((n + 1 : Nat)) : Int) = (n : Int) + 1 from rfl]
   clear kp kf ki ko hmA hlt hi KP KI KO
   obtain ⟨f0, f1, f2⟩ := HFC.out _ KF.out
   obtain rfl := HN0.out
   go_wp2_with fail
   go_loopw [7] (fun v7 wz => (v7 = .bool true ∨ v7 = .bool false) ∧ wz = wr) (fun v7 _ => match v7 with | .bool true => 1 | _ => 0)
   case atStart => exact ⟨.inl rfl, rfl⟩
   case round =>
    obtain ⟨hv, hw⟩ := hrel
    subst hw
    rcases hv with rfl | rfl
    ·go_wp2_with fail
     go_loopw [7, 8] (fun v7 v8 wz => v7 = .bool false ∧ v8 = .int .i64 (-1) ∧ wz = wr) (fun _ _ _ => 0)
     case atStart => exact ⟨rfl, rfl, rfl⟩
     case round =>
      obtain ⟨rfl, rfl, hw⟩ := hrel
      subst hw
      go_wp2_with fail
      go_roundw
      case rel => exact ⟨.inr rfl, trivial⟩
      case measure => simp
    ·go_wp2_with fail
     go_loopw [74] (fun v74 wz => v74 = .int .i64 0 ∧ wz = wr) (fun _ _ => 0)
     case atStart => exact ⟨rfl, rfl⟩
     case round =>
      obtain ⟨rfl, hw⟩ := hrel
      subst hw
      go_wp2_with fail
      go_end0
      exact ⟨⟨_, rfl⟩, HB.out⟩
section
/-- a function with its roots -/
noncomputable def rootF (f : Fu) : Fu := ⟨f.ps, f.rs, rootsC f.rs.toNat f.code⟩
/-- a program with its roots -/
noncomputable def rootP (P : Pg) : Pg := ⟨P.fs.map rootF, P.ss, P.us, P.en⟩
theorem rootsC_len (rs : Nat) (code : List In) : (rootsC rs code).length = code.length := by simp [rootsC]
theorem rootsC_nil (rs : Nat) : rootsC rs [] = [] := by simp [rootsC]
theorem good_okQ {P : Pg} {f : Fu} (h : GoodF P f) : OkQ f.rs.toNat f.code := by
 intro k x e
 have h1 := h.x k x e
 have h2 : ((f.rs.toNat : Nat) : Int) = f.rs := Int.toNat_of_nonneg (Int.le_trans h.ps h.le)
 rw [← h2] at h1
 exact form_okP h1 (List.getElem?_eq_some_iff.1 e).1
/-- blocks above one; a block of code is another one -/
def KNe (lo c : Nat) (b : Nat) (T : TypeId) : Prop := lo < b ∧ (T = 58 → b ≠ c)
theorem Kp.ne {lo c : Nat} {W V : World} {cs : Array Value} (hc : W.heap[c]? = some (.cells cs 58 (0, 0))) (hg : W.grownBy V (some c)) : Kp (KNe lo c) W V := by
 refine ⟨hg.size, fun b cs' T k e => ?_⟩
 have hb : b ≠ c := by
  rintro rfl
  rw [hc] at e
  simp only [Option.some.injEq, Obj.cells.injEq] at e
  exact k.2 e.2.1.symm rfl
 exact (hg.block b (heap_lt e) (fun r => hb (by injection r))).trans e
theorem KAt.gr {W V : World} {q c : Nat} {o : Obj} (h : KAt W q o) (hg : W.grownBy V (some c)) {cs : Array Value} (hc : W.heap[c]? = some (.cells cs 58 (0, 0))) (ho : o ≠ .cells cs 58 (0, 0)) : KAt V q o := by
 have hb : q ≠ c := by
  rintro rfl
  have e := h.x
  rw [hc] at e
  exact ho (by injection e with e; exact e.symm)
 exact ⟨(hg.block q (heap_lt h.x) (fun r => hb (by injection r))).trans h.x⟩
theorem FnV.ne {lo c : Nat} {W : World} {f : Fu} {r : Nat → Option Value} (h : FnV (KUp lo) W f r) (hc : ∀ b n k, r 2 = some (.slice (some ⟨b, 0, none⟩) n k) → f.code ≠ [] → b ≠ c) : FnV (KNe lo c) W f r := by
 obtain ⟨ca, cc, r0, r1, r2, r3, r4 | ⟨b, cs, r4, r5, r6, r7⟩⟩ := h
 ·exact ⟨ca, cc, r0, r1, r2, r3, .inl r4⟩
 ·by_cases q : f.code = []
  ·exact ⟨ca, cc, r0, r1, r2, r3, .inl q⟩
  ·exact ⟨ca, cc, r0, r1, r2, r3, .inr ⟨b, cs, r4, ⟨r5, fun _ => hc b _ _ (by rw [r2, r4]) q⟩, r6, fun i x e => (r7 i x e).wk (fun b _ k => ⟨k, fun e => absurd e (by decide)⟩)⟩⟩
theorem KNe.up {lo c : Nat} {b : Nat} {T : TypeId} (h : KNe lo c b T) : KUp lo b T := h.1
/-- of the functions those before i are as φ makes them, the others as ψ -/
structure MuS (lo : Nat) (φ ψ : Fu → Fu) (β γ : Prop) (W : World) (b : Nat) (cs : Array Value) (sa ra : Option Addr) (P : Pg) (i : Nat) : Prop where
 lb : lo < b
 b : W.heap[b]? = some (.cells cs 48 (0, 0))
 d : ∀ (j : Nat) f, P.fs[j]? = some f → j < i → FnV (KUp lo) W (φ f) (fun k => cs[j * 3 + k]?) ∧ (β → FnN W (φ f) (fun k => cs[j * 3 + k]?))
 t : ∀ (j : Nat) f, P.fs[j]? = some f → i ≤ j → FnV (KUp lo) W (ψ f) (fun k => cs[j * 3 + k]?) ∧ (γ → FnN W (ψ f) (fun k => cs[j * 3 + k]?))
 o : Srt P.fs cs.toList
 s : StrsK (KUp lo) W sa P.ss
 u : NumsK (KUp lo) 45 .u64 W ra P.us
/-- up to i the functions have their roots, from i on they have none -/
abbrev RoS (lo : Nat) := MuS lo rootF id False True
/-- up to i the functions' lists are nil -/
abbrev NiS (lo : Nat) := MuS lo (cpF true) id True False
theorem Srt.ne {fs : List Fu} {cs : Array Value} {i : Nat} {f : Fu} {c cc n0 : Nat} (o : Srt fs cs.toList) (hf : fs[i]? = some f) (hr : cs[i * 3 + 2]? = some (.slice (some ⟨c, 0, none⟩) n0 cc)) (hne : f.code ≠ []) (j : Nat) (g : Fu) (hj : fs[j]? = some g) (hgn : g.code ≠ []) (hji : j ≠ i) (b' n k : Nat) (e : cs[j * 3 + 2]? = some (.slice (some ⟨b', 0, none⟩) n k)) : b' ≠ c := by
 rcases Nat.lt_or_ge j i with r | r
 ·exact Nat.ne_of_lt (o j i g f ⟨b', 0, none⟩ ⟨c, 0, none⟩ n n0 k cc r hj hf hgn hne (by rw [Array.getElem?_toList]; exact e) (by rw [Array.getElem?_toList]; exact hr))
 ·exact Nat.ne_of_gt (o i j f g ⟨c, 0, none⟩ ⟨b', 0, none⟩ n0 n cc k (by omega) hf hj hne hgn (by rw [Array.getElem?_toList]; exact hr) (by rw [Array.getElem?_toList]; exact e))
section
variable {lo : Nat} {φ ψ : Fu → Fu} {β γ : Prop} {W V : World} {b : Nat} {cs : Array Value} {fa sa ra : Option Addr} {P : Pg} {i : Nat}
theorem RoS.start (h : PgD true (KUp lo) W fa sa ra P) (hn : P.fs ≠ []) : ∃ b cs, fa = some ⟨b, 0, none⟩ ∧ RoS lo W b cs sa ra P 0 := by
 rcases h.f.2 with q | ⟨b, cs, h1, h2, h3, h4, h5, h6⟩
 ·exact absurd q hn
 ·exact ⟨b, cs, h1, h2, h3, fun j f _ hj => absurd hj (Nat.not_lt_zero _), fun j f e _ => ⟨h4 j f e, fun _ => h6 rfl j f e⟩, h5, h.s, h.u⟩
theorem NiS.start {bare : Bool} (h : PgD bare (KUp lo) W fa sa ra P) (hn : P.fs ≠ []) : ∃ b cs, fa = some ⟨b, 0, none⟩ ∧ NiS lo W b cs sa ra P 0 := by
 rcases h.f.2 with q | ⟨b, cs, h1, h2, h3, h4, h5, h6⟩
 ·exact absurd q hn
 ·exact ⟨b, cs, h1, h2, h3, fun j f _ hj => absurd hj (Nat.not_lt_zero _), fun j f e _ => ⟨h4 j f e, fun q => q.elim⟩, h5, h.s, h.u⟩
theorem MuS.below (h : MuS lo φ ψ β γ W b cs sa ra P i) (hb : Below W.heap.size W V) : MuS lo φ ψ β γ V b cs sa ra P i :=
 ⟨h.lb, (hb.block b (heap_lt h.b)).trans h.b, fun j f e q => ⟨(h.d j f e q).1.kp (Kp.below hb), fun p => ((h.d j f e q).2 p).kp (h.d j f e q).1 (Kp.below hb)⟩, fun j f e q => ⟨(h.t j f e q).1.kp (Kp.below hb), fun p => ((h.t j f e q).2 p).kp (h.t j f e q).1 (Kp.below hb)⟩, h.o, h.s.kp (Kp.below hb), h.u.kp (Kp.below hb)⟩
/-- what lies at the function that is next -/
theorem MuS.next (h : MuS lo φ id β γ W b cs sa ra P i) {f : Fu} (hf : P.fs[i]? = some f) : ∃ ca cc, cs[i * 3]? = some (.int .i64 f.ps) ∧ cs[i * 3 + 1]? = some (.int .i64 f.rs) ∧ cs[i * 3 + 2]? = some (.slice ca f.code.length cc) ∧ f.code.length ≤ maxLen ∧
  (f.code = [] ∨ ∃ c ks, ca = some ⟨c, 0, none⟩ ∧ lo < c ∧ W.heap[c]? = some (.cells ks 58 (0, 0)) ∧ (∀ i x, f.code[i]? = some x → InV (KR (lo + 1) W.heap.size) W x (fun j => ks[i * 6 + j]?)) ∧ (γ → CbK (lo + 1) W.heap.size W c f.code 0)) := by
 obtain ⟨⟨ca, cc, r0, r1, r2, r3, r4⟩, hN⟩ := h.t i f hf (Nat.le_refl _)
 refine ⟨ca, cc, r0, r1, r2, r3, ?_⟩
 rcases r4 with r4 | ⟨c, ks, r4, r5, r6, r7⟩
 ·exact .inl r4
 ·by_cases q0 : f.code = []
  ·exact .inl q0
  ·have r8 : ∀ i x, f.code[i]? = some x → InV (KR (lo + 1) W.heap.size) W x (fun j => ks[i * 6 + j]?) := fun i x e => (r7 i x e).wk (fun b hb k => ⟨k, hb, rfl⟩)
   refine .inr ⟨c, ks, r4, r5, r6, r8, fun hg => ?_⟩
   rcases hN hg with q | ⟨c2, cc2, ks2, q1, q2, q3⟩
   ·exact absurd q q0
   ·have e : c2 = c := by
     dsimp only [id] at r2 q1
     rw [r2, r4] at q1
     simp at q1
     exact q1.1.symm
    subst e
    rw [r6] at q2
    simp only [Option.some.injEq, Obj.cells.injEq] at q2
    obtain ⟨q2, -⟩ := q2
    subst q2
    exact ⟨ks, r6, r8, fun k _ hk => q3 k hk⟩
theorem MuS.skip (h : MuS lo φ id β γ W b cs sa ra P i) {f : Fu} (hf : P.fs[i]? = some f) (hn : f.code = []) (hφ : φ f = f) : MuS lo φ id β γ W b cs sa ra P (i + 1) := by
 refine ⟨h.lb, h.b, fun j g e q => ?_, fun j g e q => h.t j g e (by omega), h.o, h.s, h.u⟩
 rcases Nat.lt_or_ge j i with r | r
 ·exact h.d j g e r
 ·obtain rfl : j = i := by omega
  rw [hf] at e; cases e
  have := (h.t j f hf (Nat.le_refl _)).1
  rw [hφ]; exact ⟨this, fun _ => .inl hn⟩
theorem MuS.step (h : MuS lo φ id β γ W b cs sa ra P i) (hφ : ∀ f : Fu, (φ f).code.length = f.code.length) {f : Fu} (hf : P.fs[i]? = some f) {c cc n0 : Nat} (hr : cs[i * 3 + 2]? = some (.slice (some ⟨c, 0, none⟩) n0 cc)) (hne : f.code ≠ []) {ks : Array Value} (hk : W.heap[c]? = some (.cells ks 58 (0, 0))) (hg : W.grownBy V (some c)) (hn : FnV (KUp lo) V (φ f) (fun k => cs[i * 3 + k]?) ∧ (β → FnN V (φ f) (fun k => cs[i * 3 + k]?))) : MuS lo φ id β γ V b cs sa ra P (i + 1) := by
 have kp : Kp (KNe lo c) W V := Kp.ne hk hg
 have hs := h.o.ne hf hr hne
 have hbc : b ≠ c := by
  rintro rfl
  have e := h.b
  rw [hk] at e
  simp only [Option.some.injEq, Obj.cells.injEq] at e
  exact absurd e.2.1 (by decide)
 refine ⟨h.lb, (hg.block b (heap_lt h.b) (fun r => hbc (by injection r))).trans h.b, fun j g e q => ?_, fun j g e q => ?_, h.o, (h.s.wk (fun b _ k => (⟨k, fun e => absurd e (by decide)⟩ : KNe lo c b _))).kp kp |>.wk (fun b _ k => k.up), (h.u.wk (fun b _ k => (⟨k, fun e => absurd e (by decide)⟩ : KNe lo c b _))).kp kp |>.wk (fun b _ k => k.up)⟩
 ·rcases Nat.lt_or_ge j i with r | r
  ·obtain ⟨t1, t2⟩ := h.d j g e r
   have t3 := FnV.ne (c := c) t1 (fun b' n k e2 hgn => hs j g e (by
    intro e3
    apply hgn
    have := hφ g
    rw [e3] at this
    exact List.length_eq_zero_iff.1 this) (by omega) b' n k e2)
   exact ⟨(t3.kp kp).wk (fun b _ k => k.up) (fun b _ k => k.up), fun p => (t2 p).kp t3 kp⟩
  ·obtain rfl : j = i := by omega
   rw [hf] at e; cases e
   exact hn
 ·obtain ⟨t1, t2⟩ := h.t j g e (by omega)
  have t3 := FnV.ne (c := c) t1 (fun b' n k e2 hgn => hs j g e hgn (by omega) b' n k e2)
  exact ⟨(t3.kp kp).wk (fun b _ k => k.up) (fun b _ k => k.up), fun p => (t2 p).kp t3 kp⟩
theorem rootF_len (f : Fu) : (rootF f).code.length = f.code.length := rootsC_len _ _
theorem rootF_nil {f : Fu} (h : f.code = []) : rootF f = f := by
 obtain ⟨ps, rs, code⟩ := f
 dsimp only at h
 subst h
 simp [rootF, rootsC_nil]
theorem cpF_nil {bare : Bool} {f : Fu} (h : f.code = []) : cpF bare f = f := by
 obtain ⟨ps, rs, code⟩ := f
 dsimp only at h
 subst h
 simp [cpF]
theorem cpF_len (bare : Bool) (f : Fu) : (cpF bare f).code.length = f.code.length := by simp [cpF]
theorem RoS.step (h : RoS lo W b cs sa ra P i) {f : Fu} (hf : P.fs[i]? = some f) {c cc : Nat} (hr : cs[i * 3 + 2]? = some (.slice (some ⟨c, 0, none⟩) f.code.length cc)) (hne : f.code ≠ []) (hc : CbK (lo + 1) W.heap.size W c f.code 0) (hlc : lo < c) (hg : W.grownBy V (some c)) (hn : CbK (lo + 1) V.heap.size V c (rootsC f.rs.toNat f.code) f.code.length) : RoS lo V b cs sa ra P (i + 1) := by
 obtain ⟨ks, hk, -⟩ := hc
 obtain ⟨ca', cc', r0, r1, r2, r3, -⟩ := (h.t i f hf (Nat.le_refl _)).1
 obtain ⟨ks2, hk2, hx2, -⟩ := hn
 refine MuS.step h rootF_len hf hr hne hk hg ⟨⟨ca', cc', r0, r1, by show _ = some (Value.slice ca' (rootsC f.rs.toNat f.code).length cc'); rw [rootsC_len]; exact r2, by show (rootsC f.rs.toNat f.code).length ≤ maxLen; rw [rootsC_len]; exact r3, .inr ⟨c, ks2, ?_, hlc, hk2, fun i x e => (hx2 i x e).wk (fun b _ k => k.1)⟩⟩, fun q => q.elim⟩
 dsimp only [id] at r2
 rw [hr] at r2
 simp at r2
 exact r2.1.symm
theorem RoS.done (h : RoS lo W b cs sa ra P P.fs.length) (hl : P.fs.length ≤ maxLen) (hz : ∀ u ∈ P.us, 0 ≤ u ∧ u < 18446744073709551616) : PgK (KUp lo) W (some ⟨b, 0, none⟩) sa ra (rootP P) := by
 refine ⟨⟨by simpa [rootP] using hl, .inr ⟨b, cs, rfl, h.lb, h.b, fun j f e => ?_⟩⟩, h.s, h.u, hz⟩
 have e2 : (P.fs.map rootF)[j]? = some f := e
 rw [List.getElem?_map] at e2
 cases e3 : P.fs[j]? with
 | none => rw [e3] at e2; cases e2
 | some g =>
  rw [e3] at e2
  cases e2
  exact (h.d j g e3 (List.getElem?_eq_some_iff.1 e3).1).1
theorem RoS.pg (h : RoS lo W b cs sa ra P 0) (hl : P.fs.length ≤ maxLen) (hz : ∀ u ∈ P.us, 0 ≤ u ∧ u < 18446744073709551616) : PgK (KUp lo) W (some ⟨b, 0, none⟩) sa ra P :=
 ⟨⟨hl, .inr ⟨b, cs, rfl, h.lb, h.b, fun j f e => (h.t j f e (Nat.zero_le _)).1⟩⟩, h.s, h.u, hz⟩
/-- of a function's code the first k lists are nil -/
def NkK (lo hi : Nat) (W : World) (c : Nat) (code : List In) (k : Nat) : Prop := ∃ ks, W.heap[c]? = some (.cells ks 58 (0, 0)) ∧ ∀ i x, code[i]? = some x → (i < k → InV (KR lo hi) W (cpI true x) (fun j => ks[i * 6 + j]?) ∧ ks[i * 6 + 5]? = some (Value.slice none 0 0)) ∧ (k ≤ i → InV (KR lo hi) W x (fun j => ks[i * 6 + j]?))
theorem NkK.put {lo hi c k : Nat} {code : List In} (h : NkK lo hi W c code k) (hk : k < code.length) : NkK lo hi (W.setCell ⟨c, k * 6 + 5, none⟩ (.slice none 0 0)) c code (k + 1) := by
 obtain ⟨ks, h1, h2⟩ := h
 have q : Kp (KR lo hi) W (W.setCell ⟨c, k * 6 + 5, none⟩ (.slice none 0 0)) := Kp.set _ _ (fun cs' T e q => by
  rw [h1] at e
  simp only [Option.some.injEq, Obj.cells.injEq] at e
  have := q.2.2
  rw [← e.2.1] at this
  exact absurd this (by decide))
 have hs : k * 6 + 5 < ks.size := by
  obtain ⟨la, lc, va, vc, -, -, -, -, -, r5, -⟩ := (h2 k _ (List.getElem?_eq_getElem hk)).2 (Nat.le_refl _)
  exact (Array.getElem?_eq_some_iff.1 r5).1
 refine ⟨ks.setIfInBounds (k * 6 + 5) (.slice none 0 0), heap_setCell_same _ _ _ _ _ _ h1, fun i x e => ⟨fun hi => ?_, fun hi => ?_⟩⟩
 ·rcases Nat.lt_or_ge i k with r | r
  ·obtain ⟨a1, a2⟩ := (h2 i x e).1 r
   exact ⟨(a1.kp q).same (fun j hj => by rw [Array.getElem?_setIfInBounds, if_neg (by omega)]), by rw [Array.getElem?_setIfInBounds, if_neg (by omega)]; exact a2⟩
  ·obtain rfl : i = k := by omega
   obtain ⟨la, lc, va, vc, r0, r1, r2, r3, r4, r5, n1, n2⟩ := ((h2 i x e).2 (Nat.le_refl _)).kp q
   have e5 : (ks.setIfInBounds (i * 6 + 5) (Value.slice none 0 0))[i * 6 + 5]? = some (Value.slice none 0 0) := by rw [Array.getElem?_setIfInBounds]; simp [hs]
   have en : ∀ j, j ≠ 5 → (ks.setIfInBounds (i * 6 + 5) (Value.slice none 0 0))[i * 6 + j]? = ks[i * 6 + j]? := fun j hj => by rw [Array.getElem?_setIfInBounds, if_neg (by omega)]
   exact ⟨⟨la, lc, none, 0, (en 0 (by decide)).trans r0, (en 1 (by decide)).trans r1, (en 2 (by decide)).trans r2, (en 3 (by decide)).trans r3, (en 4 (by decide)).trans r4, e5, n1, NumsK.nil _ _ _ _⟩, e5⟩
 ·exact (((h2 i x e).2 (by omega)).kp q).same (fun j hj => by rw [Array.getElem?_setIfInBounds, if_neg (by omega)])
theorem NkK.start {lo hi c : Nat} {code : List In} {ks : Array Value} (h : W.heap[c]? = some (.cells ks 58 (0, 0))) (hx : ∀ i x, code[i]? = some x → InV (KR lo hi) W x (fun j => ks[i * 6 + j]?)) : NkK lo hi W c code 0 :=
 ⟨ks, h, fun i x e => ⟨fun q => absurd q (Nat.not_lt_zero _), fun _ => hx i x e⟩⟩
theorem NkK.cell {lo hi c k : Nat} {code : List In} (h : NkK lo hi W c code k) (hk : k < code.length) : (∃ v, W.cell? ⟨c, k * 6 + 5, none⟩ = some v) ∧ W.frozen? ⟨c, k * 6 + 5, none⟩ = false := by
 obtain ⟨ks, h1, h2⟩ := h
 obtain ⟨la, lc, va, vc, -, -, -, -, -, r5, -⟩ := (h2 k _ (List.getElem?_eq_getElem hk)).2 (Nat.le_refl _)
 exact ⟨⟨_, by rw [cell_of_row _ _ _ _ _ _ h1]; exact r5⟩, frozen_of_row _ _ _ _ _ h1⟩
theorem NkK.lt {lo hi c k : Nat} {code : List In} (h : NkK lo hi W c code k) : c < W.heap.size := by obtain ⟨ks, h1, -⟩ := h; exact heap_lt h1
theorem NiS.step (h : NiS lo W b cs sa ra P i) {f : Fu} (hf : P.fs[i]? = some f) {c cc hi : Nat} (hr : cs[i * 3 + 2]? = some (.slice (some ⟨c, 0, none⟩) f.code.length cc)) (hne : f.code ≠ []) {ks : Array Value} (hk : W.heap[c]? = some (.cells ks 58 (0, 0))) (hlc : lo < c) (hg : W.grownBy V (some c)) (hn : NkK (lo + 1) hi V c f.code f.code.length) : NiS lo V b cs sa ra P (i + 1) := by
 obtain ⟨ca', cc', r0, r1, r2, r3, -⟩ := (h.t i f hf (Nat.le_refl _)).1
 obtain ⟨ks2, hk2, hx2⟩ := hn
 dsimp only [id] at r2
 rw [hr] at r2
 simp at r2
 obtain ⟨ec, ecc⟩ := r2
 subst ec
 have hx : ∀ (k : Nat) y, (cpF true f).code[k]? = some y → ∃ x, f.code[k]? = some x ∧ y = cpI true x := by
  intro k y e
  have e2 : (f.code.map (cpI true))[k]? = some y := e
  rw [List.getElem?_map] at e2
  cases e3 : f.code[k]? with
  | none => rw [e3] at e2; cases e2
  | some x => rw [e3] at e2; cases e2; exact ⟨x, rfl, rfl⟩
 refine MuS.step h (cpF_len true) hf hr hne hk hg ⟨⟨_, cc, r0, r1, by rw [cpF_len]; exact hr, by rw [cpF_len]; exact r3, .inr ⟨c, ks2, rfl, hlc, hk2, fun k y e => ?_⟩⟩, fun _ => .inr ⟨c, cc, ks2, by rw [cpF_len]; exact hr, hk2, fun k hk' => ?_⟩⟩
 ·obtain ⟨x, e1, rfl⟩ := hx k y e
  exact ((hx2 k x e1).1 (List.getElem?_eq_some_iff.1 e1).1).1.wk (fun b _ k => k.1)
 ·rw [cpF_len] at hk'
  exact ((hx2 k _ (List.getElem?_eq_getElem hk')).1 hk').2
theorem NiS.done (h : NiS lo W b cs sa ra P P.fs.length) : RoS lo W b cs sa ra (cpP true P) 0 := by
 have hx : ∀ (j : Nat) g, (cpP true P).fs[j]? = some g → ∃ f, P.fs[j]? = some f ∧ g = cpF true f := by
  intro j g e
  have e2 : (P.fs.map (cpF true))[j]? = some g := e
  rw [List.getElem?_map] at e2
  cases e3 : P.fs[j]? with
  | none => rw [e3] at e2; cases e2
  | some x => rw [e3] at e2; cases e2; exact ⟨x, rfl, rfl⟩
 have hne : ∀ f : Fu, (cpF true f).code ≠ [] → f.code ≠ [] := fun f q r => q (by rw [cpF_nil r]; exact r)
 refine ⟨h.lb, h.b, fun j g e q => absurd q (Nat.not_lt_zero _), fun j g e _ => ?_, ?_, h.s, h.u⟩
 ·obtain ⟨f, e1, rfl⟩ := hx j g e
  obtain ⟨a1, a2⟩ := h.d j f e1 (List.getElem?_eq_some_iff.1 e1).1
  exact ⟨a1, fun _ => a2 trivial⟩
 ·intro i j f g a c n m k l hij ef eg nf ng x1 x2
  obtain ⟨f', e1, rfl⟩ := hx i f ef
  obtain ⟨g', e2, rfl⟩ := hx j g eg
  exact h.o i j f' g' a c n m k l hij e1 e2 (hne f' nf) (hne g' ng) x1 x2
end
end
/-- what Roots answers, both sides -/
def RtsR (P : Pg) (w : World) (e : Ending) (w' : World) : Prop :=
 Below w.heap.size w w' ∧ (((formsL (cpP true P)).2.2 = 0 ∧ ∃ fa fc sa sc ra rc, e = .returned (.tuple #[.agg #[.slice fa P.fs.length fc, .slice sa P.ss.length sc, .slice ra P.us.length rc, .int .i64 P.en], .int .i64 0]) ∧ PgK (KUp w.heap.size) w' fa sa ra (rootP (cpP true P)))
 ∨ ((formsL (cpP true P)).2.2 ≠ 0 ∧ e = .returned (.tuple #[.agg #[.slice none 0 0, .slice none 0 0, .slice none 0 0, .int .i64 0], .int .i64 (formsL (cpP true P)).2.2])))
theorem below_gr {w W V : World} {c : Nat} (h : Below w.heap.size w W) (hg : W.grownBy V (some c)) (hc : w.heap.size ≤ c) : Below w.heap.size w V := h.grown hg h.size (fun k hk => by injection hk with hk; omega)
theorem bare_nil {P : Pg} {f : Fu} (h : f ∈ (cpP true P).fs) : ∀ x ∈ f.code, x.lv = [] := by
 obtain ⟨g, -, rfl⟩ := List.mem_map.1 (show f ∈ P.fs.map (cpF true) from h)
 intro x hx
 obtain ⟨y, -, rfl⟩ := List.mem_map.1 (show x ∈ g.code.map (cpI true) from hx)
 rfl
theorem row3 {W : World} {b i : Nat} {cs : Array Value} {T : TypeId} {x y z : Value} (h : W.heap[b]? = some (.cells cs T (0, 0))) (h0 : cs[i * 3]? = some x) (h1 : cs[i * 3 + 1]? = some y) (h2 : cs[i * 3 + 2]? = some z) : W.cell? ⟨b, i * 3, none⟩ = some x ∧ W.cell? ⟨b, i * 3 + 1, none⟩ = some y ∧ W.cell? ⟨b, i * 3 + 2, none⟩ = some z := by
 refine ⟨?_, ?_, ?_⟩ <;> (rw [cell_of_row _ _ _ _ _ _ h]; assumption)
theorem pgk_res {s : Nat} {W : World} {fa sa ra : Option Addr} {P : Pg} (h : PgK (KUp (s + 1)) W fa sa ra P) (a b c d : Value) : PgK (KUp s) ((((W.setCell ⟨s + 1, 0, none⟩ a).setCell ⟨s + 1, 1, none⟩ b).setCell ⟨s + 1, 2, none⟩ c).setCell ⟨s + 1, 3, none⟩ d) fa sa ra P := by
 have q : ∀ (W : World) i v, Kp (KUp (s + 1)) W (W.setCell ⟨s + 1, i, none⟩ v) := fun W i v => Kp.set ⟨s + 1, i, none⟩ v (fun _ _ _ h => Nat.lt_irrefl (s + 1) h)
 exact ((((h.kp (q _ 0 a)).kp (q _ 1 b)).kp (q _ 2 c)).kp (q _ 3 d)).wk (fun b T _ k => Nat.lt_of_succ_lt k)
set_option maxHeartbeats 8000000 in
set_option maxRecDepth 8000 in
theorem rrootsP_any (fa sa ra : Option Addr) (fc sc rc : Nat) (P : Pg) (w : World) (hP : PgAt w fa sa ra P) (hR : PgR P) :
  Calls Tryz.prog 17 #[.agg #[.slice fa P.fs.length fc, .slice sa P.ss.length sc, .slice ra P.us.length rc, .int .i64 P.en]] w (RtsR P w) := by
 have S := hid hP
 have CC := hid (fun W h => rcopy_srt true fa sa ra fc sc rc P W h hR)
 have CF := hid (fun fa sa ra fc sc rc W h => rforms_any fa sa ra fc sc rc (cpP true P) W h)
 have l1 : (cpP true P).fs.length = P.fs.length := by simp [cpP]
 have HU := hid (show ∀ u ∈ (cpP true P).us, 0 ≤ u ∧ u < 18446744073709551616 from hP.z)
 have LM := hid (show (cpP true P).fs.length ≤ maxLen by rw [l1]; exact hP.f.1)
 obtain ⟨Q, hQ⟩ : ∃ Q, cpP true P = Q := ⟨_, rfl⟩
 have HBN := hid (fun f (h : f ∈ Q.fs) => (show ∀ x ∈ f.code, x.lv = [] from bare_nil (P := P) (by rw [hQ]; exact h)))
 have l2 : Q.ss.length = P.ss.length := by rw [← hQ]; rfl
 have l3 : Q.us.length = P.us.length := by rw [← hQ]; rfl
 have l4 : Q.en = P.en := by rw [← hQ]; rfl
 unfold RtsR CpD at *
 rw [hQ] at l1 CF CC HU LM ⊢
 rw [l1, l2, l3, l4] at CF
 obtain ⟨nf, hnf⟩ : ∃ n, P.fs.length = n := ⟨_, rfl⟩
 obtain ⟨ns, hns⟩ : ∃ n, P.ss.length = n := ⟨_, rfl⟩
 obtain ⟨nu, hnu⟩ : ∃ n, P.us.length = n := ⟨_, rfl⟩
 obtain ⟨en, hen⟩ : ∃ n, P.en = n := ⟨_, rfl⟩
 rw [hnf, hns, hnu, hen] at CF CC ⊢
 rw [hnf] at l1
 have HL := hid l1
 obtain ⟨W0, hW0⟩ : ∃ W, (w.alloc (.cells #[.slice fa nf fc, .slice sa ns sc, .slice ra nu rc, .int .i64 en] 26)).alloc rzBlk = W := ⟨_, rfl⟩
 have hb0 : Below w.heap.size w W0 := by rw [← hW0]; exact ((Below.refl _ _).alloc (Nat.le_refl _) _).alloc (by simp) _
 have k0 : KAt W0 w.heap.size (.cells #[.slice fa nf fc, .slice sa ns sc, .slice ra nu rc, .int .i64 en] 26 (0, 0)) := by rw [← hW0]; exact (KAt.new w _).alloc _
 have k1 : KAt W0 (w.heap.size + 1) rzBlk := by
  have h := KAt.new (w.alloc (.cells #[.slice fa nf fc, .slice sa ns sc, .slice ra nu rc, .int .i64 en] 26)) rzBlk
  rw [show (w.alloc (.cells #[.slice fa nf fc, .slice sa ns sc, .slice ra nu rc, .int .i64 en] 26)).heap.size = w.heap.size + 1 from by simp] at h
  rw [← hW0]; exact h
 have B0 := hid hb0
 have K1 := hid k1
 obtain ⟨p0, p1, p2, p3⟩ := pbox_cells k0
 obtain ⟨⟨u1, u2, u3⟩, hu⟩ : ∃ t, formsL Q = t := ⟨_, rfl⟩
 have HFL := hid hu
 rw [hu] at CF ⊢
 clear hP hR hb0 k0 k1 hnf hns hnu hen l1 l2 l3 l4 hQ hu
 unfold rzBlk at hW0
 dsimp only at *
 have hi' : (Tryz.prog.info? 26).map (·.size) = some 4 := by kernel_rfl
 go_enter Tryz.func17, Tryz.ntmps17
 go_wp2_with fail
 try rw [hW0]
 by_cases h0 : u3 = 0
 rotate_left
 ·have k0 : (u3 != 0) = true := by simpa using h0
  go_wp2_with (first
   | (go_at_call 21; refine (CC.out _ (S.out.below B0.out)).mono ?_; rintro e w2 ⟨ga, gc, ta, tc, va, vc, rfl, hD, hb2⟩; have D2 := hid hD; have B2 := hid (B0.out.trans (hb2.mono B0.out.size)); have Z2 := hid (K1.out.below hb2); have KQ := hid (KAt.new w2 (.cells #[.slice ga nf gc, .slice ta ns tc, .slice va nu vc, .int .i64 en] 26 (0, 0))); have B3 := hid ((Below.refl w2.heap.size w2).alloc (Nat.le_refl _) (.cells #[.slice ga nf gc, .slice ta ns tc, .slice va nu vc, .int .i64 en] 26)); clear hD hb2 p0 p1 p2 p3)
   | (go_at_call 31; refine (CF.out _ _ _ _ _ _ _ ((D2.out.pg.at).below B3.out)).mono ?_; rintro e w3 ⟨rfl, hb3⟩; have B4 := hid ((B2.out.trans (B3.out.mono B2.out.size)).trans (hb3.mono (by have := B2.out.size; have := B3.out.size; omega))); have Z4 := hid ((Z2.out.below B3.out).below hb3); clear hb3; obtain ⟨z0, z1, z2, z3, y0, y1, y2, y3⟩ := Z4.out.zcells))
  (try simp only [Exit.inBlock, Exit.then]); refine bodyPost_ret (results_cell2 rfl _ _ (w.heap.size + 1) 26 _ (0, 0) _ rfl (p_set Z4.out _ _ _ _) Tryz.underlying26 rfl hi') rfl ?_
  exact ⟨(((B4.out.setCell (p := ⟨w.heap.size + 1, 0, none⟩) (Nat.le_succ _) _).setCell (p := ⟨w.heap.size + 1, 1, none⟩) (Nat.le_succ _) _).setCell (p := ⟨w.heap.size + 1, 2, none⟩) (Nat.le_succ _) _).setCell (p := ⟨w.heap.size + 1, 3, none⟩) (Nat.le_succ _) _, .inr ⟨h0, rfl⟩⟩
 subst h0
 obtain ⟨hz, hgood, hhead⟩ := formsL_good (p := Q) (by rw [HFL.out])
 have HG := hid hgood
 have hfn : 0 < nf := by have := (headB_len hhead).2.2.2.2; rw [HL.out] at this; omega
 have HNF := hid (show nf ≤ 65536 by have := (headB_len hhead).1; rw [HL.out] at this; exact this)
 clear hz hgood hhead HFL
 go_wp2_with (first
   | (go_at_call 21; refine (CC.out _ (S.out.below B0.out)).mono ?_; rintro e w2 ⟨ga, gc, ta, tc, va, vc, rfl, hD, hb2⟩; have D2 := hid hD; have B2 := hid (B0.out.trans (hb2.mono B0.out.size)); have Z2 := hid (K1.out.below hb2); have KQ := hid (KAt.new w2 (.cells #[.slice ga nf gc, .slice ta ns tc, .slice va nu vc, .int .i64 en] 26 (0, 0))); have B3 := hid ((Below.refl w2.heap.size w2).alloc (Nat.le_refl _) (.cells #[.slice ga nf gc, .slice ta ns tc, .slice va nu vc, .int .i64 en] 26)); clear hD hb2 p0 p1 p2 p3)
   | (go_at_call 31; refine (CF.out _ _ _ _ _ _ _ ((D2.out.pg.at).below B3.out)).mono ?_; rintro e w3 ⟨rfl, hb3⟩; have B4 := hid ((B2.out.trans (B3.out.mono B2.out.size)).trans (hb3.mono (by have := B2.out.size; have := B3.out.size; omega))); have Z4 := hid ((Z2.out.below B3.out).below hb3); have KQ4 := hid (KQ.out.below hb3); have D4 := hid ((D2.out.kp (Kp.below B3.out)).kp (Kp.below hb3)); clear hb3))
 have hd := D4.out.wk (K' := KUp (w.heap.size + 1)) (fun b T _ h => Nat.lt_of_le_of_lt (show w.heap.size + 1 ≤ W0.heap.size from Nat.le_of_lt (heap_lt K1.out.x)) h)
 obtain ⟨b, cs, rfl, hRS⟩ := RoS.start hd (by intro q; have := HL.out; rw [q] at this; simp at this; omega)
 have RS0 := hid hRS
 obtain ⟨q, hq⟩ : ∃ q, w2.heap.size = q := ⟨_, rfl⟩
 have KQ5 := hid (show KAt w3 q (.cells #[.slice (some ⟨b, 0, none⟩) nf gc, .slice ta ns tc, .slice va nu vc, .int .i64 en] 26 (0, 0)) by rw [← hq]; exact KQ4.out)
 rw [hq]
 clear hd hRS hq D4 D2 KQ KQ4 Z2 B2 B3 CC CF S K1 B0
 go_loopw [8] (fun v8 wr => ∃ i : Nat, v8 = .int .i64 (i : Int) ∧ i ≤ nf ∧ Below w.heap.size w wr ∧ KAt wr (w.heap.size + 1) rzBlk ∧ KAt wr q (.cells #[.slice (some ⟨b, 0, none⟩) nf gc, .slice ta ns tc, .slice va nu vc, .int .i64 en] 26 (0, 0)) ∧ RoS (w.heap.size + 1) wr b cs ta va Q i) (fun v8 _ => nf - (intOf v8).toNat)
 case atStart => exact ⟨0, rfl, Nat.zero_le _, B4.out, Z4.out, KQ5.out, RS0.out⟩
 case round =>
  clear B4 Z4 KQ5 RS0
  obtain ⟨i, rfl, hi, hb, hz, hk, hr⟩ := hrel
  have HB := hid hb
  have HZ := hid hz
  have HKQ := hid hk
  have HRS := hid hr
  obtain ⟨q0, q1, q2, q3⟩ := pbox_cells hk
  by_cases hlt : i < nf
  ·have hn6 := HNF.out
   have hil : i < Q.fs.length := by rw [HL.out]; exact hlt
   have hf : Q.fs[i]? = some Q.fs[i] := List.getElem?_eq_getElem hil
   obtain ⟨f, hfe⟩ : ∃ f, Q.fs[i] = f := ⟨_, rfl⟩
   rw [hfe] at hf
   have HF := hid hf
   have hgf := HG.out f (List.mem_of_getElem? hf)
   have hln := HBN.out f (List.mem_of_getElem? hf)
   have hok := good_okQ hgf
   obtain ⟨ca, cc, c0, c1, c2, c3, hcb⟩ := hr.next hf
   have C2 := hid c2
   obtain ⟨x0, x1, x2⟩ := row3 hr.b c0 c1 c2
   have it : ((i : Int)).toNat = i := Int.toNat_natCast i
   have hlo : w.heap.size + 1 + 1 ≤ wr.heap.size := by have := hr.lb; have := heap_lt hr.b; omega
   clear hfe hil c0 c1 c2 c3 hb hz hk hr
   by_cases hn : f.code = []
   ·have HN := hid hn
    rw [hn, List.length_nil] at x2
    have CR := hid (rroots_nil ca cc f.ps f.rs wr)
    clear hcb hok hgf hln hn
    go_wp2_with (go_at_call 40; refine CR.out.mono ?_; rintro e w5 ⟨⟨v, rfl⟩, hb5⟩; have B5 := hid hb5; clear hb5)
    go_roundw
    case rel => exact ⟨i + 1, by go_num, hlt, HB.out.trans (B5.out.mono HB.out.size), HZ.out.below B5.out, HKQ.out.below B5.out, (HRS.out.below B5.out).skip HF.out HN.out (rootF_nil HN.out)⟩
    case measure => simp only [intOf]; omega
   ·have HN := hid hn
    rcases hcb with r | ⟨c, ks, rfl, hc1, hc2, -, hc4⟩
    ·exact absurd r hn
    have HC := hid (hc4 trivial)
    have HLC := hid hc1
    have HKS := hid hc2
    have e2 : ((f.rs.toNat : Nat) : Int) = f.rs := Int.toNat_of_nonneg (Int.le_trans hgf.ps hgf.le)
    have CR := hid (rroots_any (w.heap.size + 1 + 1) c cc f.ps f.rs.toNat f.code wr (hc4 trivial) hlo hok hln (by have := hgf.rs; omega) hgf.cn)
    rw [e2] at CR
    clear hok hgf hln hn hc1 hc2 hc4
    go_wp2_with (go_at_call 40; refine CR.out.mono ?_; rintro e w5 ⟨⟨v, rfl⟩, hg5, hc5⟩; have G5 := hid hg5; have C5 := hid hc5; clear hg5 hc5)
    go_roundw
    case rel => exact ⟨i + 1, by go_num, hlt, below_gr HB.out G5.out (by have := HLC.out; omega), HZ.out.gr G5.out HKS.out (by unfold rzBlk; intro r; injection r with r1 r2; exact absurd r2 (by decide)), HKQ.out.gr G5.out HKS.out (by intro r; injection r with r1 r2; exact absurd r2 (by decide)), HRS.out.step HF.out C2.out HN.out HC.out HLC.out G5.out C5.out⟩
    case measure => simp only [intOf]; omega
  ·obtain rfl : i = nf := by omega
   rw [← HL.out] at hr
   have HD := hid (hr.done LM.out HU.out)
   obtain ⟨z0, z1, z2, z3, y0, y1, y2, y3⟩ := hz.zcells
   clear hb hz hk hr HRS
   go_wp2_with fail
   (try simp only [Exit.inBlock, Exit.then]); refine bodyPost_ret (results_cell2 rfl _ _ (w.heap.size + 1) 26 _ (0, 0) _ rfl (p_set HZ.out _ _ _ _) Tryz.underlying26 rfl hi') rfl ?_
   refine ⟨(((HB.out.setCell (p := ⟨w.heap.size + 1, 0, none⟩) (Nat.le_succ _) _).setCell (p := ⟨w.heap.size + 1, 1, none⟩) (Nat.le_succ _) _).setCell (p := ⟨w.heap.size + 1, 2, none⟩) (Nat.le_succ _) _).setCell (p := ⟨w.heap.size + 1, 3, none⟩) (Nat.le_succ _) _, _, gc, ta, tc, va, ⟨vc, rfl⟩, ?_⟩
   exact pgk_res HD.out _ _ _ _
end Go.Proofs.YtokjkligechcoaaGreatDoor
