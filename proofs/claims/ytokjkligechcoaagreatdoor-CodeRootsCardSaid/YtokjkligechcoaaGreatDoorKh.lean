/- Walks of layer 16: roots of a function without code, both sides. -/
import Derived.Test.YtokjkligechcoaaGreatDoorKg
namespace Go.Proofs.YtokjkligechcoaaGreatDoor
open Go.RowKit
set_option linter.unusedVariables false
attribute [local go_sem] ext_mk size_mk toList_mk get_mk take_drop_len take_tail_len ByteArray.mk_append_mk List.append_toArray

set_option maxHeartbeats 2000000 in
set_option maxRecDepth 8000 in
theorem rroots_nil (ca : Option Addr) (cc : Nat) (ps rs : Int) (w : World) :
    Calls Tryz.prog 40 #[.agg #[.int .i64 ps, .int .i64 rs, .slice ca 0 cc]] w fun e w' => (∃ v, e = .returned v) ∧ Below w.heap.size w w' := by
  have hmA : ∀ W, (Instr.makeSlice 148 (.int .i64 0) (.int .i64 0)).run Tryz.prog W = .ok (.slice (some ⟨W.heap.size, 0, none⟩) 0 0) (W.alloc (.cells (madeCells #[.slice none 0 0] 0) 133)) := fun W => run_make_row' (P := Tryz.prog) 148 133 (.slice none 0 0) 24 Tryz.underlying148 infoBools rfl .i64 .i64 0 (by omega) (by omega) W
  obtain ⟨fo, hfo⟩ : ∃ fo, Obj.cells #[.int .i64 ps, .int .i64 rs, .slice ca 0 cc] 48 (0, 0) = fo := ⟨_, rfl⟩
  have HFC : Hid (∀ V, KAt V w.heap.size fo → V.cell? ⟨w.heap.size, 2, none⟩ = some (.slice ca 0 cc)) := Lib.hid (by rw [← hfo]; exact fun V h => (fboxc h).2.2)
  obtain ⟨W1, hW1⟩ : ∃ W1, (w.alloc (.cells #[.int .i64 ps, .int .i64 rs, .slice ca 0 cc] 48)).alloc (.cells (madeCells #[.slice none 0 0] 0) 133) = W1 := ⟨_, rfl⟩
  have B1 := Lib.hid (show Below w.heap.size w W1 by rw [← hW1]; exact ((Below.refl _ _).alloc (Nat.le_refl _) _).alloc (by simp) _)
  have K1 := Lib.hid (show KAt W1 w.heap.size fo by rw [← hW1, ← hfo]; exact (KAt.new w _).alloc _)
  have f2 := HFC.out _ K1.out
  clear hfo
  go_enter Tryz.func40, Tryz.ntmps40
  go_wp2_with fail
  (try rw [hW1])
  go_loopw [3] (fun v3 wr => v3 = .int .i64 0 ∧ wr = W1) (fun _ _ => 0)
  case atStart => exact ⟨rfl, rfl⟩
  case round =>
    obtain ⟨rfl, rfl⟩ := hrel
    go_wp2_with fail
    go_loopw [4] (fun v4 wz => (v4 = .bool true ∨ v4 = .bool false) ∧ wz = wr) (fun v4 _ => match v4 with | .bool true => 1 | _ => 0)
    case atStart => exact ⟨.inl rfl, rfl⟩
    case round =>
      obtain ⟨hv, hw⟩ := hrel
      subst hw
      rcases hv with rfl | rfl
      · go_wp2_with fail
        go_loopw [4, 5] (fun v4 v5 wz => v4 = .bool false ∧ v5 = .int .i64 (-1) ∧ wz = wr) (fun _ _ _ => 0)
        case atStart => exact ⟨rfl, rfl, rfl⟩
        case round =>
          obtain ⟨rfl, rfl, hw⟩ := hrel
          subst hw
          go_wp2_with fail
          go_roundw
          case rel => exact ⟨.inr rfl, trivial⟩
          case measure => simp
      · go_wp2_with fail
        go_loopw [11] (fun v11 wz => v11 = .int .i64 0 ∧ wz = wr) (fun _ _ => 0)
        case atStart => exact ⟨rfl, rfl⟩
        case round =>
          obtain ⟨rfl, hw⟩ := hrel
          subst hw
          go_wp2_with fail
          go_end0
          exact ⟨⟨_, rfl⟩, B1.out⟩

set_option maxHeartbeats 8000000 in
set_option maxRecDepth 8000 in
theorem croots_nil (pw : Nat) (ca : Option Addr) (cc : Nat) (ps : Int) (rs : Nat) (w : World) (hrs : rs ≤ 4096) :
    Calls Tryz.prog 39 #[.pointer (some ⟨pw, 0, none⟩), .agg #[.int .i64 ps, .int .i64 (rs : Int), .slice ca 0 cc]] w fun e w' => (∃ v, e = .returned v) ∧ Below w.heap.size w w' := by
  obtain ⟨n, hn0⟩ : ∃ n, n = 0 := ⟨_, rfl⟩
  have hcn : n ≤ 65536 := by omega
  rw [show (Value.slice ca 0 cc) = .slice ca n cc by rw [hn0]]
  have HN0 := Lib.hid hn0
  clear hn0
  obtain ⟨m, hmm⟩ : ∃ m, wn rs = m := ⟨_, rfl⟩
  have hml : m ≤ 64 := by rw [← hmm]; unfold wn; omega
  have hmA : ∀ W, (Instr.makeSlice 139 (.int .i64 ((n : Int) + 1)) (.int .i64 ((n : Int) + 1))).run Tryz.prog W = .ok (.slice (some ⟨W.heap.size, 0, none⟩) (n + 1) (n + 1)) (W.alloc (.cells (madeCells #[.slice none 0 0] (n + 1)) 140)) := fun W => run_make_row' (P := Tryz.prog) 139 140 (.slice none 0 0) 24 Tryz.underlying139 infoRow rfl .i64 .i64 (n + 1) (by omega) (by omega) W
  have hmf : ∀ (fn : Fn) (first cap : Array Value) (w : World), (Instr.makeFunc fn first cap).run Tryz.prog w = .ok (.func fn first cap) w := fun _ _ _ _ => rfl
  have CNR : Hid (∀ W : World, Calls Tryz.prog 74 #[.int .i64 (rs : Int)] W fun e w' => ∃ g, e = .returned (.slice (some ⟨g, 0, none⟩) m m) ∧ W.heap.size ≤ g ∧ OwnAt w' g m 45 (u64s (wordsOf m 0)) ∧ Below W.heap.size W w') := Lib.hid (fun W => by rw [← hmm]; exact newRow_any rs (by omega) W)
  obtain ⟨fo, hfo⟩ : ∃ fo, Obj.cells #[.int .i64 ps, .int .i64 (rs : Int), .slice ca n cc] 48 (0, 0) = fo := ⟨_, rfl⟩
  obtain ⟨p, hp⟩ : ∃ p : Value, Value.pointer (some ⟨pw, 0, none⟩) = p := ⟨_, rfl⟩
  have HFO := Lib.hid hfo
  have HM := Lib.hid hmm
  obtain ⟨W1, hW1⟩ : ∃ W1, (((w.alloc (.cells #[.pointer (some ⟨pw, 0, none⟩)] 67)).alloc (.cells #[.int .i64 ps, .int .i64 (rs : Int), .slice ca n cc] 48)).alloc (.cells (madeCells #[.slice none 0 0] (n + 1)) 140)).alloc (.cells #[.slice (some ⟨w.heap.size + 1 + 1, 0, none⟩) (n + 1) (n + 1)] 139) = W1 := ⟨_, rfl⟩
  have hb0 : Below w.heap.size w W1 := by rw [← hW1]; exact ((((Below.refl _ _).alloc (Nat.le_refl _) _).alloc (by simp) _).alloc (by simp; omega) _).alloc (by simp; omega) _
  have kp : KAt W1 w.heap.size (.cells #[p] 67 (0, 0)) := by rw [← hW1, ← hp]; exact (((KAt.new w _).alloc _).alloc _).alloc _
  have kf : KAt W1 (w.heap.size + 1) fo := by
    have h := ((KAt.new (w.alloc (.cells #[.pointer (some ⟨pw, 0, none⟩)] 67)) (.cells #[.int .i64 ps, .int .i64 (rs : Int), .slice ca n cc] 48)).alloc (.cells (madeCells #[.slice none 0 0] (n + 1)) 140)).alloc (.cells #[.slice (some ⟨w.heap.size + 1 + 1, 0, none⟩) (n + 1) (n + 1)] 139)
    rw [hW1, show (w.alloc (.cells #[.pointer (some ⟨pw, 0, none⟩)] 67)).heap.size = w.heap.size + 1 from by simp] at h
    rw [← hfo]; exact h
  obtain ⟨Y, hY⟩ : ∃ Y, (w.alloc (.cells #[.pointer (some ⟨pw, 0, none⟩)] 67)).alloc (.cells #[.int .i64 ps, .int .i64 (rs : Int), .slice ca n cc] 48) = Y := ⟨_, rfl⟩
  have zY : Y.heap.size = w.heap.size + 1 + 1 := by rw [← hY]; simp
  have ki : KAt W1 (w.heap.size + 1 + 1 + 1) (.cells #[.slice (some ⟨w.heap.size + 1 + 1, 0, none⟩) (n + 1) (n + 1)] 139 (0, 0)) := by
    have h := KAt.new (Y.alloc (.cells (madeCells #[.slice none 0 0] (n + 1)) 140)) (.cells #[.slice (some ⟨w.heap.size + 1 + 1, 0, none⟩) (n + 1) (n + 1)] 139)
    rw [show (Y.alloc (.cells (madeCells #[.slice none 0 0] (n + 1)) 140)).heap.size = w.heap.size + 1 + 1 + 1 from by simp [zY]] at h
    rw [← hY, hW1] at h; exact h
  have ko : MkR W1 (w.heap.size + 1 + 1) m n 0 := by
    have o1 := (OwnAt.new Y (madeCells #[.slice none 0 0] (n + 1)) 140 (by rw [size_madeCells]; unfold maxLen; omega)).alloc (.cells #[.slice (some ⟨w.heap.size + 1 + 1, 0, none⟩) (n + 1) (n + 1)] 139)
    rw [size_madeCells, made_toList, zY, ← hY, hW1] at o1
    exact ⟨_, o1, by simp, fun k hk => absurd hk (Nat.not_lt_zero _), fun k _ hk => by simp [hk]⟩
  have S1 := Lib.hid (And.intro hb0 (And.intro kp (And.intro kf (And.intro ki ko))))
  have HFC : Hid (∀ V, KAt V (w.heap.size + 1) fo → V.cell? ⟨w.heap.size + 1, 0, none⟩ = some (.int .i64 ps) ∧ V.cell? ⟨w.heap.size + 1, 1, none⟩ = some (.int .i64 (rs : Int)) ∧ V.cell? ⟨w.heap.size + 1, 2, none⟩ = some (.slice ca n cc)) := Lib.hid (by rw [← hfo]; exact fun V h => fboxc h)
  have hrs0 : (0 : Int) ≤ (rs : Int) := by omega
  have HP := Lib.hid hp
  clear hfo hb0 kp kf ki ko hY zY hp hmm
  have j0 := pbox1 S1.out.2.2.2.1
  go_enter Tryz.func39, Tryz.ntmps39
  go_wp2_with fail
  (try rw [hW1])
  go_loopw [22] (fun v22 wr => ∃ i : Nat, v22 = .int .i64 (i : Int) ∧ i ≤ n + 1 ∧ Below w.heap.size w wr ∧ KAt wr w.heap.size (.cells #[p] 67 (0, 0)) ∧ KAt wr (w.heap.size + 1) fo ∧ KAt wr (w.heap.size + 1 + 1 + 1) (.cells #[.slice (some ⟨w.heap.size + 1 + 1, 0, none⟩) (n + 1) (n + 1)] 139 (0, 0)) ∧ MkR wr (w.heap.size + 1 + 1) m n i) (fun v22 _ => n + 1 - (intOf v22).toNat)
  case atStart => exact ⟨0, rfl, Nat.zero_le _, S1.out.1, S1.out.2.1, S1.out.2.2.1, S1.out.2.2.2.1, S1.out.2.2.2.2⟩
  case round =>
    clear S1 j0
    obtain ⟨i, rfl, hi, hb, kp, kf, ki, ko⟩ := hrel
    have HB := Lib.hid hb
    have KP := Lib.hid kp
    have KF := Lib.hid kf
    have KI := Lib.hid ki
    have KO := Lib.hid ko
    by_cases hlt : i < n + 1
    · obtain ⟨f0, f1, f2⟩ := HFC.out _ kf
      have i0 := pbox1 ki
      obtain ⟨a0, a1⟩ := ko.cell hlt
      have it : ((i : Int)).toNat = i := Int.toNat_natCast i
      have hin : (i : Int) < (n : Int) + 1 := by omega
      clear hb kp kf ki ko
      go_wp2_with fail
      go_region_law (go_simp; go_at_call 74; refine (CNR.out _).mono ?_; rintro e w2 ⟨g, rfl, g1, g2, g3⟩; have hb2 : Below wr.heap.size wr w2 := (by first | exact g3 | exact ((Below.refl wr.heap.size wr).drew).trans g3); have B2 := Lib.hid hb2; have O2 := Lib.hid g2; have G2 := Lib.hid (show wr.heap.size ≤ g from g1); obtain ⟨p0, p1, p2⟩ := HFC.out _ (KF.out.below hb2); have q0 := pbox1 (KI.out.below hb2); obtain ⟨r0, r1⟩ := (KO.out.below hb2).cell hlt; clear g1 g2 g3 hb2)
      all_goals go_wp2_with fail
      all_goals
        go_roundw
        case rel => exact ⟨i + 1, by go_num, hlt, (HB.out.trans (B2.out.mono HB.out.size)).setCell (p := ⟨w.heap.size + 1 + 1, i, none⟩) (by show w.heap.size ≤ w.heap.size + 1 + 1; omega) _, (KP.out.below B2.out).put _ (by show w.heap.size ≠ w.heap.size + 1 + 1; omega) _, (KF.out.below B2.out).put _ (by show w.heap.size + 1 ≠ w.heap.size + 1 + 1; omega) _, (KI.out.below B2.out).put _ (by show w.heap.size + 1 + 1 + 1 ≠ w.heap.size + 1 + 1; omega) _, (KO.out.below B2.out).put hlt (by have := heap_lt KI.out.x; have := G2.out; omega) O2.out⟩
        case measure => simp only [intOf]; omega
    · obtain rfl : i = n + 1 := by omega
      rw [show (((n + 1 : Nat)) : Int) = (n : Int) + 1 from rfl]
      clear kp kf ki ko hmA hlt hi KP KI KO
      obtain ⟨f0, f1, f2⟩ := HFC.out _ KF.out
      obtain rfl := HN0.out
      go_wp2_with fail
      go_loopw [7] (fun v7 wz => (v7 = .bool true ∨ v7 = .bool false) ∧ wz = wr) (fun v7 _ => match v7 with | .bool true => 1 | _ => 0)
      case atStart => exact ⟨.inl rfl, rfl⟩
      case round =>
        obtain ⟨hv, hw⟩ := hrel
        subst hw
        rcases hv with rfl | rfl
        · go_wp2_with fail
          go_loopw [7, 8] (fun v7 v8 wz => v7 = .bool false ∧ v8 = .int .i64 (-1) ∧ wz = wr) (fun _ _ _ => 0)
          case atStart => exact ⟨rfl, rfl, rfl⟩
          case round =>
            obtain ⟨rfl, rfl, hw⟩ := hrel
            subst hw
            go_wp2_with fail
            go_roundw
            case rel => exact ⟨.inr rfl, trivial⟩
            case measure => simp
        · go_wp2_with fail
          go_loopw [74] (fun v74 wz => v74 = .int .i64 0 ∧ wz = wr) (fun _ _ => 0)
          case atStart => exact ⟨rfl, rfl⟩
          case round =>
            obtain ⟨rfl, hw⟩ := hrel
            subst hw
            go_wp2_with fail
            go_end0
            exact ⟨⟨_, rfl⟩, HB.out⟩
end Go.Proofs.YtokjkligechcoaaGreatDoor
