/- Walks of layer 21: lines in the reference; lines as a text. -/
import Derived.Test.YtkjdigojajcgkaaDoorPw7
namespace Go.Proofs.YtkjdigojajcgkaaDoor
open Go.RowKit
open Pt (Oc)
set_option linter.unusedVariables false
attribute [local go_sem] ext_mk size_mk toList_mk get_mk take_drop_len take_tail_len ByteArray.mk_append_mk List.append_toArray

theorem infoStr : (Tryd.prog.info? 9).map (fun i => (i.zero, i.size, i.bytes)) = some (some (.string ByteArray.empty), 1, 16) := by kernel_rfl

def strCells (ls : List (List UInt8)) : List Value := ls.map fun l => .string ⟨l.toArray⟩

theorem addr_add (g i : Nat) : (⟨g, 0, none⟩ : Addr).add i = ⟨g, i, none⟩ := by
  unfold Addr.add; split <;> simp_all

/-- v is a row of the call's own (from block base on) that holds these strings. -/
def OwnS (w : World) (base : Nat) (v : Value) (ls : List (List UInt8)) : Prop := w.ownsRow base 9 1 v ls.length (strCells ls)

theorem OwnS.nil (w : World) (base : Nat) : OwnS w base (.slice none 0 0) [] := ⟨by simp [strCells], .inl ⟨rfl, rfl⟩⟩

theorem OwnS.form {w : World} {base : Nat} {v : Value} {ls : List (List UInt8)} (h : OwnS w base v ls) (hl : ls.length ≤ 140737488355328) : ∃ a cap, v = .slice a ls.length cap ∧ ls.length ≤ cap ∧ StrsAt w a ls := by
  have hh := h
  obtain ⟨h0, ⟨rfl, h1⟩ | ⟨g, cap, cur, rfl, h2, h3, h4, h5, h6, h7⟩⟩ := h
  · have : ls = [] := List.eq_nil_of_length_eq_zero h1
    subst this
    exact ⟨none, 0, rfl, Nat.le_refl _, by simp, .inl rfl⟩
  · have hlt : g < w.heap.size := by
      rcases Nat.lt_or_ge g w.heap.size with h | h
      · exact h
      · rw [Array.getElem?_eq_none h] at h3; cases h3
    refine ⟨_, cap, rfl, h4, hl, .inr ⟨g, 0, rfl, hlt, fun i hi => ?_⟩⟩
    have := hh.cells (g := g) rfl i (.string ⟨(ls.getD i []).toArray⟩) (by unfold strCells; simp [List.getD, hi])
    rw [addr_add] at this
    simpa using this

theorem app_strs {w : World} {ops : Array Oper} {rest : List Oper} {o : Oper} {a : Act} {Q : Exit → Act → World → Prop} {base : Nat} {v : Value} {ls : List (List UInt8)} (hown : OwnS w base v ls) (hgd : o.guard = none) (sl x : Operand)
    (ho : o.op = .call { callee := .builtin .append, args := #[sl, x], argTypes := #[22, 22] })
    (s : List UInt8) (T : TypeId) (hs : a.eval sl = v) (hx : a.eval x = .slice (some ⟨w.heap.size, 0, none⟩) 1 1)
    (hb : ls.length + 1 ≤ 8796093022208) (hbase : base ≤ w.heap.size)
    (h : ∀ v' w', OwnS w' base v' (ls ++ [s]) → Below base w w' → wpList Tryd.prog ops Q rest (a.put o.dst v') w') : wpList Tryd.prog ops Q (o :: rest) a (w.alloc (.cells #[.string ⟨s.toArray⟩] T)) := by
  obtain ⟨i0, hi, hz0, hz1, hz2⟩ := info_parts infoStr
  have hb0 : Below w.heap.size w (w.alloc (.cells #[.string ⟨s.toArray⟩] T)) := (Below.refl _ _).alloc (Nat.le_refl _) _
  have hown1 : OwnS (w.alloc (.cells #[.string ⟨s.toArray⟩] T)) base v ls := by
    obtain ⟨h0, ⟨rfl, h1⟩ | ⟨g, cap, cur, rfl, h2, h3, h4⟩⟩ := hown
    · exact ⟨h0, .inl ⟨rfl, h1⟩⟩
    · have hlt : g < w.heap.size := by
        rcases Nat.lt_or_ge g w.heap.size with h | h
        · exact h
        · rw [Array.getElem?_eq_none h] at h3; cases h3
      exact ⟨h0, .inr ⟨g, cap, cur, rfl, h2, by rw [hb0.block g hlt]; exact h3, h4⟩⟩
  refine wpList_append_own _ hgd sl x 22 ho base 9 i0 (.string ByteArray.empty) 1 16 Tryd.underlying22 hi hz0 hz1 hz2 rfl (by decide) v ls.length (strCells ls) hs hown1 ⟨w.heap.size, 0, none⟩ 1 1 [.string ⟨s.toArray⟩] hx rfl ?_ (by intro u hu; simp at hu; subst hu; rfl) ?_ ?_ (Nat.le_trans hbase hb0.size) ?_
  · intro j u hj
    match j, hj with
    | 0, hj => simp at hj; subst hj; simp [Addr.add]
    | j + 1, hj => simp at hj
  · unfold maxLen; omega
  · omega
  · intro v' w' h1 h2 _
    refine h v' w' ?_ ((hb0.mono hbase).trans ((Below.refl base _).grown h2 (Nat.le_trans hbase hb0.size) (fun k hk => (hown1.lt k hk).1)))
    unfold OwnS
    rw [List.length_append]
    have e : strCells (ls ++ [s]) = strCells ls ++ [.string ⟨s.toArray⟩] := by simp [strCells]
    rw [e]; exact h1

theorem drop_take_eq (l : List UInt8) (f k : Nat) : (l.take k).drop f = (l.drop f).take (k - f) := List.drop_take

theorem lines_many {l : List UInt8} {p : List (List UInt8)} (hl : l.length ≤ 1048576) (hp : Pt.linesL l = p) (h : 65536 < p.length) : Pt.linesE l = 3 := by unfold Pt.linesE; rw [if_pos hl, hp, if_neg (by omega)]

theorem lines_fine {l : List UInt8} {p : List (List UInt8)} (hl : l.length ≤ 1048576) (hp : Pt.linesL l = p) (h : p.length ≤ 65536) : Pt.linesE l = 0 ∧ Pt.linesB l = p := by
  have : Pt.linesE l = 0 := by unfold Pt.linesE; rw [if_pos hl, hp, if_pos h]
  exact ⟨this, by unfold Pt.linesB; rw [if_pos this, hp]⟩

set_option maxHeartbeats 2000000 in
set_option maxRecDepth 100000 in
theorem rlines_any (l : List UInt8) (w : World) (hl0 : l.length ≤ 140737488351232) : Calls Tryd.prog 18 #[.string ⟨l.toArray⟩] w (LinesR w l) := by
  by_cases h1 : 1048576 < l.length
  · have HE := Lib.hid (show Pt.linesE l = 2 by unfold Pt.linesE; rw [if_neg (by omega)])
    go_enter Tryd.func18, Tryd.ntmps18
    go_wp2
    go_ret2
    exact LinesR.no HE.out (by decide) (Below.refl _ _)
  · have hl : l.length ≤ 1048576 := by omega
    go_enter Tryd.func18, Tryd.ntmps18
    go_wp2_with fail
    go_loopw [4, 5, 6] (fun vl vf vi wr => ∃ (k f : Nat) (d : List (List UInt8)), vi = .int .i64 k ∧ vf = .int .i64 f ∧ k ≤ l.length ∧ f ≤ k ∧ d.length ≤ k ∧ OwnS wr w.heap.size vl d ∧ Below w.heap.size w wr ∧ Hid (SplitAt l k f d)) (fun _ _ vi _ => l.length - (intOf vi).toNat)
    case atStart => exact ⟨0, 0, [], rfl, rfl, by omega, by omega, by simp, OwnS.nil _ _, Below.refl _ _, Lib.hid (SplitAt.start l)⟩
    case round =>
      obtain ⟨k, f, d, rfl, rfl, hk, hf, hd, hown, hbw, HS⟩ := hrel
      have hsz := hbw.size
      by_cases hlt : k < l.length
      · obtain ⟨x, hxl⟩ : ∃ x, l[k] = x := ⟨_, rfl⟩
        have hx : l[k]? = some x := by rw [List.getElem?_eq_getElem hlt, hxl]
        by_cases h10 : x = 10
        · subst h10
          have hn := HS.out.nl hx
          rw [drop_take_eq] at hn
          have HN := Lib.hid hn
          clear hx hn
          go_wp2_with (at_builtin; refine app_strs hown rfl _ _ rfl ((l.drop f).take (k - f)) _ rfl rfl (by omega) hsz ?_; intro v' w1 hown1 hb1)
          go_roundw
          case rel => exact ⟨k + 1, k + 1, _, by go_num, by go_num, by omega, by omega, by simp; omega, hown1, hbw.trans hb1, HN⟩
          case measure => simp [intOf]; omega
        · have HN := Lib.hid (HS.out.no hx h10)
          have k1 : ((x.toNat : Int) == 10) = false := St.nbeq (y := 10) h10
          clear hx h10
          go_wp2_with fail
          go_roundw
          case rel => exact ⟨k + 1, f, d, by go_num, rfl, by omega, by omega, by omega, hown, hbw, HN⟩
          case measure => simp [intOf]; omega
      · obtain rfl : k = l.length := by omega
        have hs := HS.out.2
        rw [List.take_length] at hs
        have hll := Pt.linesL_of hs
        by_cases hfl : f < l.length
        · rw [if_neg (by intro e; have := congrArg List.length e; simp at this; omega)] at hll
          have HL := Lib.hid hll
          have hdl : (d ++ [l.drop f]).length = d.length + 1 := by simp
          clear hs hll
          by_cases hmany : 65536 < (d ++ [l.drop f]).length
          · have HE := Lib.hid (lines_many hl HL.out hmany)
            go_wp2_with (at_builtin; refine app_strs hown rfl _ _ rfl (l.drop f) _ rfl rfl (by omega) hsz ?_; intro v' w1 hown1 hb1; obtain ⟨q, hq⟩ : ∃ q, d ++ [l.drop f] = q := ⟨_, rfl⟩; rw [hq] at hown1 hmany hdl; obtain ⟨p1, c1, rfl, hc1, hs1⟩ := hown1.form (by omega); clear hq hdl)
            go_ret2
            exact LinesR.no HE.out (by decide) (hbw.trans hb1)
          · have HE := Lib.hid (lines_fine hl HL.out (by omega))
            go_wp2_with (at_builtin; refine app_strs hown rfl _ _ rfl (l.drop f) _ rfl rfl (by omega) hsz ?_; intro v' w1 hown1 hb1; obtain ⟨q, hq⟩ : ∃ q, d ++ [l.drop f] = q := ⟨_, rfl⟩; rw [hq] at hown1 hmany hdl HE; obtain ⟨p1, c1, rfl, hc1, hs1⟩ := hown1.form (by omega); clear hq hdl)
            go_ret2
            exact ⟨p1, c1, by rw [HE.out.2, HE.out.1]; rfl, by rw [HE.out.2]; exact hs1, by rw [HE.out.2]; exact hc1, hbw.trans hb1⟩
        · rw [if_pos (List.drop_eq_nil_of_le (by omega))] at hll
          have HL := Lib.hid hll
          obtain ⟨p1, c1, rfl, hc1, hs1⟩ := hown.form (by omega)
          clear hs hll
          by_cases hmany : 65536 < d.length
          · have HE := Lib.hid (lines_many hl HL.out hmany)
            go_wp2_with fail
            go_ret2
            exact LinesR.no HE.out (by decide) hbw
          · have HE := Lib.hid (lines_fine hl HL.out (by omega))
            go_wp2_with fail
            go_ret2
            exact ⟨p1, c1, by rw [HE.out.2, HE.out.1]; rfl, by rw [HE.out.2]; exact hs1, by rw [HE.out.2]; exact hc1, hbw⟩
end Go.Proofs.YtkjdigojajcgkaaDoor
