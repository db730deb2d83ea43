/- Walks of layer 16: copies of rows, whatever they hold. -/
import Derived.Test.YtokjkligechcoaaGreatDoorHb
namespace Go.Proofs.YtokjkligechcoaaGreatDoor
open Go.RowKit
set_option linter.unusedVariables false
attribute [local go_sem] ext_mk size_mk toList_mk get_mk take_drop_len take_tail_len ByteArray.mk_append_mk List.append_toArray

theorem clone_strs_none (cap : Nat) (w : World) : Calls Tryz.prog 94 #[.slice none 0 cap] w fun x w' => x = .returned (.slice none 0 0) ∧ w' = w := by
  have hq := fun W => eqn_none2 23 _ Tryz.underlying23 0 cap W
  go_enter Tryz.func94, Tryz.ntmps94
  go_wp2_with fail
  go_ret
  exact ⟨rfl, rfl⟩
set_option maxRecDepth 8000 in
theorem clone_strs (r : Option Addr) (vs : List Value) (n cap : Nat) (w : World) (hn : vs.length = n) (hI : SrcAt w r vs) (h1 : ∀ u ∈ vs, u.oneCell' = true) (hm : n ≤ maxLen) (hb : n * 16 ≤ 140737488355328) : Calls Tryz.prog 94 #[.slice r n cap] w fun x w' => ∃ a c, x = .returned (.slice a n c) ∧ n ≤ c ∧ RowK w' w.heap.size 9 a vs ∧ Below w.heap.size w w' := by
  cases r with
  | none =>
    have he : vs = [] := by
      rcases hI with q | ⟨b, o, q, _⟩
      · exact q
      · cases q
    subst he
    subst hn
    refine (clone_strs_none cap w).mono ?_
    rintro e w' ⟨rfl, rfl⟩
    exact ⟨none, 0, rfl, Nat.le_refl _, .inl rfl, Below.refl _ _⟩
  | some ad =>
    have HI := Lib.hid hI
    have HN := Lib.hid hn
    have HM := Lib.hid hm
    have HB4 := Lib.hid hb
    have H1 := Lib.hid h1
    have hq := fun W => eqn_some 23 _ Tryz.underlying23 ad n cap W
    have hb0 : Below w.heap.size w (w.alloc (.cells #[] 9)) := (Below.refl _ _).alloc (Nat.le_refl _) _
    have HB := Lib.hid hb0
    clear hb0 hI hn hm hb h1
    go_enter Tryz.func94, Tryz.ntmps94
    go_wp2_with (at_builtin; (refine app_fresh (w := w.alloc (.cells #[] 9)) infoStr Tryz.underlying23 rfl rfl _ _ rfl _ rfl vs (some ad) n cap HN.out rfl (HI.out.below HB.out) H1.out HM.out HB4.out ?_); (intro a1 c1 V1 r1 n1 hb1; have R1 := Lib.hid (r1.mono HB.out.size); have N1 := Lib.hid n1; have B1 := Lib.hid (HB.out.trans (hb1.mono HB.out.size)); clear r1 n1 hb1))
    go_ret
    exact ⟨a1, c1, rfl, N1.out, R1.out, B1.out⟩

theorem clone_u64s_none (cap : Nat) (w : World) : Calls Tryz.prog 95 #[.slice none 0 cap] w fun x w' => x = .returned (.slice none 0 0) ∧ w' = w := by
  have hq := fun W => eqn_none2 24 _ Tryz.underlying24 0 cap W
  go_enter Tryz.func95, Tryz.ntmps95
  go_wp2_with fail
  go_ret
  exact ⟨rfl, rfl⟩
set_option maxRecDepth 8000 in
theorem clone_u64s (r : Option Addr) (vs : List Value) (n cap : Nat) (w : World) (hn : vs.length = n) (hI : SrcAt w r vs) (h1 : ∀ u ∈ vs, u.oneCell' = true) (hm : n ≤ maxLen) (hb : n * 8 ≤ 140737488355328) : Calls Tryz.prog 95 #[.slice r n cap] w fun x w' => ∃ a c, x = .returned (.slice a n c) ∧ n ≤ c ∧ RowK w' w.heap.size 45 a vs ∧ Below w.heap.size w w' := by
  cases r with
  | none =>
    have he : vs = [] := by
      rcases hI with q | ⟨b, o, q, _⟩
      · exact q
      · cases q
    subst he
    subst hn
    refine (clone_u64s_none cap w).mono ?_
    rintro e w' ⟨rfl, rfl⟩
    exact ⟨none, 0, rfl, Nat.le_refl _, .inl rfl, Below.refl _ _⟩
  | some ad =>
    have HI := Lib.hid hI
    have HN := Lib.hid hn
    have HM := Lib.hid hm
    have HB4 := Lib.hid hb
    have H1 := Lib.hid h1
    have hq := fun W => eqn_some 24 _ Tryz.underlying24 ad n cap W
    have hb0 : Below w.heap.size w (w.alloc (.cells #[] 45)) := (Below.refl _ _).alloc (Nat.le_refl _) _
    have HB := Lib.hid hb0
    clear hb0 hI hn hm hb h1
    go_enter Tryz.func95, Tryz.ntmps95
    go_wp2_with (at_builtin; (refine app_fresh (w := w.alloc (.cells #[] 45)) infoU64 Tryz.underlying24 rfl rfl _ _ rfl _ rfl vs (some ad) n cap HN.out rfl (HI.out.below HB.out) H1.out HM.out HB4.out ?_); (intro a1 c1 V1 r1 n1 hb1; have R1 := Lib.hid (r1.mono HB.out.size); have N1 := Lib.hid n1; have B1 := Lib.hid (HB.out.trans (hb1.mono HB.out.size)); clear r1 n1 hb1))
    go_ret
    exact ⟨a1, c1, rfl, N1.out, R1.out, B1.out⟩

theorem clone_intk_none (cap : Nat) (w : World) : Calls Tryz.prog 81 #[.slice none 0 cap] w fun x w' => x = .returned (.slice none 0 0) ∧ w' = w := by
  have hq := fun W => eqn_none2 56 _ Tryz.underlying56 0 cap W
  go_enter Tryz.func81, Tryz.ntmps81
  go_wp2_with fail
  go_ret
  exact ⟨rfl, rfl⟩
set_option maxRecDepth 8000 in
theorem clone_intk (r : Option Addr) (vs : List Value) (n cap : Nat) (w : World) (hn : vs.length = n) (hI : SrcAt w r vs) (h1 : ∀ u ∈ vs, u.oneCell' = true) (hm : n ≤ maxLen) (hb : n * 8 ≤ 140737488355328) : Calls Tryz.prog 81 #[.slice r n cap] w fun x w' => ∃ a c, x = .returned (.slice a n c) ∧ n ≤ c ∧ RowK w' w.heap.size 3 a vs ∧ Below w.heap.size w w' := by
  cases r with
  | none =>
    have he : vs = [] := by
      rcases hI with q | ⟨b, o, q, _⟩
      · exact q
      · cases q
    subst he
    subst hn
    refine (clone_intk_none cap w).mono ?_
    rintro e w' ⟨rfl, rfl⟩
    exact ⟨none, 0, rfl, Nat.le_refl _, .inl rfl, Below.refl _ _⟩
  | some ad =>
    have HI := Lib.hid hI
    have HN := Lib.hid hn
    have HM := Lib.hid hm
    have HB4 := Lib.hid hb
    have H1 := Lib.hid h1
    have hq := fun W => eqn_some 56 _ Tryz.underlying56 ad n cap W
    have hb0 : Below w.heap.size w (w.alloc (.cells #[] 3)) := (Below.refl _ _).alloc (Nat.le_refl _) _
    have HB := Lib.hid hb0
    clear hb0 hI hn hm hb h1
    go_enter Tryz.func81, Tryz.ntmps81
    go_wp2_with (at_builtin; (refine app_fresh (w := w.alloc (.cells #[] 3)) infoInt Tryz.underlying56 rfl rfl _ _ rfl _ rfl vs (some ad) n cap HN.out rfl (HI.out.below HB.out) H1.out HM.out HB4.out ?_); (intro a1 c1 V1 r1 n1 hb1; have R1 := Lib.hid (r1.mono HB.out.size); have N1 := Lib.hid n1; have B1 := Lib.hid (HB.out.trans (hb1.mono HB.out.size)); clear r1 n1 hb1))
    go_ret
    exact ⟨a1, c1, rfl, N1.out, R1.out, B1.out⟩
end Go.Proofs.YtokjkligechcoaaGreatDoor
