/- Laws of layer 21, walked: reports. -/
import Derived.Test.YtkjdigojajcgkaaDoorPw6
namespace Go.Proofs.YtkjdigojajcgkaaDoor
open Go.RowKit
open Pt (Oc)
set_option linter.unusedVariables false
attribute [local go_sem] ext_mk size_mk toList_mk get_mk take_drop_len take_tail_len ByteArray.mk_append_mk List.append_toArray

set_option maxHeartbeats 800000 in
set_option maxRecDepth 100000 in
theorem portsReports_walk (o : Oc) (v : Value) (w : World) (hv : PortVars w) (ho : OcAt w v o) (hn : o.out.length ≤ 1048576) (hx : o.exn.length ≤ 140737488351232) (hs0 : ∀ l ∈ o.out, l.length ≤ 140737488351232) :
    Calls Tryd.prog 3 #[v] w fun e w' => e = .returned (.bool true) ∧ Below w.heap.size w w' := by
  obtain ⟨a, cap, rfl, ha1, ha2⟩ := ho
  have HV := Lib.hid hv
  have hb0 : Below w.heap.size w (w.alloc (.cells #[.slice a o.out.length cap, .int .i64 o.st, .string ⟨o.exn.toArray⟩, .int .i64 o.steps] 25)) := (Below.refl _ _).alloc (Nat.le_refl _) _
  obtain ⟨B, hB⟩ : ∃ B, Pt.repB o = B := ⟨_, rfl⟩
  obtain ⟨E, hE⟩ : ∃ E, Pt.repE o = E := ⟨_, rfl⟩
  have c1 := fun W hW h => report_any o (.agg #[.slice a o.out.length cap, .int .i64 o.st, .string ⟨o.exn.toArray⟩, .int .i64 o.steps]) W hW h hn hx hs0
  have c2 := fun W h => rreport_any o (.agg #[.slice a o.out.length cap, .int .i64 o.st, .string ⟨o.exn.toArray⟩, .int .i64 o.steps]) W h (by omega) hx hs0
  rw [hB, hE] at c1 c2
  have C1 := Lib.hid c1
  have C2 := Lib.hid c2
  have HO := Lib.hid (show OcAt w _ o from ⟨a, cap, rfl, ha1, ha2⟩)
  have k : ∀ W n v, Below (w.alloc (.cells #[.slice a o.out.length cap, .int .i64 o.st, .string ⟨o.exn.toArray⟩, .int .i64 o.steps] 25)).heap.size (w.alloc (.cells #[.slice a o.out.length cap, .int .i64 o.st, .string ⟨o.exn.toArray⟩, .int .i64 o.steps] 25)) W → #[Value.slice a o.out.length cap, .int .i64 o.st, .string ⟨o.exn.toArray⟩, .int .i64 o.steps][n]? = some v → W.cell? ⟨w.heap.size, n, none⟩ = some v := fun W n v hb hv => by
    rw [hb.cell (p := ⟨w.heap.size, n, none⟩) (show w.heap.size < _ by simp)]; simp [hv]
  have HK := Lib.hid k
  clear hv c1 c2 hB hE ha1 k
  go_enter Tryd.func3, Tryd.ntmps3
  go_wp2_with (first | (go_at_call 8; (with_reducible refine (C1.out _ ?_ ?_).mono ?_); (exact HV.out.below hb0); (exact HO.out.below hb0); rintro e w1 ⟨rfl, hb1⟩; have e0 := HK.out w1 0 _ hb1 rfl; have e1 := HK.out w1 1 _ hb1 rfl; have e2 := HK.out w1 2 _ hb1 rfl; have e3 := HK.out w1 3 _ hb1 rfl; have hbw := hb0.trans (hb1.mono hb0.size)) | (go_at_call 9; (with_reducible refine (C2.out _ ?_).mono ?_); (exact HO.out.below hbw); rintro e w2 ⟨rfl, hb2⟩; have hbw2 := hbw.trans (hb2.mono hbw.size)) | (go_at_call 10; refine (alive_any _ (HV.out.below hbw2)).mono ?_; rintro e w3 ⟨rfl, hb3⟩))
  go_ret
  exact ⟨rfl, hbw2.trans (hb3.mono hbw2.size)⟩
end Go.Proofs.YtkjdigojajcgkaaDoor
