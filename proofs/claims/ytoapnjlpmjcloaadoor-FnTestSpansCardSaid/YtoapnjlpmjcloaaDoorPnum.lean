/-
  WALK: impl.PacketNumber: 'pnF'.
-/
import Derived.Test.YtoapnjlpmjcloaaDoorPfl
namespace Go.Proofs.YtoapnjlpmjcloaaDoor
open Go.ChangeShapes Go.WideShapes Go.ChangeAt Go.RowKit Go.Sort Pf

theorem quiet_more {P : Program} {f : FuncId} {args : Array Value} {w : World} {a n : Nat} {v : Value}
    (h : Calls P f args (w.drewN (a + n)) fun e w' => e = .returned v ∧ w' = w.drewN (a + n)) :
    Calls P f args (w.drewN (a + n)) fun e w'' => e = .returned v ∧ ∃ m, w'' = w.drewN (a + m) :=
  h.mono fun _ _ ⟨he, hm⟩ => ⟨he, n, hm⟩

set_option maxHeartbeats 2000000 in
theorem iPacketNumber_any (f t p r : Int) (w : World) (hT : Tab w) :
    Calls Tryd.prog 25 #[.agg #[.int .i64 f, .int .i64 t, .int .i64 p, .int .i64 r]] w fun e w' => e = .returned (.int .i64 (pnF f t p r)) ∧ Below w.heap.size w w' := by
  have CP := Lib.hid (fun W (hW : Below w.heap.size w W) => iPacketValid_any f t p r W (hT.below hW))
  have HT := Lib.hid (fun W (hW : Below w.heap.size w W) => hT.below hW)
  clear hT
  cases h1 : pkB f t p r with
  | false =>
    have HV := Lib.hid (show pnF f t p r = -1 by simp [pnF, h1])
    go_enter Tryd.func25, Tryd.ntmps25
    go_wp2_with fail
    refine (CP.out _ (below_one w _)).mono ?_
    rintro e w1 ⟨rfl, hb1⟩
    have H1 := chain (below_one w _) hb1 (by simp)
    clear hb1
    go_wp2
    go_ret
    exact ⟨ret_int HV.out.symm, H1⟩
  | true =>
    have hv : pnF f t p r = f + 65536 * (t + 65536 * (p + 256 * r)) := by simp [pnF, h1]
    have HV := Lib.hid hv
    obtain ⟨⟨f0, f1⟩, ⟨t0, t1⟩, ⟨p0, p1⟩, r0, r1⟩ := pkB_iff.1 h1
    clear hv
    go_enter Tryd.func25, Tryd.ntmps25
    go_wp2_with fail
    refine (CP.out _ (below_one w _)).mono ?_
    rintro e w1 ⟨rfl, hb1⟩
    have H1 := chain (below_one w _) hb1 (by simp)
    have a0 : w1.cell? ⟨w.heap.size, 0, none⟩ = some (.int .i64 f) := keepCell hb1 (by go_cell)
    have a1 : w1.cell? ⟨w.heap.size, 1, none⟩ = some (.int .i64 t) := keepCell hb1 (by go_cell)
    have a2 : w1.cell? ⟨w.heap.size, 2, none⟩ = some (.int .i64 p) := keepCell hb1 (by go_cell)
    have a3 : w1.cell? ⟨w.heap.size, 3, none⟩ = some (.int .i64 r) := keepCell hb1 (by go_cell)
    clear hb1 CP
    go_wp2_with fail
    refine (fields_any f t p r _).mono ?_
    rintro e w2 ⟨rfl, hb2⟩
    have H2 := chain H1 hb2 H1.size
    have H3 := H2.alloc H2.size (.cells #[.int .i64 f, .int .i64 t, .int .i64 p, .int .i64 r] 82)
    have CT := Lib.hid (fun n k => iFieldTop_any n ((w2.alloc (.cells #[.int .i64 f, .int .i64 t, .int .i64 p, .int .i64 r] 82)).drewN k) (HT.out _ (below_drewN H3 k)))
    clear hb2 a0 a1 a2 a3 HT
    go_wp2_with fail
    refine wp_loop_rounds 5 ?_
    rw [rounds_succ]
    go_wp2_with fail
    go_quiet ((go_at_call 18; exact Calls.quiet_of_same (CT.out _ _)))
    go_wp2_with fail
    rw [rounds_succ]
    go_wp2_with fail
    have C2 := Lib.hid (fun k => by have := CT.out 2 k; rwa [topF_2] at this)
    go_quiet ((go_at_call 18; exact quiet_more (C2.out _)))
    go_wp2_with fail
    rw [rounds_succ]
    go_wp2_with fail
    have C3 := Lib.hid (fun k => by have := CT.out 1 k; rwa [topF_1] at this)
    go_quiet ((go_at_call 18; exact quiet_more (C3.out _)))
    go_wp2_with fail
    rw [rounds_succ]
    go_wp2_with fail
    have C4 := Lib.hid (fun k => by have := CT.out 0 k; rwa [topF_0] at this)
    go_quiet ((go_at_call 18; exact quiet_more (C4.out _)))
    go_wp2_with fail
    rw [rounds_succ]
    go_wp2
    go_ret
    exact ⟨ret_int (by rw [HV.out]; omega), below_drewN H3 _⟩
end Go.Proofs.YtoapnjlpmjcloaaDoor
