/-
  THE WALK of the law FnExactTestHolds.
-/
import Derived.Test.YtipmnoojnfegjaaDoorTholdS
import Derived.BigQuiet
import Derived.Deep.QuietTactic
namespace Go.Proofs.YtipmnoojnfegjaaDoor
open Go.ChangeShapes Go.WideShapes Go.ChangeAt Go.RowKit Go.Sort Pf

theorem th_as {P : Program} {F : FuncId} {args : Array Value} {w : World} {a b : Bool} (e : a = b) (h : Calls P F args w fun e w' => e = .returned (.bool a) ∧ Below w.heap.size w w') : Calls P F args w fun e w' => e = .returned (.bool b) ∧ Below w.heap.size w w' := e ▸ h

set_option maxHeartbeats 2000000 in
theorem walkFnExactTestHolds (x0 x1 x2 : Int) (x3 : Bool) (y0 y1 y2 y3 : Int) (w : World) (hT : Tab w) :
    Calls Tryd.prog 4 #[.agg #[.int .i64 x0, .int .i64 x1, .int .i64 x2, .bool x3], .agg #[.int .i64 y0, .int .i64 y1, .int .i64 y2, .int .i64 y3]] w fun e w' => e = .returned (.bool true) ∧ Below w.heap.size w w' := by
  have HT := Lib.hid (fun W (hW : Below w.heap.size w W) => hT.below hW)
  clear hT
  have H0 := Lib.hid (below_two w (.cells #[.int .i64 x0, .int .i64 x1, .int .i64 x2, .bool x3] 28) (.cells #[.int .i64 y0, .int .i64 y1, .int .i64 y2, .int .i64 y3] 30))
  have BX := Lib.hid (boxes_new w x0 x1 x2 x3 y0 y1 y2 y3 28 30)
  obtain ⟨v, hv⟩ : ∃ v, thB x0 x1 x2 x3 y0 y1 y2 y3 = v := ⟨_, rfl⟩
  have HV := Lib.hid hv
  have hne : (v != v) = false := by simp
  clear hv
  go_enter Tryd.func4, Tryd.ntmps4
  go_wp2_with fail
  generalize (w.alloc (.cells #[.int .i64 x0, .int .i64 x1, .int .i64 x2, .bool x3] 28)).alloc (.cells #[.int .i64 y0, .int .i64 y1, .int .i64 y2, .int .i64 y3] 30) = W at H0 BX ⊢
  obtain ⟨a0, a1, a2, a3, b0, b1, b2, b3⟩ := BX.out
  have k0 := cell_regrown a0
  have k1 := cell_regrown a1
  have k2 := cell_regrown a2
  have k3 := cell_regrown a3
  have k4 := cell_regrown b0
  have k5 := cell_regrown b1
  have k6 := cell_regrown b2
  have k7 := cell_regrown b3
  have cT := Lib.hid (fun d os => Calls.regrown_of (toTest_any x0 x1 x2 x3 (grow (redrawn W d) os)))
  have cP := Lib.hid (fun d os => Calls.regrown_of (toPacket_any y0 y1 y2 y3 (grow (redrawn W d) os)))
  have cS := Lib.hid (fun d os => Calls.regrown_of (th_as HV.out (sTestHolds_any x0 x1 x2 x3 y0 y1 y2 y3 (grow (redrawn W d) os))))
  clear a0 a1 a2 a3 b0 b1 b2 b3
  refine wp_region_quiet_below (by kernel_rfl) (by kernel_rfl) ?_
  repeat (go_big_quiet_step (first | (go_at_call 18; exact cT.out _ _) | (go_at_call 19; exact cP.out _ _) | (go_at_call 17; exact cS.out _ _)))
  refine wpQuiet_nil ?_
  intro _ hw'
  obtain ⟨⟨d1, os1⟩, hw''⟩ := hw'
  subst hw''
  have H1 := Lib.hid (chain H0.out (below_regrown W d1 os1) H0.out.size)
  have B1 := Lib.hid (BX.out.below (below_regrown W d1 os1))
  clear k0 k1 k2 k3 k4 k5 k6 k7 cT cP cS
  dsimp only
  generalize grow (redrawn W d1) os1 = V at *
  go_wp2_with fail
  obtain ⟨a0, a1, a2, a3, b0, b1, b2, b3⟩ := B1.out
  have k0 := cell_regrown a0
  have k1 := cell_regrown a1
  have k2 := cell_regrown a2
  have k3 := cell_regrown a3
  have k4 := cell_regrown b0
  have k5 := cell_regrown b1
  have k6 := cell_regrown b2
  have k7 := cell_regrown b3
  have cT := Lib.hid (fun d os => Calls.regrown_of (toTest_any x0 x1 x2 x3 (grow (redrawn V d) os)))
  have cP := Lib.hid (fun d os => Calls.regrown_of (toPacket_any y0 y1 y2 y3 (grow (redrawn V d) os)))
  have cS := Lib.hid (fun d os => Calls.regrown_of (th_as HV.out (iTestHolds_any x0 x1 x2 x3 y0 y1 y2 y3 (grow (redrawn V d) os) (HT.out _ (chain H1.out (below_regrown V d os) H1.out.size)))))
  clear a0 a1 a2 a3 b0 b1 b2 b3
  refine wp_region_quiet_below (by kernel_rfl) (by kernel_rfl) ?_
  repeat (go_big_quiet_step (first | (go_at_call 18; exact cT.out _ _) | (go_at_call 19; exact cP.out _ _) | (go_at_call 20; exact cS.out _ _)))
  refine wpQuiet_nil ?_
  intro _ hw'
  obtain ⟨⟨d2, os2⟩, hw''⟩ := hw'
  subst hw''
  have H2 := Lib.hid (chain H1.out (below_regrown V d2 os2) H1.out.size)
  have B2 := Lib.hid (B1.out.below (below_regrown V d2 os2))
  clear k0 k1 k2 k3 k4 k5 k6 k7 cT cP cS
  dsimp only
  generalize grow (redrawn V d2) os2 = U at *
  go_wp2
  go_ret
  exact ⟨rfl, H2.out⟩
end Go.Proofs.YtipmnoojnfegjaaDoor
