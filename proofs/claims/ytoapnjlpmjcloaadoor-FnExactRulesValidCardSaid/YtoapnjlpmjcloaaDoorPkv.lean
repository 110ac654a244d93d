/-
  WALK: impl.PacketValid: 'pkB'.
-/
import Derived.Test.YtoapnjlpmjcloaaDoorPkt
namespace Go.Proofs.YtoapnjlpmjcloaaDoor
open Go.ChangeShapes Go.WideShapes Go.ChangeAt Go.RowKit Go.Sort Pf

theorem pkB_true {f t p r : Int} (h : (0 ≤ f ∧ f ≤ 65535) ∧ (0 ≤ t ∧ t ≤ 65535) ∧ (0 ≤ p ∧ p ≤ 255) ∧ (0 ≤ r ∧ r ≤ 7)) : pkB f t p r = true := pkB_iff.2 h
theorem pkB_false {f t p r : Int} (h : ¬ ((0 ≤ f ∧ f ≤ 65535) ∧ (0 ≤ t ∧ t ≤ 65535) ∧ (0 ≤ p ∧ p ≤ 255) ∧ (0 ≤ r ∧ r ≤ 7))) : pkB f t p r = false := by
  rw [← Bool.not_eq_true, pkB_iff]; exact h

set_option maxHeartbeats 1000000 in
theorem iPacketValid_any (f t p r : Int) (w : World) (hT : Tab w) :
    Calls Tryd.prog 58 #[.agg #[.int .i64 f, .int .i64 t, .int .i64 p, .int .i64 r]] w fun e w' => e = .returned (.bool (pkB f t p r)) ∧ Below w.heap.size w w' := by
  have i0 : ∀ w, (Instr.index 82 (.agg #[.int .i64 f, .int .i64 t, .int .i64 p, .int .i64 r]) (.int .i64 0)).run Tryd.prog w = .ok (.int .i64 f) w := fun _ => by kernel_rfl
  have i1 : ∀ w, (Instr.index 82 (.agg #[.int .i64 f, .int .i64 t, .int .i64 p, .int .i64 r]) (.int .i64 1)).run Tryd.prog w = .ok (.int .i64 t) w := fun _ => by kernel_rfl
  have i2 : ∀ w, (Instr.index 82 (.agg #[.int .i64 f, .int .i64 t, .int .i64 p, .int .i64 r]) (.int .i64 2)).run Tryd.prog w = .ok (.int .i64 p) w := fun _ => by kernel_rfl
  have i3 : ∀ w, (Instr.index 82 (.agg #[.int .i64 f, .int .i64 t, .int .i64 p, .int .i64 r]) (.int .i64 3)).run Tryd.prog w = .ok (.int .i64 r) w := fun _ => by kernel_rfl
  have HT := Lib.hid hT
  have t0 := topF_0
  have t1 := topF_1
  have t2 := topF_2
  have t3 := topF_3
  clear hT
  go_enter Tryd.func58, Tryd.ntmps58
  go_wp2_with fail
  refine (fields_any f t p r _).mono ?_
  rintro e w1 ⟨rfl, hb1⟩
  have H1 := chain (below_one w _) hb1 (by simp)
  have HT1 := Lib.hid (HT.out.below H1)
  clear hb1 HT
  go_wp2
  refine wp_loop_rounds 5 ?_
  repeat any_goals (rw [rounds_succ]; go_wp2_with (go_at_call 18; refine (iFieldTop_any _ _ HT1.out).mono ?_; rintro e w' ⟨rfl, rfl⟩))
  all_goals
    go_ret
    first
      | exact ⟨ret_bool (pkB_true (by omega)).symm, H1⟩
      | exact ⟨ret_bool (pkB_false (by omega)).symm, H1⟩
end Go.Proofs.YtoapnjlpmjcloaaDoor
