/-
  WALK: spec.TestHolds: 'thB'.
-/
import Derived.Test.YtoapnjlpmjcloaaDoorThold
import Derived.BigQuiet
import Derived.Deep.QuietTactic
namespace Go.Proofs.YtoapnjlpmjcloaaDoor
open Go.ChangeShapes Go.WideShapes Go.ChangeAt Go.RowKit Go.Sort Pf

set_option maxHeartbeats 2000000 in
theorem sTestHolds_any (fl lo hi : Int) (nt : Bool) (f t p r : Int) (w : World) :
    Calls Tryd.prog 43 #[.agg #[.int .i64 fl, .int .i64 lo, .int .i64 hi, .bool nt], .agg #[.int .i64 f, .int .i64 t, .int .i64 p, .int .i64 r]] w fun e w' => e = .returned (.bool (thB fl lo hi nt f t p r)) ∧ Below w.heap.size w w' := by
  have hb := Lib.hid (below_two w (.cells #[.int .i64 fl, .int .i64 lo, .int .i64 hi, .bool nt] 32) (.cells #[.int .i64 f, .int .i64 t, .int .i64 p, .int .i64 r] 24))
  have BX := Lib.hid (boxes_new w fl lo hi nt f t p r 32 24)
  have CV := fun W => sTestValid_any fl lo hi nt W
  have CP := fun W => sPacketValid_any f t p r W
  cases h1 : tsB fl lo hi with
  | false =>
    rw [h1] at CV
    have CV := Lib.hid CV
    have HV := Lib.hid (th_no1 (f := f) (t := t) (p := p) (r := r) (nt := nt) h1)
    clear h1 CP
    go_enter Tryd.func43, Tryd.ntmps43
    go_wp2_with fail
    generalize (w.alloc (.cells #[.int .i64 fl, .int .i64 lo, .int .i64 hi, .bool nt] 32)).alloc (.cells #[.int .i64 f, .int .i64 t, .int .i64 p, .int .i64 r] 24) = W at hb BX ⊢
    obtain ⟨a0, a1, a2, a3, b0, b1, b2, b3⟩ := BX.out
    have k0 := cell_regrown a0
    have k1 := cell_regrown a1
    have k2 := cell_regrown a2
    have k3 := cell_regrown a3
    have k4 := cell_regrown b0
    have k5 := cell_regrown b1
    have k6 := cell_regrown b2
    have k7 := cell_regrown b3
    have MV := Lib.hid (fun d os => Calls.regrown_of (CV.out (grow (redrawn W d) os)))
    clear a0 a1 a2 a3 b0 b1 b2 b3
    refine wp_region_quiet_below (by kernel_rfl) (by kernel_rfl) ?_
    repeat (go_big_quiet_step (first | (go_at_call 21; exact MV.out _ _)))
    refine wpQuiet_nil ?_
    intro _ hw'
    obtain ⟨⟨dq, osq⟩, hw''⟩ := hw'
    subst hw''
    have H2 := Lib.hid (chain hb.out (below_regrown W dq osq) hb.out.size)
    clear k0 k1 k2 k3 k4 k5 k6 k7 MV
    dsimp only
    generalize grow (redrawn W dq) osq = V at *
    go_wp2
    go_ret
    exact ⟨ret_bool HV.out.symm, H2.out⟩
  | true =>
    rw [h1] at CV
    have CV := Lib.hid CV
    have hfl := (tsB_iff.1 h1).1
    cases h2 : pkB f t p r with
    | false =>
      rw [h2] at CP
      have CP := Lib.hid CP
      have HV := Lib.hid (th_no2 (fl := fl) (lo := lo) (hi := hi) (nt := nt) h2)
      clear h1 h2
      go_enter Tryd.func43, Tryd.ntmps43
      go_wp2_with fail
      generalize (w.alloc (.cells #[.int .i64 fl, .int .i64 lo, .int .i64 hi, .bool nt] 32)).alloc (.cells #[.int .i64 f, .int .i64 t, .int .i64 p, .int .i64 r] 24) = W at hb BX ⊢
      obtain ⟨a0, a1, a2, a3, b0, b1, b2, b3⟩ := BX.out
      have k0 := cell_regrown a0
      have k1 := cell_regrown a1
      have k2 := cell_regrown a2
      have k3 := cell_regrown a3
      have k4 := cell_regrown b0
      have k5 := cell_regrown b1
      have k6 := cell_regrown b2
      have k7 := cell_regrown b3
      have MV := Lib.hid (fun d os => Calls.regrown_of (CV.out (grow (redrawn W d) os)))
      have MP := Lib.hid (fun d os => Calls.regrown_of (CP.out (grow (redrawn W d) os)))
      clear a0 a1 a2 a3 b0 b1 b2 b3
      refine wp_region_quiet_below (by kernel_rfl) (by kernel_rfl) ?_
      repeat (go_big_quiet_step (first | (go_at_call 21; exact MV.out _ _) | (go_at_call 44; exact MP.out _ _)))
      refine wpQuiet_nil ?_
      intro _ hw'
      obtain ⟨⟨dq, osq⟩, hw''⟩ := hw'
      subst hw''
      have H2 := Lib.hid (chain hb.out (below_regrown W dq osq) hb.out.size)
      clear k0 k1 k2 k3 k4 k5 k6 k7 MV MP
      dsimp only
      generalize grow (redrawn W dq) osq = V at *
      go_wp2
      go_ret
      exact ⟨ret_bool HV.out.symm, H2.out⟩
    | true =>
      rw [h2] at CP
      have CP := Lib.hid CP
      have HV := th_yes (nt := nt) h1 h2
      have CF := fun W => sPacketField_any f t p r fl W
      have hpf : pfF f t p r fl = nthF f t p r fl := by simp [pfF, h2, inR_iff.2 hfl]
      rw [hpf] at CF
      obtain ⟨v, hv⟩ : ∃ v, nthF f t p r fl = v := ⟨_, rfl⟩
      rw [hv] at CF HV
      obtain ⟨b, hbv⟩ : ∃ b, inR lo v hi = b := ⟨_, rfl⟩
      rw [hbv] at HV
      have CL := Lib.hid (fun W => l1In_as v lo hi b hbv W)
      have CF := Lib.hid CF
      have HV := Lib.hid HV
      clear h1 h2 hpf hv hbv
      go_enter Tryd.func43, Tryd.ntmps43
      go_wp2_with fail
      generalize (w.alloc (.cells #[.int .i64 fl, .int .i64 lo, .int .i64 hi, .bool nt] 32)).alloc (.cells #[.int .i64 f, .int .i64 t, .int .i64 p, .int .i64 r] 24) = W at hb BX ⊢
      obtain ⟨a0, a1, a2, a3, b0, b1, b2, b3⟩ := BX.out
      have k0 := cell_regrown a0
      have k1 := cell_regrown a1
      have k2 := cell_regrown a2
      have k3 := cell_regrown a3
      have k4 := cell_regrown b0
      have k5 := cell_regrown b1
      have k6 := cell_regrown b2
      have k7 := cell_regrown b3
      have MV := Lib.hid (fun d os => Calls.regrown_of (CV.out (grow (redrawn W d) os)))
      have MP := Lib.hid (fun d os => Calls.regrown_of (CP.out (grow (redrawn W d) os)))
      have MF := Lib.hid (fun d os => Calls.regrown_of (CF.out (grow (redrawn W d) os)))
      have ML := Lib.hid (fun d os => Calls.regrown_of (below_of_same (CL.out (grow (redrawn W d) os))))
      clear a0 a1 a2 a3 b0 b1 b2 b3
      refine wp_region_quiet_below (by kernel_rfl) (by kernel_rfl) ?_
      repeat (go_big_quiet_step (first | (go_at_call 21; exact MV.out _ _) | (go_at_call 44; exact MP.out _ _) | (go_at_call 16; exact MF.out _ _) | (go_at_call 63; exact ML.out _ _)))
      refine wpQuiet_nil ?_
      intro _ hw'
      obtain ⟨⟨dq, osq⟩, hw''⟩ := hw'
      subst hw''
      have H2 := Lib.hid (chain hb.out (below_regrown W dq osq) hb.out.size)
      clear k0 k1 k2 k3 k4 k5 k6 k7 MV MP MF ML
      dsimp only
      generalize grow (redrawn W dq) osq = V at *
      go_wp2
      go_ret
      exact ⟨ret_bool HV.out.symm, H2.out⟩
end Go.Proofs.YtoapnjlpmjcloaaDoor
