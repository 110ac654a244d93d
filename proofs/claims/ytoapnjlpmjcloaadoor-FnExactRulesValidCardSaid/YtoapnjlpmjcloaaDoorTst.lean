/-
  WALKS: laws.toTest, spec.TestValid, impl.TestValid: 'tsB'.
-/
import Derived.Test.YtoapnjlpmjcloaaDoorTop
namespace Go.Proofs.YtoapnjlpmjcloaaDoor
open Go.ChangeShapes Go.WideShapes Go.ChangeAt Go.RowKit Go.Sort Pf

def tsB (fl lo hi : Int) : Bool := inR 0 fl 3 && inR 0 lo hi && decide (hi ≤ topF fl)
theorem tsB_iff {fl lo hi : Int} : tsB fl lo hi = true ↔ (0 ≤ fl ∧ fl ≤ 3) ∧ (0 ≤ lo ∧ lo ≤ hi) ∧ hi ≤ topF fl := by simp [tsB, inR, and_assoc]

set_option maxHeartbeats 400000 in
theorem toTest_any (fl lo hi : Int) (nt : Bool) (w : World) :
    Calls Tryd.prog 69 #[.agg #[.int .i64 fl, .int .i64 lo, .int .i64 hi, .bool nt]] w fun e w' => e = .returned (.agg #[.int .i64 fl, .int .i64 lo, .int .i64 hi, .bool nt]) ∧ Below w.heap.size w w' := by
  go_enter Tryd.func69, Tryd.ntmps69
  go_wp2
  refine bodyPost_ret (v := .agg #[.int .i64 fl, .int .i64 lo, .int .i64 hi, .bool nt]) (by simp [results, Tryd.results69, go_sem]) rfl ⟨rfl, ?_⟩
  exact below_three _ _ _ _

set_option maxHeartbeats 1000000 in
theorem sTestValid_any (fl lo hi : Int) (nt : Bool) (w : World) :
    Calls Tryd.prog 21 #[.agg #[.int .i64 fl, .int .i64 lo, .int .i64 hi, .bool nt]] w fun e w' => e = .returned (.bool (tsB fl lo hi)) ∧ Below w.heap.size w w' := by
  cases h1 : inR 0 fl 3 with
  | false =>
    have HV := Lib.hid (show tsB fl lo hi = false by simp [tsB, h1])
    have C1 := Lib.hid (fun W => l1In_as fl 0 3 false h1 W)
    go_enter Tryd.func21, Tryd.ntmps21
    go_wp2_with fail
    go_quiet ((go_at_call_of 63 (Value.int IntKind.i64 fl); exact Calls.quiet_of_same (C1.out _)))
    go_wp2
    go_ret
    exact ⟨ret_bool HV.out.symm, below_drewN (below_one _ _) _⟩
  | true =>
    have C1 := Lib.hid (fun W => l1In_as fl 0 3 true h1 W)
    cases h2 : inR 0 lo hi with
    | false =>
      have HV := Lib.hid (show tsB fl lo hi = false by simp [tsB, h2])
      have C2 := Lib.hid (fun W => l1In_as lo 0 hi false h2 W)
      go_enter Tryd.func21, Tryd.ntmps21
      go_wp2_with fail
      go_quiet ((first | (go_at_call_of 63 (Value.int IntKind.i64 fl); exact Calls.quiet_of_same (C1.out _)) | (go_at_call_of 63 (Value.int IntKind.i64 lo); exact Calls.quiet_of_same (C2.out _)) | (go_at_call 65; exact Calls.quiet_of_same (sFieldTop_any fl _))))
      go_wp2
      go_ret
      exact ⟨ret_bool HV.out.symm, below_drewN (below_one _ _) _⟩
    | true =>
      have HV := Lib.hid (show tsB fl lo hi = decide (hi ≤ topF fl) by simp [tsB, h1, h2])
      have C2 := Lib.hid (fun W => l1In_as lo 0 hi true h2 W)
      go_enter Tryd.func21, Tryd.ntmps21
      go_wp2_with fail
      go_quiet ((first | (go_at_call_of 63 (Value.int IntKind.i64 fl); exact Calls.quiet_of_same (C1.out _)) | (go_at_call_of 63 (Value.int IntKind.i64 lo); exact Calls.quiet_of_same (C2.out _)) | (go_at_call 65; exact Calls.quiet_of_same (sFieldTop_any fl _))))
      go_wp2
      go_ret
      exact ⟨ret_bool HV.out.symm, below_drewN (below_one _ _) _⟩

set_option maxHeartbeats 1000000 in
theorem iTestValid_any (fl lo hi : Int) (nt : Bool) (w : World) (hT : Tab w) :
    Calls Tryd.prog 20 #[.agg #[.int .i64 fl, .int .i64 lo, .int .i64 hi, .bool nt]] w fun e w' => e = .returned (.bool (tsB fl lo hi)) ∧ Below w.heap.size w w' := by
  have hb := below_one w (.cells #[.int .i64 fl, .int .i64 lo, .int .i64 hi, .bool nt] 32)
  have CT := Lib.hid (fun k => iFieldTop_any fl ((w.alloc (.cells #[.int .i64 fl, .int .i64 lo, .int .i64 hi, .bool nt] 32)).drewN k) (hT.below (below_drewN hb k)))
  clear hT
  by_cases g1 : 0 ≤ fl
  · by_cases g2 : fl < 4
    · by_cases g3 : 0 ≤ lo
      · by_cases g4 : lo ≤ hi
        · have HV := Lib.hid (show tsB fl lo hi = decide (hi ≤ topF fl) by simp [tsB, inR, g1, g3, g4]; omega)
          go_enter Tryd.func20, Tryd.ntmps20
          go_wp2_with fail
          go_quiet ((go_at_call 18; exact Calls.quiet_of_same (CT.out _)))
          go_wp2
          go_ret
          exact ⟨ret_bool HV.out.symm, below_drewN hb _⟩
        · have HV := Lib.hid (show tsB fl lo hi = false by rw [← Bool.not_eq_true, tsB_iff]; omega)
          have g4' : decide (lo ≤ hi) = false := by simpa using g4
          go_enter Tryd.func20, Tryd.ntmps20
          go_wp2_with fail
          go_quiet ((go_at_call 18; exact Calls.quiet_of_same (CT.out _)))
          go_wp2
          go_ret
          exact ⟨ret_bool HV.out.symm, below_drewN hb _⟩
      · have HV := Lib.hid (show tsB fl lo hi = false by rw [← Bool.not_eq_true, tsB_iff]; omega)
        have g3' : decide (0 ≤ lo) = false := by simpa using g3
        go_enter Tryd.func20, Tryd.ntmps20
        go_wp2_with fail
        go_quiet ((go_at_call 18; exact Calls.quiet_of_same (CT.out _)))
        go_wp2
        go_ret
        exact ⟨ret_bool HV.out.symm, below_drewN hb _⟩
    · have HV := Lib.hid (show tsB fl lo hi = false by rw [← Bool.not_eq_true, tsB_iff]; omega)
      have g2' : decide (fl < 4) = false := by simpa using g2
      go_enter Tryd.func20, Tryd.ntmps20
      go_wp2_with fail
      go_quiet ((go_at_call 18; exact Calls.quiet_of_same (CT.out _)))
      go_wp2
      go_ret
      exact ⟨ret_bool HV.out.symm, below_drewN hb _⟩
  · have HV := Lib.hid (show tsB fl lo hi = false by rw [← Bool.not_eq_true, tsB_iff]; omega)
    have g1' : decide (0 ≤ fl) = false := by simpa using g1
    go_enter Tryd.func20, Tryd.ntmps20
    go_wp2_with fail
    go_quiet ((go_at_call 18; exact Calls.quiet_of_same (CT.out _)))
    go_wp2
    go_ret
    exact ⟨ret_bool HV.out.symm, below_drewN hb _⟩
end Go.Proofs.YtoapnjlpmjcloaaDoor
