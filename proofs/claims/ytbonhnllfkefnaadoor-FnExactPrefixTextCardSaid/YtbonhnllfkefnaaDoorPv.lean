/-
  WALKS: spec.l1In, impl.hostMask, impl.PrefixValid, spec.PrefixValid: they answer 'inR', 'pw', 'pvB'.
-/
import Derived.Test.YtbonhnllfkefnaaDoorRows
import Derived.Test.YtbonhnllfkefnaaDoorMem
import Derived.Test.YtbonhnllfkefnaaDoorPre
import Derived.Test.YtbonhnllfkefnaaDoorIn
import Derived.WalkLawsBesides
import Derived.BigQuiet
import Derived.Deep.QuietTactic
import Derived.Lib.QuietBelow
import Derived.Deep.RegionWith
import Derived.Outline
import Derived.Handy
namespace Go.Proofs.YtbonhnllfkefnaaDoor
open Go.ChangeShapes Go.WideShapes Go.ChangeAt Go.RowKit Go.Sort Pf

set_option maxHeartbeats 400000 in
theorem hostMask_any (l : Int) (h0 : 0 ≤ l) (h1 : l ≤ 16) (w : World) :
    Calls Tryd.prog 12 #[.int .i64 l] w fun e w' => e = .returned (.int .i64 (pw l - 1)) ∧ w' = w := by
  have hp := pw_wrap l h0
  have hq := pw_bd l h0
  have hr : wrap64 (pw l - 1) = pw l - 1 := IntWalk.wrap64_in _ (by omega)
  have HP := Lib.hid hp
  have HR := Lib.hid hr
  clear hp hr
  go_enter Tryd.func12, Tryd.ntmps12
  go_wp2
  go_ret
  refine ⟨ret_int ?_, rfl⟩
  rw [HP.out, HR.out]

set_option maxHeartbeats 400000 in
theorem iPrefixValid_any (b l : Int) (w : World) :
    Calls Tryd.prog 9 #[.agg #[.int .i64 b, .int .i64 l]] w fun e w' => e = .returned (.bool (pvB b l)) ∧ Below w.heap.size w w' := by
  by_cases hr : (0 ≤ l ∧ l ≤ 16) ∧ (0 ≤ b ∧ b ≤ 65535)
  · obtain ⟨⟨h0, h1⟩, h2, h3⟩ := hr
    have hm := and_mask h0 h2 h3
    have hv : pvB b l = decide (b % pw l = 0) := by simp [pvB, h0, h1, h2, h3]
    have HM := Lib.hid hm
    have HV := Lib.hid hv
    clear hm hv
    have cH : ∀ W, Calls Tryd.prog 12 #[.int .i64 l] W fun e w' => e = .returned (.int .i64 (pw l - 1)) ∧ w' = W := fun W => hostMask_any l h0 h1 W
    have CH := Lib.hid cH
    clear cH
    go_enter Tryd.func9, Tryd.ntmps9
    go_wp2_with fail
    go_quiet ((go_at_call 12; exact Calls.quiet_of_same (CH.out _)))
    go_wp2
    go_ret
    refine ⟨ret_bool ?_, below_drewN (below_one _ _) _⟩
    rw [HV.out, HM.out]
    rfl
  · have hv : pvB b l = false := by
      rw [← Bool.not_eq_true, pvB_iff]; omega
    have HV := Lib.hid hv
    clear hv
    go_enter Tryd.func9, Tryd.ntmps9
    go_wp2_with fail
    all_goals
      first
        | (exfalso; omega)
        | (go_ret; exact ⟨ret_bool HV.out.symm, by go_grown⟩)

set_option maxHeartbeats 400000 in
theorem sPrefixValid_any (b l : Int) (w : World) :
    Calls Tryd.prog 7 #[.agg #[.int .i64 b, .int .i64 l]] w fun e w' => e = .returned (.bool (pvB b l)) ∧ Below w.heap.size w w' := by
  have cL : ∀ n lo hi W, Calls Tryd.prog 11 #[.int .i64 n, .int .i64 lo, .int .i64 hi] W fun e w' => e = .returned (.bool (inR lo n hi)) ∧ w' = W := fun n lo hi W => l1In_any n lo hi W
  have CL := Lib.hid cL
  clear cL
  by_cases hl : inR 0 l 16 = true
  · by_cases hb : inR 0 b 65535 = true
    · have h01 : 0 ≤ l ∧ l ≤ 16 := by simpa [inR] using hl
      have h23 : 0 ≤ b ∧ b ≤ 65535 := by simpa [inR] using hb
      obtain ⟨h0, h1⟩ := h01
      obtain ⟨h2, h3⟩ := h23
      have hp := pw_wrapK l h0
      have hq := pw_bd l h0
      have hm := tmod_pw (l := l) h2
      have hs : IntKind.i64.wrap (16 - l) = 16 - l := IntWalk.i64_in _ (by omega)
      have hs0 : 0 ≤ 16 - l := by omega
      have hz : pw l ≠ 0 := by omega
      have hz' : (pw l == 0) = false := by simpa using hz
      have hd0 := Int.emod_nonneg b hz
      have hd1 := Int.emod_lt_of_pos b (show 0 < pw l by omega)
      have hw : IntKind.i64.wrap (b % pw l) = b % pw l := IntWalk.i64_in _ (by omega)
      have hm' : b.tmod (pw l) = b % pw l := hm
      have hv : pvB b l = decide (b % pw l = 0) := by simp [pvB, h0, h1, h2, h3]
      have HM := Lib.hid hm
      have HV := Lib.hid hv
      clear hm hv
      go_enter Tryd.func7, Tryd.ntmps7
      go_wp2_with fail
      refine wp_region_quiet_lit (by kernel_rfl) (by kernel_rfl) ?_
      repeat (quiet_step ((go_at_call 11; exact Calls.quiet_of_same (CL.out _ _ _ _))))
      refine wpQuiet_nil ?_
      intro _ hw'
      obtain ⟨nq, hw''⟩ := hw'
      subst hw''
      go_wp2
      go_ret
      refine ⟨ret_bool ?_, below_drewN (below_one _ _) _⟩
      rw [HV.out]
      rfl
    · have hb' : inR 0 b 65535 = false := by simpa using hb
      have hv : pvB b l = false := by
        rw [← Bool.not_eq_true, pvB_iff]
        intro hc
        exact hb (by simpa [inR] using ⟨hc.1.2.2.1, hc.1.2.2.2⟩)
      have HV := Lib.hid hv
      have C1 := Lib.hid (fun W => l1In_as l 0 16 true hl W)
      have C2 := Lib.hid (fun W => l1In_as b 0 65535 false hb' W)
      clear hv hb hb' hl CL
      go_enter Tryd.func7, Tryd.ntmps7
      go_wp2_with fail
      go_quiet ((first | (go_at_call_of 11 (Value.int IntKind.i64 l); exact Calls.quiet_of_same (C1.out _)) | (go_at_call_of 11 (Value.int IntKind.i64 b); exact Calls.quiet_of_same (C2.out _))))
      go_wp2
      go_ret
      exact ⟨ret_bool HV.out.symm, below_drewN (below_one _ _) _⟩
  · have hl' : inR 0 l 16 = false := by simpa using hl
    have hv : pvB b l = false := by
      rw [← Bool.not_eq_true, pvB_iff]
      intro hc
      exact hl (by simpa [inR] using ⟨hc.1.1, hc.1.2.1⟩)
    have HV := Lib.hid hv
    have C1 := Lib.hid (fun W => l1In_as l 0 16 false hl' W)
    clear hv hl hl' CL
    go_enter Tryd.func7, Tryd.ntmps7
    go_wp2_with fail
    go_quiet ((go_at_call_of 11 (Value.int IntKind.i64 l); exact Calls.quiet_of_same (C1.out _)))
    go_wp2
    go_ret
    exact ⟨ret_bool HV.out.symm, below_drewN (below_one _ _) _⟩
end Go.Proofs.YtbonhnllfkefnaaDoor
