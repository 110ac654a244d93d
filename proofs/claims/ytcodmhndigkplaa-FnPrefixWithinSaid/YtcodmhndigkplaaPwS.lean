/-
  WALK: spec.PrefixWithin.
-/
import Derived.Test.YtcodmhndigkplaaPw
import Derived.BigQuiet
import Derived.Deep.QuietTactic
namespace Go.Proofs.Ytcodmhndigkplaa
open Go.ChangeShapes Go.WideShapes Go.ChangeAt Go.RowKit Go.Sort Pf
set_option maxRecDepth 20000


set_option maxHeartbeats 400000 in
theorem sPrefixWithin_any (b l b' l' : Int) (w : World) :
    Calls Try.prog 27 #[.agg #[.int .i64 b, .int .i64 l], .agg #[.int .i64 b', .int .i64 l']] w fun e w' => e = .returned (.bool (pwithin b l b' l')) ∧ Below w.heap.size w w' := by
  cases h1 : pvB b l with
  | false =>
    have HV := Lib.hid (show pwithin b l b' l' = false by simp [pwithin, h1])
    go_enter Try.func27, Try.ntmps27
    go_wp2_with fail
    refine (sPrefixSpan_no b l _ h1).mono ?_
    rintro e w1 ⟨rfl, hb1⟩
    have H1 := chain (below_two w _ _) hb1 (by simp; omega)
    have p0 : w1.cell? ⟨w.heap.size + 1, 0, none⟩ = some (.int .i64 b') := keepCell hb1 (by go_cell)
    have p1 : w1.cell? ⟨w.heap.size + 1, 1, none⟩ = some (.int .i64 l') := keepCell hb1 (by go_cell)
    have hz : w.heap.size + 1 < w1.heap.size := by have := hb1.size; simp at this; omega
    clear hb1
    go_wp2_with fail
    refine (sPrefixSpan_any b' l' _).mono ?_
    rintro e w2 ⟨rfl, hb2⟩
    have H2 := chain (H1.alloc (by omega) _) hb2 (by simp; omega)
    have hz2 : w1.heap.size < w2.heap.size := by have := hb2.size; simp at this; omega
    clear hb2
    cases h2 : pvB b' l' with
    | false =>
      simp only [psV, h2]
      go_wp2
      go_ret
      exact ⟨ret_bool HV.out.symm, H2.alloc (by omega) _⟩
    | true =>
      simp only [psV, h2]
      go_wp2
      go_ret
      exact ⟨ret_bool HV.out.symm, H2.alloc (by omega) _⟩
  | true =>
    go_enter Try.func27, Try.ntmps27
    go_wp2_with fail
    refine (sPrefixSpan_yes b l _ h1).mono ?_
    rintro e w1 ⟨rfl, hb1⟩
    have H1 := chain (below_two w _ _) hb1 (by simp; omega)
    have p0 : w1.cell? ⟨w.heap.size + 1, 0, none⟩ = some (.int .i64 b') := keepCell hb1 (by go_cell)
    have p1 : w1.cell? ⟨w.heap.size + 1, 1, none⟩ = some (.int .i64 l') := keepCell hb1 (by go_cell)
    have hz : w.heap.size + 1 < w1.heap.size := by have := hb1.size; simp at this; omega
    clear hb1
    go_wp2_with fail
    refine (sPrefixSpan_any b' l' _).mono ?_
    rintro e w2 ⟨rfl, hb2⟩
    have H2 := chain (H1.alloc (by omega) _) hb2 (by simp; omega)
    have r0 : w2.cell? ⟨w1.heap.size, 0, none⟩ = some (.int .i64 b) := keepCell hb2 (by go_cell)
    have r1 : w2.cell? ⟨w1.heap.size, 1, none⟩ = some (.int .i64 (b + pw l - 1)) := keepCell hb2 (by go_cell)
    have hz2 : w1.heap.size < w2.heap.size := by have := hb2.size; simp at this; omega
    clear hb2
    cases h2 : pvB b' l' with
    | false =>
      have HV := Lib.hid (show pwithin b l b' l' = false by simp [pwithin, h2])
      simp only [psV, h2]
      go_wp2
      go_ret
      exact ⟨ret_bool HV.out.symm, H2.alloc (by omega) _⟩
    | true =>
      have HV := Lib.hid (show pwithin b l b' l' = (decide (b' ≤ b) && decide (b + pw l ≤ b' + pw l')) by simp [pwithin, h1, h2])
      simp only [psV, h2]
      go_wp2
      all_goals
        go_ret
        refine ⟨ret_bool ?_, H2.alloc (by omega) _⟩
        rw [HV.out]
        simp
        try omega
end Go.Proofs.Ytcodmhndigkplaa
