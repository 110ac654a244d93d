/-
  WALKS: spec.FieldTop, impl.FieldTop: 'topF'; 'Tab': the table of the fields lies in memory as the program's text lays it.
-/
import Derived.Test.YtoapnjlpmjcloaaDoorRows
import Derived.Test.YtoapnjlpmjcloaaDoorIn
namespace Go.Proofs.YtoapnjlpmjcloaaDoor
open Go.ChangeShapes Go.WideShapes Go.ChangeAt Go.RowKit Go.Sort Pf

/-- The tops of the fields, as they lie in the table's block. -/
def Tab (w : World) : Prop :=
  w.cell? ⟨0, 1, none⟩ = some (.int .i64 65535) ∧ w.cell? ⟨0, 3, none⟩ = some (.int .i64 65535) ∧ w.cell? ⟨0, 5, none⟩ = some (.int .i64 255) ∧ w.cell? ⟨0, 7, none⟩ = some (.int .i64 7)
theorem Tab.below {w w' : World} (h : Tab w) (hb : Below w.heap.size w w') : Tab w' := ⟨keepCell hb h.1, keepCell hb h.2.1, keepCell hb h.2.2.1, keepCell hb h.2.2.2⟩

def topF (n : Int) : Int := if n = 0 then 65535 else if n = 1 then 65535 else if n = 2 then 255 else if n = 3 then 7 else -1
theorem topF_0 : topF 0 = 65535 := by decide
theorem topF_1 : topF 1 = 65535 := by decide
theorem topF_2 : topF 2 = 255 := by decide
theorem topF_3 : topF 3 = 7 := by decide
theorem topF_out {n : Int} (h : n < 0 ∨ 4 ≤ n) : topF n = -1 := by unfold topF; rw [if_neg (by omega), if_neg (by omega), if_neg (by omega), if_neg (by omega)]

theorem in_four {n : Int} (h0 : 0 ≤ n) (h1 : n < 4) : n = 0 ∨ n = 1 ∨ n = 2 ∨ n = 3 := by omega

set_option maxHeartbeats 400000 in
theorem sFieldTop_any (n : Int) (w : World) :
    Calls Tryd.prog 65 #[.int .i64 n] w fun e w' => e = .returned (.int .i64 (topF n)) ∧ w' = w := by
  by_cases h : n < 0 ∨ 4 ≤ n
  · have HV := Lib.hid (topF_out h)
    have n0 : (n == 0) = false := beq_eq_false_iff_ne.2 (by omega)
    have n1 : (n == 1) = false := beq_eq_false_iff_ne.2 (by omega)
    have n2 : (n == 2) = false := beq_eq_false_iff_ne.2 (by omega)
    have n3 : (n == 3) = false := beq_eq_false_iff_ne.2 (by omega)
    clear h
    go_enter Tryd.func65, Tryd.ntmps65
    go_wp2
    go_ret
    exact ⟨ret_int HV.out.symm, rfl⟩
  · rcases in_four (n := n) (by omega) (by omega) with rfl | rfl | rfl | rfl
    all_goals
      go_enter Tryd.func65, Tryd.ntmps65
      go_wp2
      go_ret
      exact ⟨ret_int (by decide), rfl⟩

set_option maxHeartbeats 400000 in
theorem iFieldTop_any (n : Int) (w : World) (hT : Tab w) :
    Calls Tryd.prog 18 #[.int .i64 n] w fun e w' => e = .returned (.int .i64 (topF n)) ∧ w' = w := by
  by_cases h : n < 0 ∨ 4 ≤ n
  · have HV := Lib.hid (topF_out h)
    clear hT
    rcases h with h | h
    all_goals
      go_enter Tryd.func18, Tryd.ntmps18
      go_wp2
      go_ret
      exact ⟨ret_int HV.out.symm, rfl⟩
  · obtain ⟨c0, c1, c2, c3⟩ := hT
    rcases in_four (n := n) (by omega) (by omega) with rfl | rfl | rfl | rfl
    all_goals
      go_enter Tryd.func18, Tryd.ntmps18
      go_wp2
      go_ret
      exact ⟨ret_int (by decide), rfl⟩
end Go.Proofs.YtoapnjlpmjcloaaDoor
