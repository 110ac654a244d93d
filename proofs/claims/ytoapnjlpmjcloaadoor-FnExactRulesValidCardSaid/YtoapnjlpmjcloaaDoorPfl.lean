/-
  WALKS: spec.PacketField, impl.PacketField: 'pfF'; spec.PacketNumber: 'pnF'.
-/
import Derived.Test.YtoapnjlpmjcloaaDoorPkv
namespace Go.Proofs.YtoapnjlpmjcloaaDoor
open Go.ChangeShapes Go.WideShapes Go.ChangeAt Go.RowKit Go.Sort Pf

def nthF (f t p r n : Int) : Int := if n = 0 then f else if n = 1 then t else if n = 2 then p else r
def pfF (f t p r n : Int) : Int := if pkB f t p r && inR 0 n 3 then nthF f t p r n else -1
def pnF (f t p r : Int) : Int := if pkB f t p r then f + 65536 * (t + 65536 * (p + 256 * r)) else -1

set_option maxHeartbeats 1000000 in
theorem sPacketField_any (f t p r n : Int) (w : World) :
    Calls Tryd.prog 16 #[.agg #[.int .i64 f, .int .i64 t, .int .i64 p, .int .i64 r], .int .i64 n] w fun e w' => e = .returned (.int .i64 (pfF f t p r n)) ∧ Below w.heap.size w w' := by
  cases h1 : pkB f t p r with
  | false =>
    have HV := Lib.hid (show pfF f t p r n = -1 by simp [pfF, h1])
    go_enter Tryd.func16, Tryd.ntmps16
    go_wp2_with fail
    refine (sPacketValid_any f t p r _).mono ?_
    rintro e w1 ⟨rfl, hb1⟩
    have H1 := chain (below_one w _) hb1 (by simp)
    clear hb1
    go_wp2
    go_ret
    exact ⟨ret_int HV.out.symm, H1⟩
  | true =>
    cases h2 : inR 0 n 3 with
    | false =>
      have HV := Lib.hid (show pfF f t p r n = -1 by simp [pfF, h2])
      have C1 := Lib.hid (fun W => l1In_as n 0 3 false h2 W)
      go_enter Tryd.func16, Tryd.ntmps16
      go_wp2_with fail
      refine (sPacketValid_any f t p r _).mono ?_
      rintro e w1 ⟨rfl, hb1⟩
      have H1 := chain (below_one w _) hb1 (by simp)
      clear hb1
      go_wp2_with fail
      refine (C1.out _).mono ?_
      rintro e w' ⟨rfl, rfl⟩
      go_wp2
      go_ret
      exact ⟨ret_int HV.out.symm, H1⟩
    | true =>
      have h3 : 0 ≤ n ∧ n ≤ 3 := inR_iff.1 h2
      have HV := Lib.hid (show pfF f t p r n = nthF f t p r n by simp [pfF, h1, h2])
      have C1 := Lib.hid (fun W => l1In_as n 0 3 true h2 W)
      rcases in_four (n := n) (by omega) (by omega) with rfl | rfl | rfl | rfl
      all_goals
        clear h2 h3
        go_enter Tryd.func16, Tryd.ntmps16
        go_wp2_with fail
        refine (sPacketValid_any f t p r _).mono ?_
        rintro e w1 ⟨rfl, hb1⟩
        have H1 := chain (below_one w _) hb1 (by simp)
        have a0 : w1.cell? ⟨w.heap.size, 0, none⟩ = some (.int .i64 f) := keepCell hb1 (by go_cell)
        have a1 : w1.cell? ⟨w.heap.size, 1, none⟩ = some (.int .i64 t) := keepCell hb1 (by go_cell)
        have a2 : w1.cell? ⟨w.heap.size, 2, none⟩ = some (.int .i64 p) := keepCell hb1 (by go_cell)
        have a3 : w1.cell? ⟨w.heap.size, 3, none⟩ = some (.int .i64 r) := keepCell hb1 (by go_cell)
        clear hb1
        go_wp2_with fail
        refine (C1.out _).mono ?_
        rintro e w' ⟨rfl, rfl⟩
        go_wp2
        go_ret
        exact ⟨ret_int (by rw [HV.out]; rfl), H1.alloc H1.size _⟩

set_option maxHeartbeats 1000000 in
theorem iPacketField_any (f t p r n : Int) (w : World) (hT : Tab w) :
    Calls Tryd.prog 15 #[.agg #[.int .i64 f, .int .i64 t, .int .i64 p, .int .i64 r], .int .i64 n] w fun e w' => e = .returned (.int .i64 (pfF f t p r n)) ∧ Below w.heap.size w w' := by
  have CP := Lib.hid (fun W (hW : Below w.heap.size w W) => iPacketValid_any f t p r W (hT.below hW))
  clear hT
  by_cases hn : n < 0 ∨ 4 ≤ n
  · have h2 : inR 0 n 3 = false := by rw [← Bool.not_eq_true, inR_iff]; omega
    have HV := Lib.hid (show pfF f t p r n = -1 by simp [pfF, h2])
    clear h2
    rcases hn with hn | hn
    all_goals
      go_enter Tryd.func15, Tryd.ntmps15
      go_wp2
      go_ret
      exact ⟨ret_int HV.out.symm, below_one _ _⟩
  · have h2 : inR 0 n 3 = true := inR_iff.2 (by omega)
    have n0 : 0 ≤ n := by omega
    have n1 : n < 4 := by omega
    cases h1 : pkB f t p r with
    | false =>
      have HV := Lib.hid (show pfF f t p r n = -1 by simp [pfF, h1])
      clear h2 hn
      go_enter Tryd.func15, Tryd.ntmps15
      go_wp2_with fail
      refine (CP.out _ (below_one w _)).mono ?_
      rintro e w1 ⟨rfl, hb1⟩
      have H1 := chain (below_one w _) hb1 (by simp)
      clear hb1
      go_wp2
      go_ret
      exact ⟨ret_int HV.out.symm, H1⟩
    | true =>
      have HV := Lib.hid (show pfF f t p r n = nthF f t p r n by simp [pfF, h1, h2])
      have i0 : ∀ w, (Instr.index 82 (.agg #[.int .i64 f, .int .i64 t, .int .i64 p, .int .i64 r]) (.int .i64 0)).run Tryd.prog w = .ok (.int .i64 f) w := fun _ => by kernel_rfl
      have i1 : ∀ w, (Instr.index 82 (.agg #[.int .i64 f, .int .i64 t, .int .i64 p, .int .i64 r]) (.int .i64 1)).run Tryd.prog w = .ok (.int .i64 t) w := fun _ => by kernel_rfl
      have i2 : ∀ w, (Instr.index 82 (.agg #[.int .i64 f, .int .i64 t, .int .i64 p, .int .i64 r]) (.int .i64 2)).run Tryd.prog w = .ok (.int .i64 p) w := fun _ => by kernel_rfl
      have i3 : ∀ w, (Instr.index 82 (.agg #[.int .i64 f, .int .i64 t, .int .i64 p, .int .i64 r]) (.int .i64 3)).run Tryd.prog w = .ok (.int .i64 r) w := fun _ => by kernel_rfl
      clear hn h2
      rcases in_four n0 n1 with rfl | rfl | rfl | rfl
      all_goals
        clear n0 n1
        go_enter Tryd.func15, Tryd.ntmps15
        go_wp2_with fail
        refine (CP.out _ (below_one w _)).mono ?_
        rintro e w1 ⟨rfl, hb1⟩
        have H1 := chain (below_one w _) hb1 (by simp)
        have a0 : w1.cell? ⟨w.heap.size, 0, none⟩ = some (.int .i64 f) := keepCell hb1 (by go_cell)
        have a1 : w1.cell? ⟨w.heap.size, 1, none⟩ = some (.int .i64 t) := keepCell hb1 (by go_cell)
        have a2 : w1.cell? ⟨w.heap.size, 2, none⟩ = some (.int .i64 p) := keepCell hb1 (by go_cell)
        have a3 : w1.cell? ⟨w.heap.size, 3, none⟩ = some (.int .i64 r) := keepCell hb1 (by go_cell)
        clear hb1
        go_wp2_with fail
        refine (fields_any f t p r _).mono ?_
        rintro e w2 ⟨rfl, hb2⟩
        have H2 := chain H1 hb2 H1.size
        clear hb2
        go_wp2
        go_ret
        exact ⟨ret_int (by rw [HV.out]; rfl), H2⟩

set_option maxHeartbeats 1000000 in
theorem sPacketNumber_any (f t p r : Int) (w : World) :
    Calls Tryd.prog 66 #[.agg #[.int .i64 f, .int .i64 t, .int .i64 p, .int .i64 r]] w fun e w' => e = .returned (.int .i64 (pnF f t p r)) ∧ Below w.heap.size w w' := by
  cases h1 : pkB f t p r with
  | false =>
    have HV := Lib.hid (show pnF f t p r = -1 by simp [pnF, h1])
    go_enter Tryd.func66, Tryd.ntmps66
    go_wp2_with fail
    refine (sPacketValid_any f t p r _).mono ?_
    rintro e w1 ⟨rfl, hb1⟩
    have H1 := chain (below_one w _) hb1 (by simp)
    clear hb1
    go_wp2
    go_ret
    exact ⟨ret_int HV.out.symm, H1⟩
  | true =>
    have HV := Lib.hid (show pnF f t p r = f + 65536 * (t + 65536 * (p + 256 * r)) by simp [pnF, h1])
    obtain ⟨⟨f0, f1⟩, ⟨t0, t1⟩, ⟨p0, p1⟩, r0, r1⟩ := pkB_iff.1 h1
    go_enter Tryd.func66, Tryd.ntmps66
    go_wp2_with fail
    refine (sPacketValid_any f t p r _).mono ?_
    rintro e w1 ⟨rfl, hb1⟩
    have H1 := chain (below_one w _) hb1 (by simp)
    have a0 : w1.cell? ⟨w.heap.size, 0, none⟩ = some (.int .i64 f) := keepCell hb1 (by go_cell)
    have a1 : w1.cell? ⟨w.heap.size, 1, none⟩ = some (.int .i64 t) := keepCell hb1 (by go_cell)
    have a2 : w1.cell? ⟨w.heap.size, 2, none⟩ = some (.int .i64 p) := keepCell hb1 (by go_cell)
    have a3 : w1.cell? ⟨w.heap.size, 3, none⟩ = some (.int .i64 r) := keepCell hb1 (by go_cell)
    clear hb1
    go_wp2
    go_ret
    exact ⟨ret_int (by rw [HV.out]), H1⟩
end Go.Proofs.YtoapnjlpmjcloaaDoor
