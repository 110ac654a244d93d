/-
  '==' and '!=' of two packets.
-/
import Derived.Test.YtoapnjlpmjcloaaDoorRows
import Derived.Test.YtoapnjlpmjcloaaDoorMem
import Derived.Test.YtoapnjlpmjcloaaDoorPfr
import Derived.Test.YtoapnjlpmjcloaaDoorPnum
import Derived.Laws.StructEq
namespace Go.Proofs.YtoapnjlpmjcloaaDoor
open Go.ChangeShapes Go.WideShapes Go.ChangeAt Go.RowKit Go.Sort Pf

theorem pktGuard : Tryd.prog.eqGuardType Tryd.prog.depth 24 = false := by kernel_rfl
def eq4 (x0 x1 x2 x3 y0 y1 y2 y3 : Int) : Bool := x0 == y0 && (x1 == y1 && (x2 == y2 && x3 == y3))
theorem eq4_iff {x0 x1 x2 x3 y0 y1 y2 y3 : Int} : eq4 x0 x1 x2 x3 y0 y1 y2 y3 = true ↔ x0 = y0 ∧ x1 = y1 ∧ x2 = y2 ∧ x3 = y3 := by simp [eq4]
theorem neq_pkt (x0 x1 x2 x3 y0 y1 y2 y3 : Int) (W : World) : (binOp .neq 24 (.agg #[.int .i64 x0, .int .i64 x1, .int .i64 x2, .int .i64 x3]) (.agg #[.int .i64 y0, .int .i64 y1, .int .i64 y2, .int .i64 y3])).run Tryd.prog W = .ok (.bool (!(eq4 x0 x1 x2 x3 y0 y1 y2 y3))) W := by
  have e1 : Tryd.prog.underlying 24 = some (.struct (Tryd.prog.fieldsOf 24)) := by kernel_rfl
  have e2 : Tryd.prog.stoodInHeld 24 = false := by kernel_rfl
  rw [run_neq_struct, run_equalIn_agg W 9999 _ _ _ e1 e2]
  have e4 := Tryd.underlying24
  have e5 := Tryd.underlying3
  simp only [Program.fieldsOf, e4]
  simp [Op.eqFields, go_sem, e5]
  unfold eq4
  by_cases h0 : x0 = y0 <;> by_cases h1 : x1 = y1 <;> by_cases h2 : x2 = y2 <;> by_cases h3 : x3 = y3 <;> simp [h0, h1, h2, h3]
theorem eq_pkt (x0 x1 x2 x3 y0 y1 y2 y3 : Int) (W : World) : (binOp .eql 24 (.agg #[.int .i64 x0, .int .i64 x1, .int .i64 x2, .int .i64 x3]) (.agg #[.int .i64 y0, .int .i64 y1, .int .i64 y2, .int .i64 y3])).run Tryd.prog W = .ok (.bool (eq4 x0 x1 x2 x3 y0 y1 y2 y3)) W := by
  have e1 : Tryd.prog.underlying 24 = some (.struct (Tryd.prog.fieldsOf 24)) := by kernel_rfl
  have e2 : Tryd.prog.stoodInHeld 24 = false := by kernel_rfl
  rw [run_eql_struct, run_equalIn_agg W 9999 _ _ _ e1 e2]
  have e4 := Tryd.underlying24
  have e5 := Tryd.underlying3
  simp only [Program.fieldsOf, e4]
  simp [Op.eqFields, go_sem, e5]
  unfold eq4
  by_cases h0 : x0 = y0 <;> by_cases h1 : x1 = y1 <;> by_cases h2 : x2 = y2 <;> by_cases h3 : x3 = y3 <;> simp [h0, h1, h2, h3]
theorem from_number {f t p r : Int} (h : pkB f t p r = true) : fromV (pnF f t p r) = .tuple #[.agg #[.int .i64 f, .int .i64 t, .int .i64 p, .int .i64 r], .bool true] := by
  obtain ⟨h0, h1, h2, h3⟩ := pkB_iff.1 h
  have e : pnF f t p r = f + 65536 * (t + 65536 * (p + 256 * r)) := by unfold pnF; rw [if_pos h]
  rw [e]
  have e1 : (f + 65536 * (t + 65536 * (p + 256 * r))) % 65536 = f := by omega
  have e2 : (f + 65536 * (t + 65536 * (p + 256 * r))) / 65536 = t + 65536 * (p + 256 * r) := by omega
  have e3 : (t + 65536 * (p + 256 * r)) % 65536 = t := by omega
  have e4 : (t + 65536 * (p + 256 * r)) / 65536 = p + 256 * r := by omega
  have e5 : (p + 256 * r) % 256 = p := by omega
  have e6 : (p + 256 * r) / 256 = r := by omega
  have ok : fromOk (f + 65536 * (t + 65536 * (p + 256 * r))) = true := by
    unfold fromOk
    rw [e2, e4, e6]
    simp
    omega
  unfold fromV
  rw [ok, e1, e2, e3, e4, e5, e6]
theorem pn_bd {f t p r : Int} (h : pkB f t p r = true) : 0 ≤ pnF f t p r ∧ I64 (pnF f t p r) := by
  obtain ⟨h0, h1, h2, h3⟩ := pkB_iff.1 h
  have e : pnF f t p r = f + 65536 * (t + 65536 * (p + 256 * r)) := by unfold pnF; rw [if_pos h]
  rw [e]
  unfold I64
  omega
theorem pn_bad {f t p r : Int} (h : pkB f t p r = false) : pnF f t p r = -1 := by unfold pnF; rw [if_neg (by simp [h])]
theorem tv_int {P : Program} {F : FuncId} {args : Array Value} {w : World} {a b : Int} (h : Calls P F args w fun e w' => e = .returned (.int .i64 a) ∧ Below w.heap.size w w') (e : a = b) : Calls P F args w fun e w' => e = .returned (.int .i64 b) ∧ Below w.heap.size w w' := e ▸ h
end Go.Proofs.YtoapnjlpmjcloaaDoor
