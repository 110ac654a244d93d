/-
  WALKS: laws.toPacket, spec.PacketValid, (impl.Packet).fields, impl.PacketValid: 'pkB'.
-/
import Derived.Test.YtoapnjlpmjcloaaDoorTop
namespace Go.Proofs.YtoapnjlpmjcloaaDoor
open Go.ChangeShapes Go.WideShapes Go.ChangeAt Go.RowKit Go.Sort Pf

def pkB (f t p r : Int) : Bool := inR 0 f 65535 && inR 0 t 65535 && inR 0 p 255 && inR 0 r 7
theorem inR_iff {a n b : Int} : inR a n b = true ↔ a ≤ n ∧ n ≤ b := by simp [inR]
theorem pkB_iff {f t p r : Int} : pkB f t p r = true ↔ (0 ≤ f ∧ f ≤ 65535) ∧ (0 ≤ t ∧ t ≤ 65535) ∧ (0 ≤ p ∧ p ≤ 255) ∧ (0 ≤ r ∧ r ≤ 7) := by
  simp [pkB, inR, and_assoc]

set_option maxHeartbeats 400000 in
theorem toPacket_any (f t p r : Int) (w : World) :
    Calls Tryd.prog 37 #[.agg #[.int .i64 f, .int .i64 t, .int .i64 p, .int .i64 r]] w fun e w' => e = .returned (.agg #[.int .i64 f, .int .i64 t, .int .i64 p, .int .i64 r]) ∧ Below w.heap.size w w' := by
  go_enter Tryd.func37, Tryd.ntmps37
  go_wp2
  refine bodyPost_ret (v := .agg #[.int .i64 f, .int .i64 t, .int .i64 p, .int .i64 r]) (by simp [results, Tryd.results37, go_sem]) rfl ⟨rfl, ?_⟩
  exact below_three _ _ _ _

set_option maxHeartbeats 400000 in
theorem sPacketValid_any (f t p r : Int) (w : World) :
    Calls Tryd.prog 44 #[.agg #[.int .i64 f, .int .i64 t, .int .i64 p, .int .i64 r]] w fun e w' => e = .returned (.bool (pkB f t p r)) ∧ Below w.heap.size w w' := by
  cases h1 : inR 0 f 65535 with
  | false =>
    have HV := Lib.hid (show pkB f t p r = false by simp [pkB, h1])
    have C1 := Lib.hid (fun W => l1In_as f 0 65535 false h1 W)
    go_enter Tryd.func44, Tryd.ntmps44
    go_wp2_with (go_at_call 63; refine (C1.out _).mono ?_; rintro e w' ⟨rfl, rfl⟩)
    go_ret
    exact ⟨ret_bool HV.out.symm, below_one _ _⟩
  | true =>
    have C1 := Lib.hid (fun W => l1In_as f 0 65535 true h1 W)
    cases h2 : inR 0 t 65535 with
    | false =>
      have HV := Lib.hid (show pkB f t p r = false by simp [pkB, h2])
      have C2 := Lib.hid (fun W => l1In_as t 0 65535 false h2 W)
      go_enter Tryd.func44, Tryd.ntmps44
      go_wp2_with fail
      refine (C1.out _).mono ?_
      rintro e w' ⟨rfl, rfl⟩
      go_wp2_with fail
      refine (C2.out _).mono ?_
      rintro e w' ⟨rfl, rfl⟩
      go_wp2
      go_ret
      exact ⟨ret_bool HV.out.symm, below_one _ _⟩
    | true =>
      have C2 := Lib.hid (fun W => l1In_as t 0 65535 true h2 W)
      cases h3 : inR 0 p 255 with
      | false =>
        have HV := Lib.hid (show pkB f t p r = false by simp [pkB, h3])
        have C3 := Lib.hid (fun W => l1In_as p 0 255 false h3 W)
        go_enter Tryd.func44, Tryd.ntmps44
        go_wp2_with fail
        refine (C1.out _).mono ?_
        rintro e w' ⟨rfl, rfl⟩
        go_wp2_with fail
        refine (C2.out _).mono ?_
        rintro e w' ⟨rfl, rfl⟩
        go_wp2_with fail
        refine (C3.out _).mono ?_
        rintro e w' ⟨rfl, rfl⟩
        go_wp2
        go_ret
        exact ⟨ret_bool HV.out.symm, below_one _ _⟩
      | true =>
        have C3 := Lib.hid (fun W => l1In_as p 0 255 true h3 W)
        have HV := Lib.hid (show pkB f t p r = inR 0 r 7 by simp [pkB, h1, h2, h3])
        go_enter Tryd.func44, Tryd.ntmps44
        go_wp2_with fail
        refine (C1.out _).mono ?_
        rintro e w' ⟨rfl, rfl⟩
        go_wp2_with fail
        refine (C2.out _).mono ?_
        rintro e w' ⟨rfl, rfl⟩
        go_wp2_with fail
        refine (C3.out _).mono ?_
        rintro e w' ⟨rfl, rfl⟩
        go_wp2_with fail
        refine (l1In_any r 0 7 _).mono ?_
        rintro e w' ⟨rfl, rfl⟩
        go_wp2
        go_ret
        exact ⟨ret_bool (by rw [HV.out]), below_one _ _⟩

set_option maxHeartbeats 400000 in
theorem fields_any (f t p r : Int) (w : World) :
    Calls Tryd.prog 62 #[.agg #[.int .i64 f, .int .i64 t, .int .i64 p, .int .i64 r]] w fun e w' => e = .returned (.agg #[.int .i64 f, .int .i64 t, .int .i64 p, .int .i64 r]) ∧ Below w.heap.size w w' := by
  go_enter Tryd.func62, Tryd.ntmps62
  go_wp2
  refine bodyPost_ret (v := .agg #[.int .i64 f, .int .i64 t, .int .i64 p, .int .i64 r]) (by simp [results, Tryd.results62, go_sem]) rfl ⟨rfl, ?_⟩
  exact below_two _ _ _
end Go.Proofs.YtoapnjlpmjcloaaDoor
