/-
  THE WALK of the law FnPrefixSpan.
-/
import Derived.Test.YtcodmhndigkplaaPreP
import Derived.Test.YtcodmhndigkplaaPs
import Derived.Test.YtcodmhndigkplaaCovW
import Derived.Test.YtcodmhndigkplaaDrPre
import Derived.Test.YtcodmhndigkplaaIHave
namespace Go.Proofs.Ytcodmhndigkplaa
open Go.ChangeShapes Go.WideShapes Go.ChangeAt Go.RowKit Go.Sort Pf

set_option maxHeartbeats 2000000 in
theorem walkFnPrefixSpan (A : Option Addr) (n c : Nat) (zs : List Int) (w : World) (h : Rb w A n c zs) :
    Calls Try.prog 6 #[.slice A n c] w fun e w' => e = .returned (.bool true) ∧ Below w.heap.size w w' := by
  have hmax : n ≤ maxLen := Nat.le_trans h.2.1 h.2.2.1
  unfold maxLen at hmax
  have CD := Lib.hid (drawPrefixSpan_any A n c zs w h)
  clear h
  by_cases hn : n ≤ 1048576
  · have hn1 : (n : Int) ≤ 1048576 := by omega
    clear hn
    go_enter Try.func6, Try.ntmps6
    go_wp2_with fail
    refine (CD.out).mono ?_
    rintro e w1 ⟨b, l, rfl, hb1⟩
    have hz1 : w.heap.size ≤ w1.heap.size := hb1.size
    have H1 := Lib.hid hb1
    clear hb1 CD
    cases hv : pvB b l with
    | false =>
      have HV := Lib.hid hv
      clear hv
      go_wp2_with fail
      refine (iPrefixSpan_no b l _ HV.out).mono ?_
      rintro e w2 ⟨rfl, hb2⟩
      have s0 : w2.cell? ⟨w1.heap.size, 0, none⟩ = some (.int .i64 b) := keepCell hb2 (by go_cell)
      have s1 : w2.cell? ⟨w1.heap.size, 1, none⟩ = some (.int .i64 l) := keepCell hb2 (by go_cell)
      have H2 := Lib.hid (chain (chain H1.out (below_one w1 _) hz1) hb2 (by simp; omega))
      have hz2 : w1.heap.size < w2.heap.size := by have := hb2.size; simp at this; omega
      clear hb2 H1
      go_wp2_with fail
      refine (sPrefixSpan_no b l _ HV.out).mono ?_
      rintro e w3 ⟨rfl, hb3⟩
      have q0 : w3.cell? ⟨w2.heap.size, 0, none⟩ = some (.int .i64 0) := keepCell hb3 (by go_cell)
      have q1 : w3.cell? ⟨w2.heap.size, 1, none⟩ = some (.int .i64 0) := keepCell hb3 (by go_cell)
      have hz3 : w2.heap.size < w3.heap.size := by have := hb3.size; simp at this; omega
      have H3 := Lib.hid (chain (chain H2.out (below_one w2 _) H2.out.size) hb3 (by have := H2.out.size; simp; omega))
      clear hb3 s0 s1 H2
      go_wp2_with fail
      refine (alive_any _).mono ?_
      rintro e w4 ⟨rfl, hb4⟩
      have H4 := chain (chain H3.out (below_one w3 _) H3.out.size) hb4 (by have := H3.out.size; simp; omega)
      clear hb4
      go_wp2
      go_ret
      exact ⟨rfl, H4⟩
    | true =>
      have HV := Lib.hid hv
      have he := pvB_end hv
      obtain ⟨⟨l0, l1, b0, b1⟩, -⟩ := pvB_iff.1 hv
      have hpw := pw_bd l l0
      obtain ⟨hpw1, hpw2⟩ := hpw
      have HC := Lib.hid (show coverV b (b + pw l - 1) = [(b, l)] from by unfold coverV; rw [if_pos (by omega)]; exact cover_prefix hv)
      clear hv
      go_wp2_with fail
      refine (iPrefixSpan_yes b l _ HV.out).mono ?_
      rintro e w2 ⟨rfl, hb2⟩
      have s0 : w2.cell? ⟨w1.heap.size, 0, none⟩ = some (.int .i64 b) := keepCell hb2 (by go_cell)
      have s1 : w2.cell? ⟨w1.heap.size, 1, none⟩ = some (.int .i64 l) := keepCell hb2 (by go_cell)
      have H2 := Lib.hid (chain (chain H1.out (below_one w1 _) hz1) hb2 (by simp; omega))
      have hz2 : w1.heap.size < w2.heap.size := by have := hb2.size; simp at this; omega
      have ea := World.new_ne w2 _ s0
      clear hb2 H1
      go_wp2_with fail
      refine (sPrefixSpan_yes b l _ HV.out).mono ?_
      rintro e w3 ⟨rfl, hb3⟩
      have q0 : w3.cell? ⟨w2.heap.size, 0, none⟩ = some (.int .i64 b) := keepCell hb3 (by go_cell)
      have q1 : w3.cell? ⟨w2.heap.size, 1, none⟩ = some (.int .i64 (b + pw l - 1)) := keepCell hb3 (by go_cell)
      have t0 : w3.cell? ⟨w1.heap.size, 0, none⟩ = some (.int .i64 b) := keepCell hb3 (keepCell (below_one w2 _) s0)
      have t1 : w3.cell? ⟨w1.heap.size, 1, none⟩ = some (.int .i64 l) := keepCell hb3 (keepCell (below_one w2 _) s1)
      have hz3 : w2.heap.size < w3.heap.size := by have := hb3.size; simp at this; omega
      have H3 := Lib.hid (chain (chain H2.out (below_one w2 _) H2.out.size) hb3 (by have := H2.out.size; simp; omega))
      clear hb3 s0 s1 H2 ea
      go_wp2_with fail
      have CC := iCoverSpan_any b (b + pw l - 1) (w3.alloc (.cells #[.int .i64 b, .int .i64 (b + pw l - 1)] 33))
      rw [HC.out] at CC
      refine CC.mono ?_
      rintro e w4 ⟨A4, c4, rfl, own4, hb4⟩
      obtain ⟨g4, rfl⟩ := own_some own4 (by simp)
      have r0 : w4.cell? ⟨g4, 0, none⟩ = some (.int .i64 b) := own4.cellAt 0 (by simp)
      have r1 : w4.cell? ⟨g4, 1, none⟩ = some (.int .i64 l) := own4.cellAt 1 (by simp)
      have u0 : w4.cell? ⟨w2.heap.size, 0, none⟩ = some (.int .i64 b) := keepCell hb4 (keepCell (below_one w3 _) q0)
      have u1 : w4.cell? ⟨w2.heap.size, 1, none⟩ = some (.int .i64 (b + pw l - 1)) := keepCell hb4 (keepCell (below_one w3 _) q1)
      have v0 : w4.cell? ⟨w1.heap.size, 0, none⟩ = some (.int .i64 b) := keepCell hb4 (keepCell (below_one w3 _) t0)
      have v1 : w4.cell? ⟨w1.heap.size, 1, none⟩ = some (.int .i64 l) := keepCell hb4 (keepCell (below_one w3 _) t1)
      have H4 := Lib.hid (chain (chain H3.out (below_one w3 _) H3.out.size) hb4 (by have := H3.out.size; simp; omega))
      have k1 : IntKind.i64.wrap (b + pw l - 1 - b) = pw l - 1 := by rw [IntWalk.i64_in _ (by omega)]; omega
      have k2 : IntKind.i64.wrap (pw l - 1 + 1) = pw l := by rw [IntWalk.i64_in _ (by omega)]; omega
      have k3 : IntKind.i64.wrap (16 - l) = 16 - l := IntWalk.i64_in _ (by omega)
      have k4 := pw_wrapK l l0
      have k5 : decide (b + pw l - 1 ≤ 65535) = true := by simp; omega
      have k6 : 0 ≤ 16 - l := by omega
      clear CC hb4 own4 q0 q1 t0 t1 H3
      go_wp2_with fail
      go_quiet (fail)
      clear k1 k2 k3 k4 k5
      go_wp2
      go_ret
      exact ⟨rfl, below_drewN H4.out _⟩
  · have hn1 : (1048576 : Int) < n := by omega
    clear hn
    go_enter Try.func6, Try.ntmps6
    go_wp2
    go_ret
    exact ⟨rfl, Below.refl _ _⟩
end Go.Proofs.Ytcodmhndigkplaa
