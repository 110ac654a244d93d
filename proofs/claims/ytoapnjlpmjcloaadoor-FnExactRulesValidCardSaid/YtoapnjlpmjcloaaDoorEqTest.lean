/-
  WALKS: laws.eqTest, eqTestS, at equal lists.
-/
import Derived.Test.YtoapnjlpmjcloaaDoorRows
import Derived.Test.YtoapnjlpmjcloaaDoorMemT
import Derived.WalkLawsBesides
import Derived.BigQuiet
import Derived.Deep.QuietTactic
import Derived.Lib.QuietBelow
import Derived.Outline
import Derived.Handy
namespace Go.Proofs.YtoapnjlpmjcloaaDoor
open Go.ChangeShapes Go.WideShapes Go.ChangeAt Go.RowKit Go.Sort Pf

set_option maxHeartbeats 400000 in
theorem eqTest_same (a b c : Int) (d : Bool) (w : World) :
    Calls Tryd.prog 71 #[.agg #[.int .i64 a, .int .i64 b, .int .i64 c, .bool d], .agg #[.int .i64 a, .int .i64 b, .int .i64 c, .bool d]] w fun e w' => e = .returned (.bool true) ∧ Below w.heap.size w w' := by
  go_enter Tryd.func71, Tryd.ntmps71
  go_wp2
  go_ret
  exact ⟨rfl, below_two _ _ _⟩

set_option maxHeartbeats 1000000 in
theorem eqTestS_same (A B : Option Addr) (n c d : Nat) (xs : TS) (w : World) (h : Rt w A n c xs) (h' : Rt w B n d xs) :
    Calls Tryd.prog 39 #[.slice A n c, .slice B n d] w fun e w' => e = .returned (.bool true) ∧ Below w.heap.size w w' := by
  have hlen := h.len
  have hmax : n ≤ maxLen := Nat.le_trans h.2.1 h.2.2.1
  unfold maxLen at hmax
  have HLEN := Lib.hid hlen
  clear hlen
  go_enter Tryd.func39, Tryd.ntmps39
  go_wp2
  go_loopw [5] (fun i wr => ∃ k : Nat, k ≤ n ∧ i = .int .i64 k ∧ Below w.heap.size w wr) (fun i _ => n - (intOf i).toNat)
  case atStart => exact ⟨0, Nat.zero_le _, rfl, Below.refl _ _⟩
  case round =>
    obtain ⟨k, hk, rfl, hb⟩ := hrel
    by_cases hkn : k < n
    · obtain ⟨b, o, rfl, hbl, hc0⟩ := (h.below hb).at_ hkn
      obtain ⟨b', o', rfl, hbl', hc0'⟩ := (h'.below hb).at_ hkn
      have hlx : k < xs.length := by have := HLEN.out; omega
      obtain ⟨c1, c2, c3, c4⟩ := hc0 hlx
      obtain ⟨d1, d2, d3, d4⟩ := hc0' hlx
      obtain ⟨x, hx⟩ : ∃ x, x = xs[k] := ⟨_, rfl⟩
      rw [← hx] at c1 c2 c3 c4 d1 d2 d3 d4
      obtain ⟨x1, x2, x3, x4⟩ := x
      simp only at c1 c2 c3 c4 d1 d2 d3 d4
      have hs := hb.size
      clear hc0 hc0' hx h h'
      have k1 := cell_regrown c1
      have k2 := cell_regrown c2
      have k3 := cell_regrown c3
      have k4 := cell_regrown c4
      have k5 := cell_regrown d1
      have k6 := cell_regrown d2
      have k7 := cell_regrown d3
      have k8 := cell_regrown d4
      have cE := Lib.hid (fun d os => Calls.regrown_of (eqTest_same x1 x2 x3 x4 (grow (redrawn wr d) os)))
      go_wp2_with fail
      refine wp_region_quiet_below (by kernel_rfl) (by kernel_rfl) ?_
      repeat (go_big_quiet_step ((go_at_call 71; exact cE.out _ _)))
      refine wpQuiet_nil ?_
      intro _ hw'
      obtain ⟨⟨dq, osq⟩, hw''⟩ := hw'
      subst hw''
      have H1 := chain hb (below_regrown wr dq osq) hs
      clear k1 k2 k3 k4 k5 k6 k7 k8 cE c1 c2 c3 c4 d1 d2 d3 d4
      dsimp only
      generalize grow (redrawn wr dq) osq = V at *
      go_wp2
      go_roundw
      case rel => exact ⟨k + 1, by omega, by go_num, H1⟩
      case measure => simp [intOf]; omega
    · obtain rfl : k = n := by omega
      clear h h'
      go_wp2
      go_ret
      exact ⟨rfl, hb⟩

end Go.Proofs.YtoapnjlpmjcloaaDoor
