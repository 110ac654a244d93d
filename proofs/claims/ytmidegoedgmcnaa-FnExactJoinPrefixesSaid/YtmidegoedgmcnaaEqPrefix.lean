/-
  WALKS: laws.eqPrefix, eqPrefixS, at equal lists.
-/
import Derived.Test.YtmidegoedgmcnaaRows
import Derived.Test.YtmidegoedgmcnaaOwn
import Derived.WalkLawsBesides
import Derived.BigQuiet
import Derived.Deep.QuietTactic
import Derived.Lib.QuietBelow
import Derived.Outline
import Derived.Handy
namespace Go.Proofs.Ytmidegoedgmcnaa
open Go.ChangeShapes Go.WideShapes Go.ChangeAt Go.RowKit Go.Sort Pf

set_option maxHeartbeats 400000 in
theorem eqPrefix_same (a b : Int) (w : World) :
    Calls Try.prog 59 #[.agg #[.int .i64 a, .int .i64 b], .agg #[.int .i64 a, .int .i64 b]] w fun e w' => e = .returned (.bool true) ∧ Below w.heap.size w w' := by
  go_enter Try.func59, Try.ntmps59
  go_wp2
  go_ret
  exact ⟨rfl, below_two _ _ _⟩

set_option maxHeartbeats 400000 in
theorem eqPrefixS_same (A B : Option Addr) (n c d : Nat) (xs : PS) (w : World) (h : Rd w A n c xs) (h' : Rd w B n d xs) :
    Calls Try.prog 36 #[.slice A n c, .slice B n d] w fun e w' => e = .returned (.bool true) ∧ Below w.heap.size w w' := by
  have hlen := h.len
  have hmax : n ≤ maxLen := Nat.le_trans h.2.1 h.2.2.1
  unfold maxLen at hmax
  have HLEN := Lib.hid hlen
  clear hlen
  go_enter Try.func36, Try.ntmps36
  go_wp2
  go_loopw [5] (fun i wr => ∃ k : Nat, k ≤ n ∧ i = .int .i64 k ∧ Below w.heap.size w wr) (fun i _ => n - (intOf i).toNat)
  case atStart => exact ⟨0, Nat.zero_le _, rfl, Below.refl _ _⟩
  case round =>
    obtain ⟨k, hk, rfl, hb⟩ := hrel
    by_cases hkn : k < n
    · obtain ⟨b, o, rfl, hbl, hc0⟩ := (h.below hb).at_ hkn
      obtain ⟨b', o', rfl, hbl', hc0'⟩ := (h'.below hb).at_ hkn
      have hlx : k < xs.length := by have := HLEN.out; omega
      obtain ⟨c1, c2⟩ := hc0 hlx
      obtain ⟨d1, d2⟩ := hc0' hlx
      obtain ⟨x, hx⟩ : ∃ x, x = xs[k] := ⟨_, rfl⟩
      rw [← hx] at c1 c2 d1 d2
      obtain ⟨x1, x2⟩ := x
      simp only at c1 c2 d1 d2
      have hs := hb.size
      clear hc0 hc0' hx h h'
      have k1 := cell_regrown c1
      have k2 := cell_regrown c2
      have k3 := cell_regrown d1
      have k4 := cell_regrown d2
      have cE := Lib.hid (fun d os => Calls.regrown_of (eqPrefix_same x1 x2 (grow (redrawn wr d) os)))
      go_wp2_with fail
      refine wp_region_quiet_below (by kernel_rfl) (by kernel_rfl) ?_
      repeat (quiet_step ((go_at_call 59; exact cE.out _ _)))
      refine wpQuiet_nil ?_
      intro _ hw'
      obtain ⟨⟨dq, osq⟩, hw''⟩ := hw'
      subst hw''
      have H1 := chain hb (below_regrown wr dq osq) hs
      clear k1 k2 k3 k4 cE c1 c2 d1 d2
      dsimp only
      generalize grow (redrawn wr dq) osq = V at *
      go_wp2
      go_roundw
      case rel => exact ⟨k + 1, by omega, by go_num, H1⟩
      case measure => simp [intOf]; omega
    · obtain rfl : k = n := by omega
      clear h h'
      go_wp2
      go_ret
      exact ⟨rfl, hb⟩

end Go.Proofs.Ytmidegoedgmcnaa
