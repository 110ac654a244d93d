/-
  WALKS: spec.SpansHave, impl.SpansHave: they answer 'memB'.
-/
import Derived.Test.YtbonkolgbcmaoaaRows
import Derived.Test.YtbonkolgbcmaoaaMem
import Derived.Test.YtbonkolgbcmaoaaIn
import Derived.Test.YtbonkolgbcmaoaaIHave
import Derived.WalkLawsBesides
import Derived.BigQuiet
import Derived.Deep.QuietTactic
import Derived.Lib.QuietBelow
import Derived.Deep.RegionWith
import Derived.Outline
import Derived.Handy
namespace Go.Proofs.Ytbonkolgbcmaoaa
open Go.ChangeShapes Go.WideShapes Go.ChangeAt Go.RowKit Go.Sort Pf


theorem inR_eq (n : Int) (s : Int × Int) : inR s.1 n s.2 = inB n s := rfl

set_option maxHeartbeats 400000 in
theorem sSpansHave_any (A : Option Addr) (n c : Nat) (xs : PS) (v : Int) (w : World) (h : Rd w A n c xs) :
    Calls Try.prog 17 #[.slice A n c, .int .i64 v] w fun e w' => e = .returned (.bool (memB v xs)) ∧ Below w.heap.size w w' := by
  have hlen := h.len
  have hmax : n ≤ maxLen := Nat.le_trans h.2.1 h.2.2.1
  unfold maxLen at hmax
  have HLEN := Lib.hid hlen
  clear hlen
  go_enter Try.func17, Try.ntmps17
  go_wp2
  go_loopw [5] (fun i wr => ∃ k : Nat, k ≤ n ∧ i = .int .i64 k ∧ memB v xs = memB v (xs.drop k) ∧ Below w.heap.size w wr) (fun i _ => n - (intOf i).toNat)
  case atStart => exact ⟨0, Nat.zero_le _, rfl, rfl, Below.refl _ _⟩
  case round =>
    obtain ⟨k, hk, rfl, hm, hb⟩ := hrel
    by_cases hkn : k < n
    · obtain ⟨b, o, rfl, hbl, hc0⟩ := (h.below hb).at_ hkn
      have hlx : k < xs.length := by have := HLEN.out; omega
      obtain ⟨c1, c2⟩ := hc0 hlx
      have hd : xs.drop k = xs[k] :: xs.drop (k + 1) := List.drop_eq_getElem_cons hlx
      rw [hd] at hm
      obtain ⟨x, hx⟩ : ∃ x, x = xs[k] := ⟨_, rfl⟩
      rw [← hx] at c1 c2 hm
      obtain ⟨x1, x2⟩ := x
      simp only at c1 c2
      have HM := Lib.hid hm
      have hki : (k : Int) < n := by omega
      have hk0 : (0 : Int) ≤ k := by omega
      clear hc0 hx h hd hm
      cases hin : inR x1 v x2 with
      | true =>
        have cE := Lib.hid (fun W => l1In_as v x1 x2 true hin W)
        go_wp2_with fail
        go_quiet ((go_at_call 52; exact Calls.quiet_of_same (cE.out _)))
        go_wp2
        go_ret
        refine ⟨ret_bool ?_, below_drewN hb _⟩
        rw [HM.out, memB_cons, ← inR_eq, hin]
        rfl
      | false =>
        have cE := Lib.hid (fun W => l1In_as v x1 x2 false hin W)
        go_wp2_with fail
        go_quiet ((go_at_call 52; exact Calls.quiet_of_same (cE.out _)))
        go_wp2
        go_roundw
        case rel => exact ⟨k + 1, by omega, by go_num, by rw [HM.out, memB_cons, ← inR_eq, hin]; rfl, below_drewN hb _⟩
        case measure => simp [intOf]; omega
    · obtain rfl : k = n := by omega
      rw [List.drop_of_length_le (by have := HLEN.out; omega)] at hm
      have HM := Lib.hid hm
      clear h hm
      go_wp2
      go_ret
      exact ⟨ret_bool (by rw [HM.out]; rfl), hb⟩

end Go.Proofs.Ytbonkolgbcmaoaa
