/-
  WALK: impl.topValid, impl.SpansValid: the answers are 'topOk', 'valid'.
-/
import Derived.Test.YtmidegoedgmcnaaRows
import Derived.Test.YtmidegoedgmcnaaMem
import Derived.WalkLawsBesides
import Derived.BigQuiet
import Derived.Deep.QuietTactic
import Derived.Outline
import Derived.Handy
namespace Go.Proofs.Ytmidegoedgmcnaa
open Go.ChangeShapes Go.WideShapes Go.ChangeAt Go.RowKit Pf

set_option maxHeartbeats 400000 in
theorem topValid_any (n : Int) (w : World) :
    Calls Try.prog 50 #[.int .i64 n] w fun e w' => e = .returned (.bool (topOk n)) ∧ w = w' := by
  go_enter Try.func50, Try.ntmps50
  go_wp2
  all_goals
    go_ret
    refine ⟨?_, rfl⟩
    unfold topOk
    simp [*]
    try omega

set_option maxHeartbeats 400000 in
theorem iSpansValid_any (A : Option Addr) (n c : Nat) (xs : PS) (top : Int) (w : World) (h : Rd w A n c xs) :
    Calls Try.prog 17 #[.slice A n c, .int .i64 top] w fun e w' => e = .returned (.bool (valid xs top)) ∧ Below w.heap.size w w' := by
  have hlen := h.len
  by_cases ht : topOk top = true
  · have htb : 0 ≤ top ∧ top ≤ 65535 := by simpa [topOk] using ht
    obtain ⟨ht0, ht1⟩ := htb
    by_cases hl : n ≤ 40
    · have hv : valid xs top = validF (-2) top xs := by simp [valid, ht, hlen, hl]
      have HV := Lib.hid hv
      have HLEN := Lib.hid hlen
      clear hv hlen
      go_enter Try.func17, Try.ntmps17
      go_wp2_with (go_at_call 50; refine (topValid_any _ _).mono ?_; rintro e w' ⟨rfl, rfl⟩)
      go_loopw [5, 18] (fun l i wr => ∃ (k : Nat) (q : Int), k ≤ n ∧ i = .int .i64 k ∧ l = .int .i64 q ∧ -2 ≤ q ∧ q ≤ top ∧ validF (-2) top xs = validF q top (xs.drop k) ∧ Below w.heap.size w wr)
        (fun _ i _ => n - (intOf i).toNat)
      case atStart => exact ⟨0, -2, by omega, rfl, rfl, by omega, by omega, rfl, Below.refl _ _⟩
      case round =>
        obtain ⟨k, q, hk, rfl, rfl, hq0, hq1, hvk, hb⟩ := hrel
        by_cases hkn : k < n
        · have hR := h.below hb
          obtain ⟨b, o, rfl, hbl, hc0⟩ := hR.at_ hkn
          have hlx : k < xs.length := by have := HLEN.out; omega
          obtain ⟨c1, c2⟩ := hc0 hlx
          clear hc0 hR
          have hd : xs.drop k = xs[k] :: xs.drop (k + 1) := List.drop_eq_getElem_cons hlx
          rw [hd] at hvk
          obtain ⟨x, hx⟩ : ∃ x, x = xs[k] := ⟨_, rfl⟩
          rw [← hx] at c1 c2 hvk
          obtain ⟨x1, x2⟩ := x
          simp only at c1 c2
          have HVK := Lib.hid hvk
          clear hvk h hd hx
          have hs := hb.size
          go_wp2
          case roundEnd =>
            go_roundw
            case rel =>
              refine ⟨k + 1, x2, by omega, by go_num, rfl, by omega, by omega, ?_, hb.alloc hs _⟩
              rw [HVK.out, validF]
              simp [*]
            case measure => simp [intOf]; omega
          all_goals
            go_ret
            refine ⟨ret_bool ?_, hb.alloc hs _⟩
            rw [HV.out, HVK.out, validF]
            simp; omega
        · obtain rfl : k = n := by omega
          rw [List.drop_of_length_le (by have := HLEN.out; omega)] at hvk
          have HVK := Lib.hid hvk
          clear hvk
          go_wp2
          go_ret
          exact ⟨ret_bool (by rw [HV.out, HVK.out]; rfl), hb⟩
    · have hv : valid xs top = false := by simp [valid, hlen, hl]
      have HV := Lib.hid hv
      clear hv hlen h
      go_enter Try.func17, Try.ntmps17
      go_wp2_with (go_at_call 50; refine (topValid_any _ _).mono ?_; rintro e w' ⟨rfl, rfl⟩)
      go_ret
      exact ⟨ret_bool HV.out.symm, Below.refl _ _⟩
  · have hv : valid xs top = false := by simp [valid, ht]
    have HV := Lib.hid hv
    clear hv hlen h
    have ht' : topOk top = false := by simpa using ht
    go_enter Try.func17, Try.ntmps17
    go_wp2_with (go_at_call 50; refine (topValid_any _ _).mono ?_; rintro e w' ⟨rfl, rfl⟩)
    go_ret
    exact ⟨ret_bool HV.out.symm, Below.refl _ _⟩
end Go.Proofs.Ytmidegoedgmcnaa
