/-
  WALK: spec.SpansValid: it answers 'valid'.
-/
import Derived.Test.YtmidegoedgmcnaaRows
import Derived.Test.YtmidegoedgmcnaaMem
import Derived.Test.YtmidegoedgmcnaaIn
import Derived.WalkLawsBesides
import Derived.BigQuiet
import Derived.Deep.QuietTactic
import Derived.Lib.QuietBelow
import Derived.Deep.RegionWith
import Derived.Outline
import Derived.Handy
namespace Go.Proofs.Ytmidegoedgmcnaa
open Go.ChangeShapes Go.WideShapes Go.ChangeAt Go.RowKit Go.Sort Pf



/-- Up to which number the ranges before place k go: -2 if there are none. -/
def upTo (xs : PS) (k : Nat) : Int := match k with
  | 0 => -2
  | j + 1 => (xs[j]?.getD (0, 0)).2

set_option maxHeartbeats 1000000 in
theorem sSpansValid_yes (A : Option Addr) (n c : Nat) (xs : PS) (top : Int) (w : World) (h : Rd w A n c xs) (ht : topOk top = true) :
    Calls Try.prog 22 #[.slice A n c, .int .i64 top] w fun e w' => e = .returned (.bool (valid xs top)) ∧ Below w.heap.size w w' := by
  have hlen := h.len
  have hmax : n ≤ maxLen := Nat.le_trans h.2.1 h.2.2.1
  unfold maxLen at hmax
  have htb : 0 ≤ top ∧ top ≤ 65535 := by simpa [topOk] using ht
  obtain ⟨ht0, ht1⟩ := htb
  have hv : valid xs top = (decide (n ≤ 40) && validF (-2) top xs) := by simp [valid, ht, hlen]
  have HV := Lib.hid hv
  have HLEN := Lib.hid hlen
  have hin : inR 0 top 65535 = true := by simpa [inR] using ⟨ht0, ht1⟩
  have CT := Lib.hid (fun W => l1In_as top 0 65535 true hin W)
  clear hlen hv hin ht
  go_enter Try.func22, Try.ntmps22
  go_wp2
  go_loopw [5] (fun i wr => ∃ (k : Nat), k ≤ n ∧ i = .int .i64 k ∧ -2 ≤ upTo xs k ∧ upTo xs k ≤ top ∧ validF (-2) top xs = validF (upTo xs k) top (xs.drop k) ∧ Below w.heap.size w wr)
    (fun i _ => n - (intOf i).toNat)
  case atStart => exact ⟨0, by omega, rfl, by simp [upTo], by simp [upTo]; omega, rfl, Below.refl _ _⟩
  case round =>
    obtain ⟨k, hk, rfl, hq0, hq1, hvk, hb⟩ := hrel
    by_cases hkn : k < n
    · obtain ⟨b, o, rfl, hbl, hc0⟩ := (h.below hb).at_ hkn
      have hlx : k < xs.length := by have := HLEN.out; omega
      obtain ⟨c1, c2⟩ := hc0 hlx
      have hd : xs.drop k = xs[k] :: xs.drop (k + 1) := List.drop_eq_getElem_cons hlx
      have hup : upTo xs (k + 1) = xs[k].2 := by simp [upTo, List.getElem?_eq_getElem hlx]
      rw [hd] at hvk
      obtain ⟨x, hx⟩ : ∃ x, x = xs[k] := ⟨_, rfl⟩
      rw [← hx] at c1 c2 hvk hup
      obtain ⟨x1, x2⟩ := x
      simp only at c1 c2 hup
      have HVK := Lib.hid hvk
      have HUP := Lib.hid hup
      have hki : (k : Int) < n := by omega
      have hk0 : (0 : Int) ≤ k := by omega
      have hpv : ∀ j, k = j + 1 → ∃ p1, wr.cell? ⟨b, o + j * 2 + 1, none⟩ = some (.int .i64 p1) ∧ upTo xs k = p1 := by
        intro j hj
        subst hj
        obtain ⟨b2, o2, e2, _, hc2⟩ := (h.below hb).at_ (k := j) (by omega)
        injection e2 with e2
        injection e2 with e3 e4
        subst e3 e4
        have hlj : j < xs.length := by omega
        exact ⟨_, (hc2 hlj).2, by simp [upTo, List.getElem?_eq_getElem hlj]⟩
      clear hc0 hx h hd hvk hup
      cases hP1 : inR 0 x1 x2 with
      | false =>
        have cE := Lib.hid (fun W => l1In_as x1 0 x2 false hP1 W)
        go_wp2_with fail
        go_quiet ((go_at_call_of 54 (Value.int IntKind.i64 x1); exact Calls.quiet_of_same (cE.out _)))
        go_wp2
        go_ret
        refine ⟨ret_bool ?_, below_drewN hb _⟩
        have hf : validF (upTo xs k) top ((x1, x2) :: xs.drop (k + 1)) = false := by
          rw [← Bool.not_eq_true, validF_cons]
          intro hc
          simp only at hc
          have : inR 0 x1 x2 = true := by simpa [inR] using ⟨by omega, hc.2.1⟩
          rw [hP1] at this
          cases this
        rw [HV.out, HVK.out, hf, Bool.and_false]
      | true =>
        have cE := Lib.hid (fun W => l1In_as x1 0 x2 true hP1 W)
        have hx12 : 0 ≤ x1 ∧ x1 ≤ x2 := by simpa [inR] using hP1
        obtain ⟨hx0, hx1⟩ := hx12
        cases hP2 : inR 0 x2 top with
        | false =>
          have cF := Lib.hid (fun W => l1In_as x2 0 top false hP2 W)
          go_wp2_with fail
          go_quiet ((first | (go_at_call_of 54 (Value.int IntKind.i64 x1); exact Calls.quiet_of_same (cE.out _)) | (go_at_call_of 54 (Value.int IntKind.i64 top); exact Calls.quiet_of_same (cF.out _))))
          go_wp2
          go_ret
          refine ⟨ret_bool ?_, below_drewN hb _⟩
          have hf : validF (upTo xs k) top ((x1, x2) :: xs.drop (k + 1)) = false := by
            rw [← Bool.not_eq_true, validF_cons]
            intro hc
            simp only at hc
            have : inR 0 x2 top = true := by simpa [inR] using ⟨by omega, hc.2.2.1⟩
            rw [hP2] at this
            cases this
          rw [HV.out, HVK.out, hf, Bool.and_false]
        | true =>
          have cF := Lib.hid (fun W => l1In_as x2 0 top true hP2 W)
          have hx2 : x2 ≤ top := by
            have : 0 ≤ x2 ∧ x2 ≤ top := by simpa [inR] using hP2
            exact this.2
          have hstep : upTo xs k + 1 < x1 → validF (upTo xs k) top ((x1, x2) :: xs.drop (k + 1)) = validF x2 top (xs.drop (k + 1)) := by
            intro hlt
            simp [validF, hlt, hx1, hx2]
          have HSTEP := Lib.hid hstep
          clear hstep
          rcases Nat.eq_zero_or_pos k with hkz | hkp
          · subst hkz
            clear hpv
            simp only [Nat.zero_mul, Nat.add_zero] at c1 c2
            go_wp2_with fail
            go_quiet ((first | (go_at_call_of 54 (Value.int IntKind.i64 x1); exact Calls.quiet_of_same (cE.out _)) | (go_at_call_of 54 (Value.int IntKind.i64 top); exact Calls.quiet_of_same (cF.out _))))
            go_wp2
            go_roundw
            case rel =>
              refine ⟨1, by omega, by go_num, ?_, ?_, ?_, below_drewN hb _⟩
              · rw [HUP.out]; omega
              · rw [HUP.out]; omega
              · rw [HVK.out, HSTEP.out (by simp [upTo]; omega), HUP.out]
            case measure => simp [intOf]; omega
          · obtain ⟨j, rfl⟩ : ∃ j, k = j + 1 := ⟨k - 1, by omega⟩
            obtain ⟨p1, hp1, hup1⟩ := hpv j rfl
            rw [hup1] at hq0 hq1
            have HUP1 := Lib.hid hup1
            clear hpv hup1
            have hj : ((j + 1 : Nat) : Int) = (j : Int) + 1 := by omega
            have hw1 : IntKind.i64.wrap ((j : Int) + 1 - 1) = j := by rw [show (j : Int) + 1 - 1 = j from by omega]; exact IntWalk.i64_in _ (by omega)
            have hw2 : IntKind.i64.wrap (p1 + 2) = p1 + 2 := IntWalk.i64_in _ (by omega)
            have hj1 : (j : Int) < n := by omega
            have hj2 : (0 : Int) < (j : Int) + 1 := by omega
            by_cases hlt : x1 < p1 + 2
            · go_wp2_with fail
              go_quiet ((first | (go_at_call_of 54 (Value.int IntKind.i64 x1); exact Calls.quiet_of_same (cE.out _)) | (go_at_call_of 54 (Value.int IntKind.i64 top); exact Calls.quiet_of_same (cF.out _))))
              clear hw1 hw2
              go_wp2
              go_ret
              refine ⟨ret_bool ?_, below_drewN hb _⟩
              have hf : validF (upTo xs (j + 1)) top ((x1, x2) :: xs.drop (j + 1 + 1)) = false := by
                rw [← Bool.not_eq_true, validF_cons, HUP1.out]
                intro hc
                simp only at hc
                omega
              rw [HV.out, HVK.out, hf, Bool.and_false]
            · have hlt' : decide (x1 < p1 + 2) = false := by simpa using hlt
              go_wp2_with fail
              go_quiet ((first | (go_at_call_of 54 (Value.int IntKind.i64 x1); exact Calls.quiet_of_same (cE.out _)) | (go_at_call_of 54 (Value.int IntKind.i64 top); exact Calls.quiet_of_same (cF.out _))))
              clear hw1 hw2
              go_wp2
              go_roundw
              case rel =>
                refine ⟨j + 1 + 1, by omega, by go_num, ?_, ?_, ?_, below_drewN hb _⟩
                · rw [HUP.out]; omega
                · rw [HUP.out]; omega
                · rw [HVK.out, HSTEP.out (by rw [HUP1.out]; omega), HUP.out]
              case measure => simp [intOf]; omega
    · obtain rfl : k = n := by omega
      rw [List.drop_of_length_le (by have := HLEN.out; omega)] at hvk
      have HVK := Lib.hid hvk
      have hcl : (decide (k ≤ 40) : Bool) = decide ((k : Int) ≤ 40) := by rw [decide_eq_decide]; omega
      have HCL := Lib.hid hcl
      clear h hvk hcl
      go_wp2_with (go_at_call 54; refine (CT.out _).mono ?_; rintro e w' ⟨rfl, rfl⟩)
      go_ret
      refine ⟨ret_bool ?_, hb⟩
      rw [HV.out, HVK.out, HCL.out]
      simp [validF]

set_option maxHeartbeats 1000000 in
theorem sSpansValid_no (A : Option Addr) (n c : Nat) (xs : PS) (top : Int) (w : World) (h : Rd w A n c xs) (ht : topOk top = false) :
    Calls Try.prog 22 #[.slice A n c, .int .i64 top] w fun e w' => e = .returned (.bool false) ∧ Below w.heap.size w w' := by
  have hlen := h.len
  have hmax : n ≤ maxLen := Nat.le_trans h.2.1 h.2.2.1
  unfold maxLen at hmax
  have HLEN := Lib.hid hlen
  have hin : inR 0 top 65535 = false := by simpa [inR, topOk] using ht
  have CT := Lib.hid (fun W => l1In_as top 0 65535 false hin W)
  clear hlen hin ht
  go_enter Try.func22, Try.ntmps22
  go_wp2
  go_loopw [5] (fun i wr => ∃ (k : Nat), k ≤ n ∧ i = .int .i64 k ∧ Below w.heap.size w wr) (fun i _ => n - (intOf i).toNat)
  case atStart => exact ⟨0, by omega, rfl, Below.refl _ _⟩
  case round =>
    obtain ⟨k, hk, rfl, hb⟩ := hrel
    by_cases hkn : k < n
    · obtain ⟨b, o, rfl, hbl, hc0⟩ := (h.below hb).at_ hkn
      have hlx : k < xs.length := by have := HLEN.out; omega
      obtain ⟨c1, c2⟩ := hc0 hlx
      obtain ⟨x, hx⟩ : ∃ x, x = xs[k] := ⟨_, rfl⟩
      rw [← hx] at c1 c2
      obtain ⟨x1, x2⟩ := x
      simp only at c1 c2
      have hki : (k : Int) < n := by omega
      have hk0 : (0 : Int) ≤ k := by omega
      have hpv : ∀ j, k = j + 1 → ∃ p1, wr.cell? ⟨b, o + j * 2 + 1, none⟩ = some (.int .i64 p1) := by
        intro j hj
        subst hj
        obtain ⟨b2, o2, e2, _, hc2⟩ := (h.below hb).at_ (k := j) (by omega)
        injection e2 with e2
        injection e2 with e3 e4
        subst e3 e4
        have hlj : j < xs.length := by omega
        exact ⟨_, (hc2 hlj).2⟩
      clear hc0 hx h
      cases hP1 : inR 0 x1 x2 with
      | false =>
        have cE := Lib.hid (fun W => l1In_as x1 0 x2 false hP1 W)
        go_wp2_with fail
        go_quiet ((go_at_call_of 54 (Value.int IntKind.i64 x1); exact Calls.quiet_of_same (cE.out _)))
        go_wp2
        go_ret
        exact ⟨rfl, below_drewN hb _⟩
      | true =>
        have cE := Lib.hid (fun W => l1In_as x1 0 x2 true hP1 W)
        cases hP2 : inR 0 x2 top with
        | false =>
          have cF := Lib.hid (fun W => l1In_as x2 0 top false hP2 W)
          go_wp2_with fail
          go_quiet ((first | (go_at_call_of 54 (Value.int IntKind.i64 x1); exact Calls.quiet_of_same (cE.out _)) | (go_at_call_of 54 (Value.int IntKind.i64 top); exact Calls.quiet_of_same (cF.out _))))
          go_wp2
          go_ret
          exact ⟨rfl, below_drewN hb _⟩
        | true =>
          have cF := Lib.hid (fun W => l1In_as x2 0 top true hP2 W)
          rcases Nat.eq_zero_or_pos k with hkz | hkp
          · subst hkz
            clear hpv
            simp only [Nat.zero_mul, Nat.add_zero] at c1 c2
            go_wp2_with fail
            go_quiet ((first | (go_at_call_of 54 (Value.int IntKind.i64 x1); exact Calls.quiet_of_same (cE.out _)) | (go_at_call_of 54 (Value.int IntKind.i64 top); exact Calls.quiet_of_same (cF.out _))))
            go_wp2
            go_roundw
            case rel => exact ⟨1, by omega, by go_num, below_drewN hb _⟩
            case measure => simp [intOf]; omega
          · obtain ⟨j, rfl⟩ : ∃ j, k = j + 1 := ⟨k - 1, by omega⟩
            obtain ⟨p1, hp1⟩ := hpv j rfl
            clear hpv
            have hj : ((j + 1 : Nat) : Int) = (j : Int) + 1 := by omega
            have hw1 : IntKind.i64.wrap ((j : Int) + 1 - 1) = j := by rw [show (j : Int) + 1 - 1 = j from by omega]; exact IntWalk.i64_in _ (by omega)
            have hj1 : (j : Int) < n := by omega
            have hj2 : (0 : Int) < (j : Int) + 1 := by omega
            obtain ⟨q, hw2⟩ : ∃ q, IntKind.i64.wrap (p1 + 2) = q := ⟨_, rfl⟩
            by_cases hlt : x1 < q
            · go_wp2_with fail
              go_quiet ((first | (go_at_call_of 54 (Value.int IntKind.i64 x1); exact Calls.quiet_of_same (cE.out _)) | (go_at_call_of 54 (Value.int IntKind.i64 top); exact Calls.quiet_of_same (cF.out _))))
              clear hw1 hw2
              go_wp2
              go_ret
              exact ⟨rfl, below_drewN hb _⟩
            · have hlt' : decide (x1 < q) = false := by simpa using hlt
              go_wp2_with fail
              go_quiet ((first | (go_at_call_of 54 (Value.int IntKind.i64 x1); exact Calls.quiet_of_same (cE.out _)) | (go_at_call_of 54 (Value.int IntKind.i64 top); exact Calls.quiet_of_same (cF.out _))))
              clear hw1 hw2
              go_wp2
              go_roundw
              case rel => exact ⟨j + 1 + 1, by omega, by go_num, below_drewN hb _⟩
              case measure => simp [intOf]; omega
    · obtain rfl : k = n := by omega
      clear h
      go_wp2_with (go_at_call 54; refine (CT.out _).mono ?_; rintro e w' ⟨rfl, rfl⟩)
      go_ret
      exact ⟨rfl, hb⟩

theorem sSpansValid_any (A : Option Addr) (n c : Nat) (xs : PS) (top : Int) (w : World) (h : Rd w A n c xs) :
    Calls Try.prog 22 #[.slice A n c, .int .i64 top] w fun e w' => e = .returned (.bool (valid xs top)) ∧ Below w.heap.size w w' := by
  cases ht : topOk top with
  | true => exact sSpansValid_yes A n c xs top w h ht
  | false =>
    have hv : valid xs top = false := by simp [valid, ht]
    rw [hv]
    exact sSpansValid_no A n c xs top w h ht
end Go.Proofs.Ytmidegoedgmcnaa
