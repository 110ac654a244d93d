/-
  WALKS: impl.TestsValid, spec.TestsValid: 'tvB'.
-/
import Derived.Test.YtoapnjlpmjcloaaDoorTestsP
import Derived.Deep.LoopGhost
namespace Go.Proofs.YtoapnjlpmjcloaaDoor
open Go.ChangeShapes Go.WideShapes Go.ChangeAt Go.RowKit Go.Sort Pf

set_option maxHeartbeats 1000000 in
theorem sTestsValid_any (A : Option Addr) (n c : Nat) (xs : TS) (w : World) (h : Rt w A n c xs) :
    Calls Tryd.prog 28 #[.slice A n c] w fun e w' => e = .returned (.bool (tvB xs)) ∧ Below w.heap.size w w' := by
  obtain rfl : xs.length = n := h.len
  have hmax : xs.length ≤ maxLen := Nat.le_trans h.2.1 h.2.2.1
  unfold maxLen at hmax
  have HR := Lib.hid h
  clear h
  go_enter Tryd.func28, Tryd.ntmps28
  go_wp2
  go_loopg [3] xs.length (fun g i wr => ∃ k : Nat, g + k = xs.length ∧ i = .int .i64 k ∧ (xs.take k).all tOk = true ∧ Below w.heap.size w wr)
  case atStart => exact ⟨0, by omega, rfl, by simp, Below.refl _ _⟩
  case round =>
    obtain ⟨k, hg, rfl, ha, hb⟩ := hrel
    have HG := Lib.hid hg
    have hk : k ≤ xs.length := by omega
    clear hg
    by_cases hkn : k < xs.length
    · obtain ⟨b, o, hA, hbl, hc0⟩ := (HR.out.below hb).at_ hkn
      subst hA
      obtain ⟨c1, c2, c3, c4⟩ := hc0 hkn
      have HN := Lib.hid (fun (e : tOk xs[k] = true) => all_next hkn ha e)
      have HF := Lib.hid (fun (e : tOk xs[k] = false) => tv_one k hkn e)
      generalize xs[k] = x at c1 c2 c3 c4 HN HF
      obtain ⟨fl, lo, hi, nt⟩ := x
      simp only at c1 c2 c3 c4
      have hki : (k : Int) < xs.length := by omega
      have hk0 : (0 : Int) ≤ k := by omega
      have hs := hb.size
      clear ha hc0
      go_wp2_with fail
      refine (sTestValid_any fl lo hi nt _).mono ?_
      rintro e w1 ⟨rfl, hb1⟩
      have H1 := Lib.hid (chain hb hb1 hs)
      clear hb1 c1 c2 c3 c4 hb
      cases hq : tsB fl lo hi with
      | false =>
        have HV := Lib.hid (HF.out hq)
        clear hq
        go_wp2
        go_ret
        exact ⟨ret_bool HV.out.symm, H1.out⟩
      | true =>
        have HV := Lib.hid (HN.out hq)
        clear hq
        go_wp2
        go_roundg (xs.length - (k + 1))
        case measure => have := HG.out; omega
        case rel => exact ⟨k + 1, by omega, by go_num, HV.out, H1.out⟩
    · obtain rfl : k = xs.length := by omega
      rw [List.take_of_length_le (Nat.le_refl _)] at ha
      have HV := Lib.hid (show decide ((xs.length : Int) ≤ 6) = tvB xs by rw [tv_all ha, decide_eq_decide]; omega)
      clear ha
      go_wp2
      go_ret
      exact ⟨ret_bool HV.out, hb⟩

set_option maxHeartbeats 1000000 in
theorem iTestsValid_any (A : Option Addr) (n c : Nat) (xs : TS) (w : World) (h : Rt w A n c xs) (hT : Tab w) :
    Calls Tryd.prog 27 #[.slice A n c] w fun e w' => e = .returned (.bool (tvB xs)) ∧ Below w.heap.size w w' := by
  obtain rfl : xs.length = n := h.len
  have HR := Lib.hid h
  have CT := Lib.hid (fun W (hW : Below w.heap.size w W) => hT.below hW)
  clear h hT
  by_cases hl : xs.length ≤ 6
  · have hli : decide ((6 : Int) < ((xs.length : Nat) : Int)) = false := by simp; omega
    go_enter Tryd.func27, Tryd.ntmps27
    go_wp2
    go_loopw [10] (fun i wr => ∃ k : Nat, k ≤ xs.length ∧ i = .int .i64 k ∧ (xs.take k).all tOk = true ∧ Below w.heap.size w wr) (fun i _ => xs.length - (intOf i).toNat)
    case atStart => exact ⟨0, Nat.zero_le _, rfl, by simp, Below.refl _ _⟩
    case round =>
      obtain ⟨k, hk, rfl, ha, hb⟩ := hrel
      by_cases hkn : k < xs.length
      · obtain ⟨b, o, hA, hbl, hc0⟩ := (HR.out.below hb).at_ hkn
        subst hA
        obtain ⟨c1, c2, c3, c4⟩ := hc0 hkn
        have HN := Lib.hid (fun (e : tOk xs[k] = true) => all_next hkn ha e)
        have HF := Lib.hid (fun (e : tOk xs[k] = false) => tv_one k hkn e)
        generalize xs[k] = x at c1 c2 c3 c4 HN HF
        obtain ⟨fl, lo, hi, nt⟩ := x
        simp only at c1 c2 c3 c4
        have hki : (k : Int) < xs.length := by omega
        have hk0 : (0 : Int) ≤ k := by omega
        have hs := hb.size
        have HB := Lib.hid (hb.alloc hs (.cells #[.int .i64 fl, .int .i64 lo, .int .i64 hi, .bool nt] 32))
        clear ha hc0 hb
        go_wp2_with fail
        refine (iTestValid_any fl lo hi nt _ (CT.out _ HB.out)).mono ?_
        rintro e w1 ⟨rfl, hb1⟩
        have H1 := Lib.hid (chain HB.out hb1 (by simp; omega))
        clear hb1 c1 c2 c3 c4
        cases hq : tsB fl lo hi with
        | false =>
          have HV := Lib.hid (HF.out hq)
          clear hq
          go_wp2
          go_ret
          exact ⟨ret_bool HV.out.symm, H1.out⟩
        | true =>
          have HV := Lib.hid (HN.out hq)
          clear hq
          go_wp2
          go_roundw
          case rel => exact ⟨k + 1, by omega, by go_num, HV.out, H1.out⟩
          case measure => simp [intOf]; omega
      · obtain rfl : k = xs.length := by omega
        rw [List.take_of_length_le (Nat.le_refl _)] at ha
        have HV := Lib.hid (show tvB xs = true by rw [tv_all ha]; simpa using hl)
        clear ha
        go_wp2
        go_ret
        exact ⟨ret_bool HV.out.symm, hb⟩
  · have hli : decide ((6 : Int) < ((xs.length : Nat) : Int)) = true := by simp; omega
    have HV := Lib.hid (show tvB xs = false by simp [tvB, hl])
    clear hl
    go_enter Tryd.func27, Tryd.ntmps27
    go_wp2
    go_ret
    exact ⟨ret_bool HV.out.symm, Below.refl _ _⟩
end Go.Proofs.YtoapnjlpmjcloaaDoor
