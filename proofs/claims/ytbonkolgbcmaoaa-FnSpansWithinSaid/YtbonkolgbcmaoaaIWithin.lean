/-
  WALK: impl.SpansWithin.
-/
import Derived.Test.YtbonkolgbcmaoaaSweep
import Derived.Test.YtbonkolgbcmaoaaSpansValid
import Derived.Test.YtbonkolgbcmaoaaSetOps
namespace Go.Proofs.Ytbonkolgbcmaoaa
open Go.ChangeShapes Go.WideShapes Go.ChangeAt Go.RowKit Go.Sort Pf
set_option maxRecDepth 20000

theorem len_zero (S : PS) : (((S.length : Nat) : Int) == 0) = decide (S.length = 0) := by rw [Bool.eq_iff_iff]; simp
set_option maxHeartbeats 1000000 in
theorem iSpansWithin_any (A : Option Addr) (n c : Nat) (xs : PS) (B : Option Addr) (m d : Nat) (ys : PS) (top : Int) (w : World) (h : Rd w A n c xs) (h' : Rd w B m d ys) :
    Calls Try.prog 35 #[.slice A n c, .slice B m d, .int .i64 top] w fun e w' => e = .returned (.bool (withinV xs ys top)) ∧ Below w.heap.size w w' := by
  have CA := Lib.hid (iSpansValid_any A n c xs top w h)
  cases hv : valid xs top with
  | false =>
    rw [hv] at CA
    have hop : withinV xs ys top = false := by simp [withinV, hv]
    rw [hop]
    clear hop hv h h'
    go_enter Try.func35, Try.ntmps35
    go_wp2_with fail
    refine (CA.out).mono ?_
    rintro e w1 ⟨rfl, hb1⟩
    go_wp2
    go_ret
    exact ⟨rfl, hb1⟩
  | true =>
    rw [hv] at CA
    have CB := Lib.hid (fun W (H : Below w.heap.size w W) => iSpansValid_any B m d ys top W (h'.below H))
    cases hv' : valid ys top with
    | false =>
      rw [hv'] at CB
      have hop : withinV xs ys top = false := by simp [withinV, hv']
      rw [hop]
      clear hop hv hv' h h'
      go_enter Try.func35, Try.ntmps35
      go_wp2_with fail
      refine (CA.out).mono ?_
      rintro e w1 ⟨rfl, hb1⟩
      go_wp2_with fail
      refine (CB.out w1 hb1).mono ?_
      rintro e w2 ⟨rfl, hb2⟩
      have H := chain hb1 hb2 hb1.size
      go_wp2
      go_ret
      exact ⟨rfl, H⟩
    | true =>
      rw [hv'] at CB
      have hn : n ≤ 40 := by have := (valid_iff.1 hv).2.1; have := h.len; omega
      have hm : m ≤ 40 := by have := (valid_iff.1 hv').2.1; have := h'.len; omega
      have ht := (valid_iff.1 hv).1
      have hop : withinV xs ys top = decide ((setF (fun p q => p && !q) xs ys top).length = 0) := by simp [withinV, hv, hv']
      rw [hop]
      have CM := Lib.hid (fun W (H : Below w.heap.size w W) => sweep_any (fun p q => p && !q) 64 (fun args w => by rfl) (fun p q w => inFirstOnly_any p q w) A n c xs B m d ys top W (h.below H) (h'.below H) ht.1 ht.2 (by omega) (by omega) (valid_F hv) (valid_F hv'))
      clear hop hv hv' h h'
      generalize setF (fun p q => p && !q) xs ys top = S at CM ⊢
      go_enter Try.func35, Try.ntmps35
      go_wp2_with fail
      refine (CA.out).mono ?_
      rintro e w1 ⟨rfl, hb1⟩
      go_wp2_with fail
      refine (CB.out w1 hb1).mono ?_
      rintro e w2 ⟨rfl, hb2⟩
      have H := chain hb1 hb2 hb1.size
      go_wp2_with fail
      refine (CM.out w2 H).mono ?_
      rintro e w3 ⟨A3, c3, rfl, own3, hb3⟩
      clear own3
      have H3 := chain H hb3 H.size
      go_wp2
      go_ret
      exact ⟨ret_bool (len_zero S), H3⟩
end Go.Proofs.Ytbonkolgbcmaoaa
