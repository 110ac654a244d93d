/-
  WALK: spec.SpansOf: 'ofV'.
-/
import Derived.Test.YtbonkolgbcmaoaaAdd
import Derived.Test.YtbonkolgbcmaoaaEmpty
import Derived.Test.YtbonkolgbcmaoaaOpen
import Derived.Test.YtbonkolgbcmaoaaOfP
namespace Go.Proofs.Ytbonkolgbcmaoaa
open Go.ChangeShapes Go.WideShapes Go.ChangeAt Go.RowKit Go.Sort Pf
set_option maxRecDepth 20000

theorem addAll_of {xs : PS} {top : Int} (ht : 0 ≤ top) (ht1 : top ≤ 65535) (hn : xs.length ≤ 40) (k : Nat) (hs : ∀ s, s ∈ xs.take k → 0 ≤ s.1 ∧ s.1 ≤ s.2 ∧ s.2 ≤ top) :
    (∀ s, s ∈ addAll [] (xs.take k) → 0 ≤ s.1 ∧ s.1 ≤ s.2 ∧ s.2 ≤ 65535) ∧ (addAll [] (xs.take k)).length ≤ 40 ∧ (∀ hk : k < xs.length, addAll [] (xs.take (k + 1)) = addF xs[k] false (addAll [] (xs.take k))) := by
  refine ⟨?_, ?_, ?_⟩
  · have hv1 := (addAll_spec (top := top) (a := []) (b := xs.take k) rfl hs).1
    intro s hm
    have := validF_all (Int.le_refl _) hv1 s hm
    omega
  · have := addAll_length (xs.take k) []
    rw [List.length_take] at this
    simp at this
    omega
  · intro hk
    unfold addAll
    rw [List.take_succ_eq_append_getElem hk, List.foldl_append]
    rfl

set_option maxHeartbeats 2000000 in
theorem sSpansOf_any (A : Option Addr) (n c : Nat) (xs : PS) (top : Int) (w : World) (h : Rd w A n c xs) :
    Calls Try.prog 42 #[.slice A n c, .int .i64 top] w (Owns 30 (ofV xs top) w) := by
  obtain rfl : xs.length = n := h.len
  cases hT : inR 0 top 65535 with
  | false =>
    have hno : ofV xs top = [] := ofV_no (by rw [← Bool.not_eq_true, ofOk_iff]; rintro ⟨⟨a, b⟩, -⟩; simp [inR, a, b] at hT)
    rw [hno]
    have CT := Lib.hid (fun W => l1In_as top 0 65535 false hT W)
    clear hno hT h
    go_enter Try.func42, Try.ntmps42
    go_wp2_with (go_at_call 52; refine (CT.out _).mono ?_; rintro e w' ⟨rfl, rfl⟩)
    go_ret
    exact owns_empty (Below.refl _ _)
  | true =>
    have CT := Lib.hid (fun W => l1In_as top 0 65535 true hT W)
    have htb : 0 ≤ top ∧ top ≤ 65535 := by simpa [inR] using hT
    obtain ⟨ht0, ht1⟩ := htb
    by_cases hl : xs.length ≤ 40
    · have hli : decide ((40 : Int) < ((xs.length : Nat) : Int)) = false := by simp; omega
      have own0 := World.ownsRow_lit (base := w.heap.size) (e := 30) (size := 2) w #[] 0 (Nat.le_refl _) (by unfold maxLen; omega) rfl
      have FIN := Lib.hid (addAll_of (xs := xs) ht0 ht1 hl)
      have OWN0 := Lib.hid own0
      clear hT own0
      go_enter Try.func42, Try.ntmps42
      go_wp2_with (go_at_call 52; refine (CT.out _).mono ?_; rintro e w' ⟨rfl, rfl⟩)
      go_loopw [5, 6] (fun o i wr => ∃ (k : Nat) (outs : PS) (A' : Option Addr) (c' : Nat), k ≤ xs.length ∧ i = .int .i64 k ∧ o = .slice A' outs.length c' ∧
          wr.ownsRow w.heap.size 30 2 (.slice A' outs.length c') outs.length (flat outs) ∧ outs = addAll [] (xs.take k) ∧ (∀ s, s ∈ xs.take k → 0 ≤ s.1 ∧ s.1 ≤ s.2 ∧ s.2 ≤ top) ∧ Below w.heap.size w wr)
        (fun _ i _ => xs.length - (intOf i).toNat)
      case atStart => exact ⟨0, [], _, _, Nat.zero_le _, rfl, rfl, OWN0.out, rfl, by simp, below_one _ _⟩
      case round =>
        obtain ⟨k, outs, A', c', hk, rfl, rfl, own, heq, hall, hb⟩ := hrel
        have hs := hb.size
        by_cases hkn : k < xs.length
        · obtain ⟨b, o, rfl, hbl, hc0⟩ := (h.below hb).at_ hkn
          obtain ⟨c1, c2⟩ := hc0 hkn
          obtain ⟨f1, f2, f3⟩ := FIN.out k hall
          have f3 := f3 hkn
          rw [← heq] at f1 f2 f3
          have HS := Lib.hid (show (0 ≤ xs[k].1 ∧ xs[k].1 ≤ xs[k].2 ∧ xs[k].2 ≤ top) → ∀ s, s ∈ xs.take (k + 1) → 0 ≤ s.1 ∧ s.1 ≤ s.2 ∧ s.2 ≤ top from fun hx s hm => by
            rw [List.take_succ_eq_append_getElem hkn, List.mem_append, List.mem_singleton] at hm
            rcases hm with hm | rfl
            · exact hall s hm
            · exact hx)
          have HB := Lib.hid (show ¬ (0 ≤ xs[k].1 ∧ xs[k].1 ≤ xs[k].2 ∧ xs[k].2 ≤ top) → ofV xs top = [] from fun hx => ofV_no (by
            rw [← Bool.not_eq_true, ofOk_iff]; rintro ⟨-, -, hh⟩; exact hx (hh _ (List.getElem_mem hkn))))
          generalize xs[k] = y at c1 c2 f3 HS HB
          obtain ⟨x1, x2⟩ := y
          simp only at c1 c2 HS HB
          have F1 := Lib.hid f1
          have F3 := Lib.hid f3
          have HO := Lib.hid own
          have hki : (k : Int) < xs.length := by omega
          have hk0 : (0 : Int) ≤ k := by omega
          clear f1 f3 heq own hc0 hall h
          cases hP1 : inR 0 x1 x2 with
          | false =>
            have cE := Lib.hid (fun W => l1In_as x1 0 x2 false hP1 W)
            go_wp2_with fail
            go_quiet ((go_at_call_of 52 (Value.int IntKind.i64 x1); exact Calls.quiet_of_same (cE.out _)))
            go_wp2
            go_ret
            rw [HB.out (fun hc => by have : inR 0 x1 x2 = true := by simpa [inR] using ⟨hc.1, hc.2.1⟩
                                     rw [hP1] at this; cases this)]
            exact owns_empty (below_drewN hb _)
          | true =>
            have cE := Lib.hid (fun W => l1In_as x1 0 x2 true hP1 W)
            have hx12 : 0 ≤ x1 ∧ x1 ≤ x2 := by simpa [inR] using hP1
            obtain ⟨hx0, hx1⟩ := hx12
            cases hP2 : inR 0 x2 top with
            | false =>
              have cF := Lib.hid (fun W => l1In_as x2 0 top false hP2 W)
              go_wp2_with fail
              go_quiet ((first | (go_at_call_of 52 (Value.int IntKind.i64 x1); exact Calls.quiet_of_same (cE.out _)) | (go_at_call_of 52 (Value.int IntKind.i64 top); exact Calls.quiet_of_same (cF.out _))))
              go_wp2
              go_ret
              rw [HB.out (fun hc => by have : inR 0 x2 top = true := by simpa [inR] using ⟨by omega, hc.2.2⟩
                                       rw [hP2] at this; cases this)]
              exact owns_empty (below_drewN hb _)
            | true =>
              have cF := Lib.hid (fun W => l1In_as x2 0 top true hP2 W)
              have hx2 : x2 ≤ top := by
                have : 0 ≤ x2 ∧ x2 ≤ top := by simpa [inR] using hP2
                exact this.2
              go_wp2_with fail
              go_quiet ((first | (go_at_call_of 52 (Value.int IntKind.i64 x1); exact Calls.quiet_of_same (cE.out _)) | (go_at_call_of 52 (Value.int IntKind.i64 top); exact Calls.quiet_of_same (cF.out _))))
              go_wp2_with fail
              refine (l1Add_any A' outs.length c' outs x1 x2 _ ((own_rd HO.out).drewN _) (by omega) F1.out hx0 hx1 (by omega)).mono ?_
              rintro e w5 ⟨A5, c5, rfl, own5, hb5⟩
              have H5 := chain (below_drewN hb _) hb5 hs
              have O5 := Lib.hid own5
              clear own5
              go_wp2
              go_roundw
              case rel => exact ⟨k + 1, _, A5, c5, by omega, by go_num, rfl, own_mono O5.out hs, F3.out.symm, HS.out ⟨hx0, hx1, hx2⟩, H5⟩
              case measure => simp [intOf]; omega
        · obtain rfl : k = xs.length := by omega
          rw [List.take_of_length_le (Nat.le_refl _)] at heq hall
          have HV := Lib.hid (show outs = ofV xs top by rw [heq]; exact ofV_add (ofOk_iff.2 ⟨⟨ht0, ht1⟩, hl, hall⟩))
          have HO := Lib.hid own
          clear heq own hall h
          go_wp2
          go_ret
          rw [← HV.out]
          exact ⟨A', c', rfl, HO.out, hb⟩
    · have hli : (40 : Int) < (xs.length : Nat) := by omega
      have hno : ofV xs top = [] := ofV_no (by rw [← Bool.not_eq_true, ofOk_iff]; rintro ⟨-, b, -⟩; omega)
      rw [hno]
      clear hno hT hl h
      go_enter Try.func42, Try.ntmps42
      go_wp2_with (go_at_call 52; refine (CT.out _).mono ?_; rintro e w' ⟨rfl, rfl⟩)
      go_ret
      exact owns_empty (Below.refl _ _)
end Go.Proofs.Ytbonkolgbcmaoaa
