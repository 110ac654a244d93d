/-
  WALK: spec.SpansUnion: 'opF (p || q)'.
-/
import Derived.Test.YtcodmhndigkplaaAdd
import Derived.Test.YtcodmhndigkplaaSpecOps
import Derived.Test.YtcodmhndigkplaaOpen
import Derived.Laws.AppendOwnNone
namespace Go.Proofs.Ytcodmhndigkplaa
open Go.ChangeShapes Go.WideShapes Go.ChangeAt Go.RowKit Go.Sort Pf

theorem addAll_steps {xs ys : PS} {top : Int} (hx : validF (-2) top xs = true) (hy : ∀ s, s ∈ ys → 0 ≤ s.1 ∧ s.1 ≤ s.2 ∧ s.2 ≤ top) (ht : top ≤ 65535) (hn : xs.length ≤ 40) (hm : ys.length ≤ 40) (k : Nat) :
    (∀ s, s ∈ addAll xs (ys.take k) → 0 ≤ s.1 ∧ s.1 ≤ s.2 ∧ s.2 ≤ 65535) ∧ (addAll xs (ys.take k)).length ≤ 80 ∧ (∀ hk : k < ys.length, addAll xs (ys.take (k + 1)) = addF ys[k] false (addAll xs (ys.take k))) := by
  refine ⟨?_, ?_, ?_⟩
  · have hv1 := (addAll_spec (b := ys.take k) hx fun s hs => hy s (List.mem_of_mem_take hs)).1
    intro s hs
    have := validF_all (Int.le_refl _) hv1 s hs
    omega
  · have := addAll_length (ys.take k) xs
    rw [List.length_take] at this
    omega
  · intro hk
    unfold addAll
    rw [List.take_succ_eq_append_getElem hk, List.foldl_append]
    rfl

set_option maxRecDepth 100000 in
set_option maxHeartbeats 1000000 in
theorem sSpansUnion_any (A : Option Addr) (n c : Nat) (xs : PS) (B : Option Addr) (m d : Nat) (ys : PS) (top : Int) (w : World) (h : Rd w A n c xs) (h' : Rd w B m d ys) (hA : A = none → c = 0) :
    Calls Try.prog 49 #[.slice A n c, .slice B m d, .int .i64 top] w (Owns 33 (opF (fun p q => p || q) xs ys top) w) := by
  have CA := Lib.hid (sSpansValid_any A n c xs top w h)
  cases hv : valid xs top with
  | false =>
    rw [hv] at CA
    have hop : opF (fun p q => p || q) xs ys top = [] := by simp [opF, hv]
    rw [hop]
    clear hop hv h h'
    go_enter Try.func49, Try.ntmps49
    go_wp2_with fail
    refine (CA.out).mono ?_
    rintro e w1 ⟨rfl, hb1⟩
    go_wp2
    go_ret
    exact owns_empty hb1
  | true =>
    rw [hv] at CA
    have CB := Lib.hid (fun W (H : Below w.heap.size w W) => sSpansValid_any B m d ys top W (h'.below H))
    cases hv' : valid ys top with
    | false =>
      rw [hv'] at CB
      have hop : opF (fun p q => p || q) xs ys top = [] := by simp [opF, hv']
      rw [hop]
      clear hop hv hv' h h'
      go_enter Try.func49, Try.ntmps49
      go_wp2_with fail
      refine (CA.out).mono ?_
      rintro e w1 ⟨rfl, hb1⟩
      go_wp2_with fail
      refine (CB.out w1 hb1).mono ?_
      rintro e w2 ⟨rfl, hb2⟩
      have H := chain hb1 hb2 hb1.size
      go_wp2
      go_ret
      exact owns_empty H
    | true =>
      rw [hv'] at CB
      obtain rfl : xs.length = n := h.len
      obtain rfl : ys.length = m := h'.len
      have hn : xs.length ≤ 40 := (valid_iff.1 hv).2.1
      have hm : ys.length ≤ 40 := (valid_iff.1 hv').2.1
      have ht := (valid_iff.1 hv).1
      have hop : opF (fun p q => p || q) xs ys top = capF (addAll xs ys) := by rw [addAll_eq (valid_iff.1 hv).1.1 (valid_F hv) (valid_F hv')]; simp [opF, hv, hv']
      rw [hop]
      have VA := Lib.hid (valid_F hv)
      have VB := Lib.hid (validF_all (by omega) (valid_F hv'))
      obtain ⟨i0, hi, hz0, hz1, hz2⟩ := info_parts infoSpanE
      clear hop hv hv'
      go_enter Try.func49, Try.ntmps49
      go_wp2_with fail
      refine (CA.out).mono ?_
      rintro e w1 ⟨rfl, hb1⟩
      go_wp2_with fail
      refine (CB.out w1 hb1).mono ?_
      rintro e w2 ⟨rfl, hb2⟩
      have H := chain hb1 hb2 hb1.size
      have HS := H.size
      have r0 := (h.below H).alloc (.cells #[] 33)
      have own0 := World.ownsRow_lit (e := 33) (size := 2) w2 #[] 0 (Nat.le_refl _) (by unfold maxLen; omega) rfl
      have hA0 : A = none → xs.length = 0 := by
        intro e
        rcases Nat.eq_zero_or_pos xs.length with hz | hz
        · exact hz
        · obtain ⟨b, o, e', _⟩ := h.2.2.2 hz
          rw [e] at e'; cases e'
      have HA0 := Lib.hid hA0
      have HA1 := Lib.hid hA
      have H' := Lib.hid (H.alloc HS (.cells #[] 33))
      clear hA0 hA
      have FIN := Lib.hid (addAll_steps VA.out VB.out ht.2 hn hm)
      cases A with
      | none =>
        obtain rfl := HA1.out rfl
        have hx0 : xs = [] := List.length_eq_zero_iff.1 (HA0.out rfl)
        have hl0 : xs.length = 0 := HA0.out rfl
        rw [hl0]
        have HX := Lib.hid hx0
        have HL0 := Lib.hid hl0
        clear hx0 hl0
        go_wp2_with (first
          | (at_builtin; go_loud (refine wpList_append_own_none rfl _ _ 47 rfl w2.heap.size 33 i0 2 Try.underlying47 hi _ 0 _ rfl own0 rfl ?_; have own1 := Lib.hid own0; clear own0)))
        go_loopw [7, 8] (fun o i wr => ∃ (k : Nat) (outs : PS) (A' : Option Addr) (c' : Nat), k ≤ ys.length ∧ i = .int .i64 k ∧ o = .slice A' outs.length c' ∧
            wr.ownsRow w.heap.size 33 2 (.slice A' outs.length c') outs.length (flat outs) ∧ outs = addAll xs (ys.take k) ∧ Below w.heap.size w wr)
          (fun _ i _ => ys.length - (intOf i).toNat)
        case atStart =>
          refine ⟨0, [], _, _, Nat.zero_le _, rfl, rfl, own_mono own1.out HS, ?_, H'.out⟩
          rw [HX.out]; rfl
        case round =>
          obtain ⟨k, outs, A', c', hk, rfl, rfl, own, heq, hb⟩ := hrel
          have hs := hb.size
          by_cases hkn : k < ys.length
          · obtain ⟨b, o, rfl, hbl, hc0⟩ := h'.at_ hkn
            obtain ⟨d1, d2⟩ := hc0 hkn
            obtain ⟨f1, f2, f3⟩ := FIN.out k
            have f3 := f3 hkn
            have y3 := VB.out _ (List.getElem_mem hkn)
            rw [← heq] at f1 f2 f3
            generalize ys[k] = y at d1 d2 f3 y3
            obtain ⟨y1, y2⟩ := y
            simp only at d1 d2 y3
            obtain ⟨y30, y31, y32⟩ := y3
            have c1 := keepCell hb d1
            have c2 := keepCell hb d2
            have F1 := Lib.hid f1
            have F3 := Lib.hid f3
            have HO := Lib.hid own
            clear f1 f3 heq own hc0 d1 d2
            go_wp2_with fail
            refine (l1Add_any A' outs.length c' outs y1 y2 _ (own_rd HO.out) (by omega) F1.out y30 y31 (by omega)).mono ?_
            rintro e w5 ⟨A5, c5, rfl, own5, hb5⟩
            have H5 := chain hb hb5 hs
            have O5 := Lib.hid own5
            clear own5
            go_wp2
            go_roundw
            case rel => exact ⟨k + 1, _, A5, c5, by omega, by go_num, rfl, own_mono O5.out hs, F3.out.symm, H5⟩
            case measure => simp [intOf]; omega
          · obtain rfl : k = ys.length := by omega
            rw [List.take_of_length_le (Nat.le_refl _)] at heq
            have f2 := (FIN.out ys.length).2.1
            rw [List.take_of_length_le (Nat.le_refl _), ← heq] at f2
            have HO := Lib.hid own
            have HEQ := Lib.hid heq
            clear heq own
            by_cases hl : outs.length ≤ 40
            · go_wp2
              go_ret
              rw [← HEQ.out, show capF outs = outs from if_pos hl]
              exact ⟨A', c', rfl, HO.out, hb⟩
            · have hl1 : (40 : Int) < (outs.length : Nat) := by omega
              go_wp2
              go_ret
              rw [← HEQ.out, show capF outs = [] from if_neg hl]
              exact owns_empty hb
      | some ad =>
        go_wp2_with (first
          | (at_builtin; go_loud (refine wpList_append_own _ rfl _ _ 47 rfl w2.heap.size 33 i0 _ 2 16 Try.underlying47 hi hz0 hz1 hz2 rfl (by decide) _ _ _ rfl own0 ad xs.length c (flat xs) rfl (flat_length _) r0.news (flat_one _) (by unfold maxLen; omega) (by omega) (by simp) ?_; intro v1 w3 own1 hg1 _; have own1 := Lib.hid own1; have HG1 := Lib.hid hg1; clear hg1)))
        go_loopw [7, 8] (fun o i wr => ∃ (k : Nat) (outs : PS) (A' : Option Addr) (c' : Nat), k ≤ ys.length ∧ i = .int .i64 k ∧ o = .slice A' outs.length c' ∧
            wr.ownsRow w.heap.size 33 2 (.slice A' outs.length c') outs.length (flat outs) ∧ outs = addAll xs (ys.take k) ∧ Below w.heap.size w wr)
          (fun _ i _ => ys.length - (intOf i).toNat)
        case atStart =>
          have o1 : w3.ownsRow w2.heap.size 33 2 v1 (0 + xs.length) (flat xs) := own1.out
          rw [Nat.zero_add] at o1
          obtain ⟨A', c', hv⟩ := own_slice o1
          subst hv
          refine ⟨0, xs, _, _, Nat.zero_le _, rfl, rfl, own_mono o1 HS, rfl, H'.out.grown HG1.out (by simp; omega) (fun k hk => ?_)⟩
          have := (own0.lt k hk).1
          omega
        case round =>
          obtain ⟨k, outs, A', c', hk, rfl, rfl, own, heq, hb⟩ := hrel
          have hs := hb.size
          by_cases hkn : k < ys.length
          · obtain ⟨b, o, rfl, hbl, hc0⟩ := h'.at_ hkn
            obtain ⟨d1, d2⟩ := hc0 hkn
            obtain ⟨f1, f2, f3⟩ := FIN.out k
            have f3 := f3 hkn
            have y3 := VB.out _ (List.getElem_mem hkn)
            rw [← heq] at f1 f2 f3
            generalize ys[k] = y at d1 d2 f3 y3
            obtain ⟨y1, y2⟩ := y
            simp only at d1 d2 y3
            obtain ⟨y30, y31, y32⟩ := y3
            have c1 := keepCell hb d1
            have c2 := keepCell hb d2
            have F1 := Lib.hid f1
            have F3 := Lib.hid f3
            have HO := Lib.hid own
            clear f1 f3 heq own hc0 d1 d2
            go_wp2_with fail
            refine (l1Add_any A' outs.length c' outs y1 y2 _ (own_rd HO.out) (by omega) F1.out y30 y31 (by omega)).mono ?_
            rintro e w5 ⟨A5, c5, rfl, own5, hb5⟩
            have H5 := chain hb hb5 hs
            have O5 := Lib.hid own5
            clear own5
            go_wp2
            go_roundw
            case rel => exact ⟨k + 1, _, A5, c5, by omega, by go_num, rfl, own_mono O5.out hs, F3.out.symm, H5⟩
            case measure => simp [intOf]; omega
          · obtain rfl : k = ys.length := by omega
            rw [List.take_of_length_le (Nat.le_refl _)] at heq
            have f2 := (FIN.out ys.length).2.1
            rw [List.take_of_length_le (Nat.le_refl _), ← heq] at f2
            have HO := Lib.hid own
            have HEQ := Lib.hid heq
            clear heq own
            by_cases hl : outs.length ≤ 40
            · go_wp2
              go_ret
              rw [← HEQ.out, show capF outs = outs from if_pos hl]
              exact ⟨A', c', rfl, HO.out, hb⟩
            · have hl1 : (40 : Int) < (outs.length : Nat) := by omega
              go_wp2
              go_ret
              rw [← HEQ.out, show capF outs = [] from if_neg hl]
              exact owns_empty hb
end Go.Proofs.Ytcodmhndigkplaa
