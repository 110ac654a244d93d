/-
  WALKS: spec.PrefixesSpans, impl.PrefixesSpans: 'prefV'; JoinPrefixes: 'joinV'.
-/
import Derived.Test.YtmidegoedgmcnaaJoinP
import Derived.Test.YtmidegoedgmcnaaSpecOf
import Derived.Test.YtmidegoedgmcnaaImplOf
import Derived.Test.YtmidegoedgmcnaaPs
namespace Go.Proofs.Ytmidegoedgmcnaa
open Go.ChangeShapes Go.WideShapes Go.ChangeAt Go.RowKit Go.Sort Pf
set_option maxRecDepth 20000

theorem sp_take {ps : PS} {k : Nat} (hk : k < ps.length) : spansF (ps.take (k + 1)) = spansF (ps.take k) ++ [(ps[k].1, ps[k].1 + pw ps[k].2 - 1)] := by
  rw [List.take_succ_eq_append_getElem hk, spansF_append]; rfl
theorem ok_take {ps : PS} {k : Nat} (hk : k < ps.length) (h : pfxOk (ps.take k) = true) (h' : pvB ps[k].1 ps[k].2 = true) : pfxOk (ps.take (k + 1)) = true := by
  rw [List.take_succ_eq_append_getElem hk]
  simp only [pfxOk, List.all_append] at h ⊢
  rw [h]; simp [h']
theorem ok_bad {ps : PS} {k : Nat} (hk : k < ps.length) (h' : pvB ps[k].1 ps[k].2 = false) : prefV ps = [] := by
  have : pfxOk ps = false := by
    rw [← Bool.not_eq_true, pfxOk_iff]
    intro hh
    have := hh _ (List.getElem_mem hk)
    rw [h'] at this
    cases this
  simp [prefV, this]

theorem prefV_length (ps : PS) : (prefV ps).length ≤ 40 := (valid_iff.1 (prefV_valid ps)).2.1

set_option maxHeartbeats 1000000 in
theorem sPrefixesSpans_any (A : Option Addr) (n c : Nat) (ps : PS) (w : World) (h : Rd w A n c ps) (hn : n ≤ 1048576) :
    Calls Try.prog 13 #[.slice A n c] w (Owns 32 (prefV ps) w) := by
  obtain rfl : ps.length = n := h.len
  obtain ⟨i0, hi, hz0, hz1, hz2⟩ := info_parts infoSpanE
  have OWN0 := Lib.hid (World.ownsRow_lit (base := w.heap.size) (e := 32) (size := 2) w #[] 0 (Nat.le_refl _) (by unfold maxLen; omega) rfl)
  have HR := Lib.hid h
  clear h
  go_enter Try.func13, Try.ntmps13
  go_wp2
  go_loopw [3, 4] (fun o i wr => ∃ (k : Nat) (A' : Option Addr) (c' : Nat), k ≤ ps.length ∧ i = .int .i64 k ∧ o = .slice A' k c' ∧
      wr.ownsRow w.heap.size 32 2 (.slice A' k c') k (flat (spansF (ps.take k))) ∧ pfxOk (ps.take k) = true ∧ Below w.heap.size w wr)
    (fun _ i _ => ps.length - (intOf i).toNat)
  case atStart => exact ⟨0, _, _, Nat.zero_le _, rfl, rfl, OWN0.out, rfl, below_one _ _⟩
  case round =>
    clear OWN0
    obtain ⟨k, A', c', hk, rfl, rfl, own, hall, hb⟩ := hrel
    have hs := hb.size
    by_cases hkn : k < ps.length
    · obtain ⟨b, o, hA, hbl, hc0⟩ := (HR.out.below hb).at_ hkn
      subst hA
      obtain ⟨d1, d2⟩ := hc0 hkn
      have hST := sp_take hkn
      have HOK := Lib.hid (ok_take hkn hall)
      have HBD := Lib.hid (ok_bad (ps := ps) hkn)
      generalize ps[k] = y at d1 d2 hST HOK HBD
      obtain ⟨x1, x2⟩ := y
      simp only at d1 d2 hST HOK HBD
      have HST := Lib.hid hST
      have HO := Lib.hid own
      have HB := Lib.hid hb
      have hki : (k : Int) < ps.length := by omega
      have hk0 : (0 : Int) ≤ k := by omega
      clear hST hc0 own hall hb
      cases hv : pvB x1 x2 with
      | false =>
        go_wp2_with fail
        refine (sPrefixSpan_no x1 x2 _ hv).mono ?_
        rintro e w1 ⟨rfl, hb1⟩
        have H1 := chain HB.out hb1 hs
        have HV := Lib.hid (chain H1 (below_one w1 (.cells #[.int .i64 0, .int .i64 0] 32)) H1.size)
        clear hb1 H1 d1 d2
        go_upto_region 6 with fail
        generalize w1.alloc (.cells #[.int .i64 0, .int .i64 0] 32) = V at HV ⊢
        go_wp2
        go_ret
        rw [HBD.out hv]
        exact owns_empty HV.out
      | true =>
        go_wp2_with fail
        refine (sPrefixSpan_yes x1 x2 _ hv).mono ?_
        rintro e w1 ⟨rfl, hb1⟩
        have OK := Lib.hid (HOK.out hv)
        obtain ⟨z, hz⟩ : ∃ z, x1 + pw x2 - 1 = z := ⟨_, rfl⟩
        rw [hz] at HST ⊢
        have H1 := chain HB.out hb1 hs
        have hx := below_one w1 (.cells #[.int .i64 x1, .int .i64 z] 32)
        have HV := Lib.hid (chain H1 hx H1.size)
        have KQ := Lib.hid (show (w1.alloc (.cells #[.int .i64 x1, .int .i64 z] 32)).cell? ⟨w1.heap.size, 0, none⟩ = some (.int .i64 x1) ∧ (w1.alloc (.cells #[.int .i64 x1, .int .i64 z] 32)).cell? ⟨w1.heap.size, 1, none⟩ = some (.int .i64 z) from ⟨by go_cell, by go_cell⟩)
        have HO1 := Lib.hid (own_below (own_below HO.out hb1) hx)
        clear hb1 H1 d1 d2 hx HO HB HOK HBD hz hv
        go_upto_region 6 with fail
        generalize hQ : w1.heap.size = Q at KQ
        generalize w1.alloc (.cells #[.int .i64 x1, .int .i64 z] 32) = V at *
        clear hQ
        obtain ⟨q0, q1⟩ := KQ.out
        have hsV := HV.out.size
        go_wp2_with (first
          | (at_builtin; refine wpList_append_own _ rfl (.tmp 25) (.tmp 27) 25 rfl w.heap.size 32 i0 _ 2 16 Try.underlying25 hi hz0 hz1 hz2 rfl (by decide) _ _ _ rfl (HO1.out.alloc _) ⟨V.heap.size, 0, none⟩ 1 1 [.int .i64 x1, .int .i64 z] rfl rfl (news_cells _ _) (news_one _ _) (by unfold maxLen; omega) (by omega) (by simp; omega) ?_; intro v1 w1 own1 hg1 _; obtain ⟨A2, c3, hv1, own2, hb2⟩ := push_own HV.out hsV _ HO1.out own1 hg1; have HV1 := Lib.hid hv1; have HO2 := Lib.hid own2; have HB2 := Lib.hid hb2; clear hv1 own2 own1 hg1 hb2))
        go_roundw
        case rel => exact ⟨k + 1, A2, c3, by omega, by go_num, HV1.out, by rw [HST.out]; exact HO2.out, OK.out, HB2.out⟩
        case measure => simp [intOf]; omega
    · obtain rfl : k = ps.length := by omega
      rw [List.take_of_length_le (Nat.le_refl _)] at own hall
      have HF := Lib.hid (prefV_of hall)
      have CS := Lib.hid (sSpansOf_any _ _ _ (spansF ps) 65535 wr (own_rd own))
      have HB := Lib.hid hb
      clear own hall hb
      go_wp2_with fail
      refine (CS.out).mono ?_
      rintro e w2 ⟨A2, c2, rfl, own2, hb2⟩
      have HZ := Lib.hid (show Owns 32 (ofV (spansF ps) 65535) w (.returned (.slice A2 (ofV (spansF ps) 65535).length c2)) w2 from ⟨A2, c2, rfl, own_mono own2 hs, chain HB.out hb2 hs⟩)
      clear own2 hb2
      go_wp2
      go_ret
      rw [HF.out]
      exact HZ.out

set_option maxHeartbeats 1000000 in
theorem iPrefixesSpans_any (A : Option Addr) (n c : Nat) (ps : PS) (w : World) (h : Rd w A n c ps) :
    Calls Try.prog 11 #[.slice A n c] w (Owns 32 (prefV ps) w) := by
  obtain rfl : ps.length = n := h.len
  have HR := Lib.hid h
  clear h
  by_cases hl : ps.length ≤ 40
  · have hli : decide ((40 : Int) < ((ps.length : Nat) : Int)) = false := by simp; omega
    obtain ⟨i0, hi, hz0, hz1, hz2⟩ := info_parts infoSpanE
    have hbytes : i0.bytes * ps.length ≤ 281474976710656 := by rw [hz2]; omega
    have hmax : ps.length ≤ maxLen := by unfold maxLen; omega
    go_enter Try.func11, Try.ntmps11
    go_wp2_with (at_make; refine wpList_make_own _ rfl (.const (.int .i64 0)) (.tmp 12) 25 rfl w.heap.size 32 i0 _ 2 Try.underlying25 hi hz0 hz1 .i64 .i64 _ ps.length rfl rfl (by omega) hbytes hmax (Nat.le_refl _) ?_; intro w1 own1 hg1; have HO1 := Lib.hid own1; have HG1 := Lib.hid hg1; clear own1 hg1)
    have HB1 := Lib.hid (show Below w.heap.size w w1 from (Below.refl _ _).grown HG1.out (Nat.le_refl _) (by simp))
    go_loopw [3, 16] (fun o i wr => ∃ (k : Nat) (A' : Option Addr) (c' : Nat), k ≤ ps.length ∧ i = .int .i64 k ∧ o = .slice A' k c' ∧
        wr.ownsRow w.heap.size 32 2 (.slice A' k c') k (flat (spansF (ps.take k))) ∧ pfxOk (ps.take k) = true ∧ Below w.heap.size w wr)
      (fun _ i _ => ps.length - (intOf i).toNat)
    case atStart => exact ⟨0, _, _, Nat.zero_le _, rfl, rfl, HO1.out, rfl, HB1.out⟩
    case round =>
      clear HO1 HG1 HB1
      obtain ⟨k, A', c', hk, rfl, rfl, own, hall, hb⟩ := hrel
      have hs := hb.size
      by_cases hkn : k < ps.length
      · obtain ⟨b, o, hA, hbl, hc0⟩ := (HR.out.below hb).at_ hkn
        subst hA
        obtain ⟨d1, d2⟩ := hc0 hkn
        have hST := sp_take hkn
        have HOK := Lib.hid (ok_take hkn hall)
        have HBD := Lib.hid (ok_bad (ps := ps) hkn)
        generalize ps[k] = y at d1 d2 hST HOK HBD
        obtain ⟨x1, x2⟩ := y
        simp only at d1 d2 hST HOK HBD
        have HST := Lib.hid hST
        have hA1 := below_one wr (.cells #[.int .i64 x1, .int .i64 x2] 30)
        have HO := Lib.hid (own_below own hA1)
        have HB := Lib.hid (chain hb hA1 hs)
        have hki : (k : Int) < ps.length := by omega
        have hk0 : (0 : Int) ≤ k := by omega
        clear hST hc0 own hall hb hA1
        cases hv : pvB x1 x2 with
        | false =>
          go_wp2_with fail
          refine (iPrefixSpan_no x1 x2 _ hv).mono ?_
          rintro e w1 ⟨rfl, hb1⟩
          have H1 := chain HB.out hb1 HB.out.size
          have HV := Lib.hid (chain H1 (below_one w1 (.cells #[.int .i64 0, .int .i64 0] 32)) H1.size)
          clear hb1 H1 d1 d2
          go_upto_region 8 with fail
          generalize w1.alloc (.cells #[.int .i64 0, .int .i64 0] 32) = V at HV ⊢
          go_wp2
          go_ret
          rw [HBD.out hv]
          exact owns_nil HV.out
        | true =>
          go_wp2_with fail
          refine (iPrefixSpan_yes x1 x2 _ hv).mono ?_
          rintro e w1 ⟨rfl, hb1⟩
          have OK := Lib.hid (HOK.out hv)
          obtain ⟨z, hz⟩ : ∃ z, x1 + pw x2 - 1 = z := ⟨_, rfl⟩
          rw [hz] at HST ⊢
          have H1 := chain HB.out hb1 HB.out.size
          have hx := below_one w1 (.cells #[.int .i64 x1, .int .i64 z] 32)
          have HV := Lib.hid (chain H1 hx H1.size)
          have KQ := Lib.hid (show (w1.alloc (.cells #[.int .i64 x1, .int .i64 z] 32)).cell? ⟨w1.heap.size, 0, none⟩ = some (.int .i64 x1) ∧ (w1.alloc (.cells #[.int .i64 x1, .int .i64 z] 32)).cell? ⟨w1.heap.size, 1, none⟩ = some (.int .i64 z) from ⟨by go_cell, by go_cell⟩)
          have HO1 := Lib.hid (own_below (own_below HO.out hb1) hx)
          clear hb1 H1 d1 d2 hx HO HB HOK HBD hz hv
          go_upto_region 8 with fail
          generalize hQ : w1.heap.size = Q at KQ
          generalize w1.alloc (.cells #[.int .i64 x1, .int .i64 z] 32) = V at *
          clear hQ
          obtain ⟨q0, q1⟩ := KQ.out
          have hsV := HV.out.size
          go_wp2_with (first
            | (at_builtin; refine wpList_append_own _ rfl (.tmp 27) (.tmp 29) 25 rfl w.heap.size 32 i0 _ 2 16 Try.underlying25 hi hz0 hz1 hz2 rfl (by decide) _ _ _ rfl (HO1.out.alloc _) ⟨V.heap.size, 0, none⟩ 1 1 [.int .i64 x1, .int .i64 z] rfl rfl (news_cells _ _) (news_one _ _) (by unfold maxLen; omega) (by omega) (by simp; omega) ?_; intro v1 w1 own1 hg1 _; obtain ⟨A2, c3, hv1, own2, hb2⟩ := push_own HV.out hsV _ HO1.out own1 hg1; have HV1 := Lib.hid hv1; have HO2 := Lib.hid own2; have HB2 := Lib.hid hb2; clear hv1 own2 own1 hg1 hb2))
          go_roundw
          case rel => exact ⟨k + 1, A2, c3, by omega, by go_num, HV1.out, by rw [HST.out]; exact HO2.out, OK.out, HB2.out⟩
          case measure => simp [intOf]; omega
      · obtain rfl : k = ps.length := by omega
        rw [List.take_of_length_le (Nat.le_refl _)] at own hall
        have HF := Lib.hid (prefV_of hall)
        have CS := Lib.hid (iSpansOf_any _ _ _ (spansF ps) 65535 wr (own_rd own))
        have HB := Lib.hid hb
        clear own hall hb
        go_wp2_with fail
        refine (CS.out).mono ?_
        rintro e w2 ⟨A2, c2, rfl, own2, hb2⟩
        have HZ := Lib.hid (show Owns 32 (ofV (spansF ps) 65535) w (.returned (.slice A2 (ofV (spansF ps) 65535).length c2)) w2 from ⟨A2, c2, rfl, own_mono own2 hs, chain HB.out hb2 hs⟩)
        clear own2 hb2
        go_wp2
        go_ret
        rw [HF.out]
        exact HZ.out
  · have hli : decide ((40 : Int) < ((ps.length : Nat) : Int)) = true := by simp; omega
    have HF := Lib.hid (show prefV ps = [] by
      cases hq : prefV ps with
      | nil => rfl
      | cons a r => exact absurd (prefV_ok (by rw [hq]; simp)).2 hl)
    clear hl
    go_enter Try.func11, Try.ntmps11
    go_wp2
    go_ret
    rw [HF.out]
    exact owns_nil (Below.refl _ _)
end Go.Proofs.Ytmidegoedgmcnaa
