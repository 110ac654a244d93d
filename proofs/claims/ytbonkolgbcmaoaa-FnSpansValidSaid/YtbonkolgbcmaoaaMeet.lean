/-
  WALK: spec.l2Meet: 'meetF'.
-/
import Derived.Test.YtbonkolgbcmaoaaRows
import Derived.Test.YtbonkolgbcmaoaaApp
import Derived.Test.YtbonkolgbcmaoaaOps
import Derived.WalkLawsBesides
import Derived.BigQuiet
import Derived.Deep.QuietTactic
import Derived.Lib.QuietBelow
import Derived.Outline
import Derived.Handy
namespace Go.Proofs.Ytbonkolgbcmaoaa
open Go.ChangeShapes Go.WideShapes Go.ChangeAt Go.RowKit Go.Sort Pf


set_option maxHeartbeats 2000000 in
theorem l2Meet_any (A : Option Addr) (n c : Nat) (xs : PS) (B : Option Addr) (m d : Nat) (ys : PS) (w : World) (h : Rd w A n c xs) (h' : Rd w B m d ys) (hn : n ≤ 1000) (hm : m ≤ 1000) :
    Calls Try.prog 62 #[.slice A n c, .slice B m d] w (Owns 30 (meetF xs ys) w) := by
  have hlen := h.len
  have hlen' := h'.len
  have HLEN := Lib.hid hlen
  have HLEN' := Lib.hid hlen'
  obtain ⟨i0, hi, hz0, hz1, hz2⟩ := info_parts infoSpanE
  clear hlen hlen'
  go_enter Try.func62, Try.ntmps62
  go_wp2
  go_loopw [5, 6] (fun o i wr => ∃ (k : Nat) (outs : PS) (A' : Option Addr) (c' : Nat), k ≤ n ∧ i = .int .i64 k ∧ o = .slice A' outs.length c' ∧
      wr.ownsRow w.heap.size 30 2 (.slice A' outs.length c') outs.length (flat outs) ∧ outs = meetF (xs.take k) ys ∧ Below w.heap.size w wr)
    (fun _ i _ => n - (intOf i).toNat)
  case atStart => exact ⟨0, [], _, _, Nat.zero_le _, rfl, rfl, World.ownsRow_lit (e := 30) w #[] 0 (Nat.le_refl _) (by unfold maxLen; omega) rfl, rfl, below_one _ _⟩
  case round =>
    obtain ⟨k, outs, A', c', hk, rfl, rfl, own, heq, hb⟩ := hrel
    have hs := hb.size
    by_cases hkn : k < n
    · obtain ⟨b, o, rfl, hbl, hc0⟩ := h.at_ hkn
      have hlx : k < xs.length := by have := HLEN.out; omega
      obtain ⟨d1, d2⟩ := hc0 hlx
      have hx : (xs.take (k + 1)) = xs.take k ++ [xs[k]] := List.take_succ_eq_append_getElem hlx
      have hlo : outs.length ≤ 1000 * 1000 := by
        rw [heq]
        refine Nat.le_trans (meetF_length ys _) ?_
        exact Nat.mul_le_mul (by rw [List.length_take]; omega) (by have := HLEN'.out; omega)
      have hmt : meetF (xs.take (k + 1)) ys = outs ++ rowF xs[k] ys := by rw [hx, heq, meetF_append, meetF_one]
      generalize xs[k] = x at d1 d2 hmt
      obtain ⟨x1, x2⟩ := x
      simp only at d1 d2
      have HMT := Lib.hid hmt
      have HO := Lib.hid own
      have HH := Lib.hid h'
      clear hc0 h hx heq own hmt h'
      go_wp2
      go_loopw [5, 7] (fun o i wr => ∃ (j : Nat) (al : PS) (A' : Option Addr) (c' : Nat), j ≤ m ∧ i = .int .i64 j ∧ o = .slice A' al.length c' ∧
          wr.ownsRow w.heap.size 30 2 (.slice A' al.length c') al.length (flat al) ∧ al = outs ++ rowF (x1, x2) (ys.take j) ∧ Below w.heap.size w wr)
        (fun _ i _ => m - (intOf i).toNat)
      case atStart => exact ⟨0, outs, A', c', Nat.zero_le _, rfl, rfl, HO.out, by simp [rowF], hb⟩
      case round =>
        obtain ⟨j, al, A2, c2, hj, rfl, rfl, own, hrow, hb2⟩ := hrel
        have hs2 := hb2.size
        by_cases hjm : j < m
        · obtain ⟨b', o', rfl, hbl', hc0'⟩ := HH.out.at_ hjm
          have hly : j < ys.length := by have := HLEN'.out; omega
          obtain ⟨g1, g2⟩ := hc0' hly
          have hy : (ys.take (j + 1)) = ys.take j ++ [ys[j]] := List.take_succ_eq_append_getElem hly
          have hlr : al.length ≤ 1000 * 1000 + 1000 := by
            rw [hrow, List.length_append]
            have := rowF_length (x1, x2) (ys.take j)
            rw [List.length_take] at this
            omega
          have hrt : outs ++ rowF (x1, x2) (ys.take (j + 1)) = al ++ rowF (x1, x2) [ys[j]] := by rw [hy, rowF_append, hrow, List.append_assoc]
          generalize ys[j] = y at g1 g2 hrt
          obtain ⟨y1, y2⟩ := y
          simp only at g1 g2
          rw [rowF_one] at hrt
          have HRT := Lib.hid hrt
          have HO2 := Lib.hid own
          clear hc0' hy hrow own hrt
          have e1 := keepCell hb2 d1
          have e2 := keepCell hb2 d2
          have e3 := keepCell hb2 g1
          have e4 := keepCell hb2 g2
          have hki : (k : Int) < n := by omega
          have hji : (j : Int) < m := by omega
          have hk0 : (0 : Int) ≤ k := by omega
          have hj0 : (0 : Int) ≤ j := by omega
          have key : ∀ (lo hi : Int), ((y1 ≤ x1 ∧ lo = x1) ∨ (x1 < y1 ∧ lo = y1)) → ((x2 ≤ y2 ∧ hi = x2) ∨ (y2 < x2 ∧ hi = y2)) → outs ++ rowF (x1, x2) (ys.take (j + 1)) = al ++ (if lo ≤ hi then [(lo, hi)] else []) := by
            intro lo hi hlo hhi
            rw [HRT.out]
            have a1 : max x1 y1 = lo := by omega
            have a2 : min x2 y2 = hi := by omega
            simp only [a1, a2]
          have KEY := Lib.hid key
          clear key
          rcases Int.lt_or_le x1 y1 with g1 | g1 <;> rcases Int.lt_or_le y2 x2 with g2 | g2
          · have hK := KEY.out y1 y2 (.inr ⟨g1, rfl⟩) (.inr ⟨g2, rfl⟩)
            have HK := Lib.hid hK
            clear KEY hK
            go_wp2_with fail
            go_quiet (fail)
            go_wp2_with fail
            go_quiet (fail)
            rw [World.drewN_drewN]
            generalize hq : wr.drewN _ = W
            have hb3 : Below w.heap.size w W := by rw [← hq]; exact below_drewN hb2 _
            have HO3 := Lib.hid (show W.ownsRow w.heap.size 30 2 (.slice A2 al.length c2) al.length (flat al) from by rw [← hq]; exact HO2.out)
            have hs3 := hb3.size
            clear hq HO2 hb2 hs2 e1 e2 e3 e4
            by_cases hlt : y1 ≤ y2
            · have HL := Lib.hid (show outs ++ rowF (x1, x2) (ys.take (j + 1)) = al ++ [(y1, y2)] from by rw [HK.out, if_pos hlt])
              clear HK
              go_wp2_with (first
                | (at_builtin; refine wpList_append_own _ rfl (.tmp 48) (.tmp 52) 23 rfl w.heap.size 30 i0 _ 2 16 Try.underlying23 hi hz0 hz1 hz2 rfl (by decide) _ _ _ rfl (HO3.out.alloc _) ⟨W.heap.size, 0, none⟩ 1 1 [.int .i64 y1, .int .i64 y2] rfl rfl (news_cells _ _) (news_one _ _) (by unfold maxLen; omega) (by omega) (by simp; omega) ?_; intro v1 w1 own1 hg1 _; obtain ⟨A3, c3, hv1, own2, hb4⟩ := push_own hb3 hs3 _ HO3.out own1 hg1; have HV1 := Lib.hid hv1; have HO4 := Lib.hid own2; clear hv1 own2 own1 hg1))
              go_roundw
              case rel =>
                refine ⟨j + 1, al ++ [(y1, y2)], A3, c3, by omega, by go_num, ?_, ?_, HL.out.symm, hb4⟩
                · rw [show (al ++ [(y1, y2)]).length = al.length + 1 from by simp]; exact HV1.out
                · rw [show (al ++ [(y1, y2)]).length = al.length + 1 from by simp]; exact HO4.out
              case measure => simp [intOf]; omega
            · have HL := Lib.hid (show outs ++ rowF (x1, x2) (ys.take (j + 1)) = al from by rw [HK.out, if_neg hlt, List.append_nil])
              clear HK
              go_wp2
              go_roundw
              case rel => exact ⟨j + 1, al, A2, c2, by omega, by go_num, rfl, HO3.out, HL.out.symm, hb3⟩
              case measure => simp [intOf]; omega
          · have hK := KEY.out y1 x2 (.inr ⟨g1, rfl⟩) (.inl ⟨g2, rfl⟩)
            have HK := Lib.hid hK
            clear KEY hK
            go_wp2_with fail
            go_quiet (fail)
            go_wp2_with fail
            go_quiet (fail)
            rw [World.drewN_drewN]
            generalize hq : wr.drewN _ = W
            have hb3 : Below w.heap.size w W := by rw [← hq]; exact below_drewN hb2 _
            have HO3 := Lib.hid (show W.ownsRow w.heap.size 30 2 (.slice A2 al.length c2) al.length (flat al) from by rw [← hq]; exact HO2.out)
            have hs3 := hb3.size
            clear hq HO2 hb2 hs2 e1 e2 e3 e4
            by_cases hlt : y1 ≤ x2
            · have HL := Lib.hid (show outs ++ rowF (x1, x2) (ys.take (j + 1)) = al ++ [(y1, x2)] from by rw [HK.out, if_pos hlt])
              clear HK
              go_wp2_with (first
                | (at_builtin; refine wpList_append_own _ rfl (.tmp 48) (.tmp 52) 23 rfl w.heap.size 30 i0 _ 2 16 Try.underlying23 hi hz0 hz1 hz2 rfl (by decide) _ _ _ rfl (HO3.out.alloc _) ⟨W.heap.size, 0, none⟩ 1 1 [.int .i64 y1, .int .i64 x2] rfl rfl (news_cells _ _) (news_one _ _) (by unfold maxLen; omega) (by omega) (by simp; omega) ?_; intro v1 w1 own1 hg1 _; obtain ⟨A3, c3, hv1, own2, hb4⟩ := push_own hb3 hs3 _ HO3.out own1 hg1; have HV1 := Lib.hid hv1; have HO4 := Lib.hid own2; clear hv1 own2 own1 hg1))
              go_roundw
              case rel =>
                refine ⟨j + 1, al ++ [(y1, x2)], A3, c3, by omega, by go_num, ?_, ?_, HL.out.symm, hb4⟩
                · rw [show (al ++ [(y1, x2)]).length = al.length + 1 from by simp]; exact HV1.out
                · rw [show (al ++ [(y1, x2)]).length = al.length + 1 from by simp]; exact HO4.out
              case measure => simp [intOf]; omega
            · have HL := Lib.hid (show outs ++ rowF (x1, x2) (ys.take (j + 1)) = al from by rw [HK.out, if_neg hlt, List.append_nil])
              clear HK
              go_wp2
              go_roundw
              case rel => exact ⟨j + 1, al, A2, c2, by omega, by go_num, rfl, HO3.out, HL.out.symm, hb3⟩
              case measure => simp [intOf]; omega
          · have hK := KEY.out x1 y2 (.inl ⟨g1, rfl⟩) (.inr ⟨g2, rfl⟩)
            have HK := Lib.hid hK
            clear KEY hK
            go_wp2_with fail
            go_quiet (fail)
            go_wp2_with fail
            go_quiet (fail)
            rw [World.drewN_drewN]
            generalize hq : wr.drewN _ = W
            have hb3 : Below w.heap.size w W := by rw [← hq]; exact below_drewN hb2 _
            have HO3 := Lib.hid (show W.ownsRow w.heap.size 30 2 (.slice A2 al.length c2) al.length (flat al) from by rw [← hq]; exact HO2.out)
            have hs3 := hb3.size
            clear hq HO2 hb2 hs2 e1 e2 e3 e4
            by_cases hlt : x1 ≤ y2
            · have HL := Lib.hid (show outs ++ rowF (x1, x2) (ys.take (j + 1)) = al ++ [(x1, y2)] from by rw [HK.out, if_pos hlt])
              clear HK
              go_wp2_with (first
                | (at_builtin; refine wpList_append_own _ rfl (.tmp 48) (.tmp 52) 23 rfl w.heap.size 30 i0 _ 2 16 Try.underlying23 hi hz0 hz1 hz2 rfl (by decide) _ _ _ rfl (HO3.out.alloc _) ⟨W.heap.size, 0, none⟩ 1 1 [.int .i64 x1, .int .i64 y2] rfl rfl (news_cells _ _) (news_one _ _) (by unfold maxLen; omega) (by omega) (by simp; omega) ?_; intro v1 w1 own1 hg1 _; obtain ⟨A3, c3, hv1, own2, hb4⟩ := push_own hb3 hs3 _ HO3.out own1 hg1; have HV1 := Lib.hid hv1; have HO4 := Lib.hid own2; clear hv1 own2 own1 hg1))
              go_roundw
              case rel =>
                refine ⟨j + 1, al ++ [(x1, y2)], A3, c3, by omega, by go_num, ?_, ?_, HL.out.symm, hb4⟩
                · rw [show (al ++ [(x1, y2)]).length = al.length + 1 from by simp]; exact HV1.out
                · rw [show (al ++ [(x1, y2)]).length = al.length + 1 from by simp]; exact HO4.out
              case measure => simp [intOf]; omega
            · have HL := Lib.hid (show outs ++ rowF (x1, x2) (ys.take (j + 1)) = al from by rw [HK.out, if_neg hlt, List.append_nil])
              clear HK
              go_wp2
              go_roundw
              case rel => exact ⟨j + 1, al, A2, c2, by omega, by go_num, rfl, HO3.out, HL.out.symm, hb3⟩
              case measure => simp [intOf]; omega
          · have hK := KEY.out x1 x2 (.inl ⟨g1, rfl⟩) (.inl ⟨g2, rfl⟩)
            have HK := Lib.hid hK
            clear KEY hK
            go_wp2_with fail
            go_quiet (fail)
            go_wp2_with fail
            go_quiet (fail)
            rw [World.drewN_drewN]
            generalize hq : wr.drewN _ = W
            have hb3 : Below w.heap.size w W := by rw [← hq]; exact below_drewN hb2 _
            have HO3 := Lib.hid (show W.ownsRow w.heap.size 30 2 (.slice A2 al.length c2) al.length (flat al) from by rw [← hq]; exact HO2.out)
            have hs3 := hb3.size
            clear hq HO2 hb2 hs2 e1 e2 e3 e4
            by_cases hlt : x1 ≤ x2
            · have HL := Lib.hid (show outs ++ rowF (x1, x2) (ys.take (j + 1)) = al ++ [(x1, x2)] from by rw [HK.out, if_pos hlt])
              clear HK
              go_wp2_with (first
                | (at_builtin; refine wpList_append_own _ rfl (.tmp 48) (.tmp 52) 23 rfl w.heap.size 30 i0 _ 2 16 Try.underlying23 hi hz0 hz1 hz2 rfl (by decide) _ _ _ rfl (HO3.out.alloc _) ⟨W.heap.size, 0, none⟩ 1 1 [.int .i64 x1, .int .i64 x2] rfl rfl (news_cells _ _) (news_one _ _) (by unfold maxLen; omega) (by omega) (by simp; omega) ?_; intro v1 w1 own1 hg1 _; obtain ⟨A3, c3, hv1, own2, hb4⟩ := push_own hb3 hs3 _ HO3.out own1 hg1; have HV1 := Lib.hid hv1; have HO4 := Lib.hid own2; clear hv1 own2 own1 hg1))
              go_roundw
              case rel =>
                refine ⟨j + 1, al ++ [(x1, x2)], A3, c3, by omega, by go_num, ?_, ?_, HL.out.symm, hb4⟩
                · rw [show (al ++ [(x1, x2)]).length = al.length + 1 from by simp]; exact HV1.out
                · rw [show (al ++ [(x1, x2)]).length = al.length + 1 from by simp]; exact HO4.out
              case measure => simp [intOf]; omega
            · have HL := Lib.hid (show outs ++ rowF (x1, x2) (ys.take (j + 1)) = al from by rw [HK.out, if_neg hlt, List.append_nil])
              clear HK
              go_wp2
              go_roundw
              case rel => exact ⟨j + 1, al, A2, c2, by omega, by go_num, rfl, HO3.out, HL.out.symm, hb3⟩
              case measure => simp [intOf]; omega
        · obtain rfl : j = m := by omega
          rw [List.take_of_length_le (by have := HLEN'.out; omega)] at hrow
          have HR := Lib.hid (show al = meetF (xs.take (k + 1)) ys from by rw [hrow]; exact HMT.out.symm)
          have HO3 := Lib.hid own
          clear hrow own
          go_wp2
          go_roundw
          case rel => exact ⟨k + 1, al, A2, c2, by omega, by go_num, rfl, HO3.out, HR.out, hb2⟩
          case measure => simp [intOf]; omega
    · obtain rfl : k = n := by omega
      rw [List.take_of_length_le (by have := HLEN.out; omega)] at heq
      have HEQ := Lib.hid heq
      have HO := Lib.hid own
      clear h h' heq own
      go_wp2
      go_ret
      rw [← HEQ.out]
      exact ⟨A', c', rfl, HO.out, hb⟩
end Go.Proofs.Ytbonkolgbcmaoaa
