/-
  WALK: spec.l2Other: 'otherF'.
-/
import Derived.Test.YtbonkolgbcmaoaaRows
import Derived.Test.YtbonkolgbcmaoaaApp
import Derived.Test.YtbonkolgbcmaoaaOps
import Derived.WalkLawsBesides
import Derived.BigQuiet
import Derived.Deep.QuietTactic
import Derived.Lib.QuietBelow
import Derived.Outline
import Derived.Handy
namespace Go.Proofs.Ytbonkolgbcmaoaa
open Go.ChangeShapes Go.WideShapes Go.ChangeAt Go.RowKit Go.Sort Pf

set_option maxRecDepth 20000 in
set_option maxHeartbeats 1000000 in
theorem l2Other_any (A : Option Addr) (n c : Nat) (xs : PS) (top : Int) (w : World) (h : Rd w A n c xs) (hn : n ≤ 1000) (ht0 : 0 ≤ top) (ht1 : top ≤ 65535) (hv : validF (-2) top xs = true) :
    Calls Try.prog 60 #[.slice A n c, .int .i64 top] w (Owns 30 (otherF top 0 xs) w) := by
  have hlen := h.len
  have HLEN := Lib.hid hlen
  have HALL := Lib.hid (validF_all (Int.le_refl _) hv)
  obtain ⟨i0, hi, hz0, hz1, hz2⟩ := info_parts infoSpanE
  clear hlen hv
  go_enter Try.func60, Try.ntmps60
  go_wp2
  go_loopw [5, 6, 7] (fun o q i wr => ∃ (k : Nat) (outs : PS) (pos : Int) (A' : Option Addr) (c' : Nat), k ≤ n ∧ i = .int .i64 k ∧ q = .int .i64 pos ∧ o = .slice A' outs.length c' ∧
      wr.ownsRow w.heap.size 30 2 (.slice A' outs.length c') outs.length (flat outs) ∧ outs ++ otherF top pos (xs.drop k) = otherF top 0 xs ∧ outs.length ≤ k ∧ 0 ≤ pos ∧ pos ≤ 65536 ∧ Below w.heap.size w wr)
    (fun _ _ i _ => n - (intOf i).toNat)
  case atStart => exact ⟨0, [], 0, _, _, Nat.zero_le _, rfl, rfl, rfl, World.ownsRow_lit (e := 30) w #[] 0 (Nat.le_refl _) (by unfold maxLen; omega) rfl, rfl, Nat.le_refl _, by omega, by omega, below_one _ _⟩
  case round =>
    obtain ⟨k, outs, pos, A', c', hk, rfl, rfl, rfl, own, heq, hol, hp0, hp1, hb⟩ := hrel
    have hs := hb.size
    by_cases hkn : k < n
    · obtain ⟨b, o, rfl, hbl, hc0⟩ := h.at_ hkn
      have hlx : k < xs.length := by have := HLEN.out; omega
      obtain ⟨d1, d2⟩ := hc0 hlx
      have hd : xs.drop k = xs[k] :: xs.drop (k + 1) := List.drop_eq_getElem_cons hlx
      have hx3 := HALL.out _ (List.getElem_mem hlx)
      rw [hd] at heq
      generalize xs[k] = x at d1 d2 heq hx3
      obtain ⟨x1, x2⟩ := x
      simp only at d1 d2 hx3
      have c1 := keepCell hb d1
      have c2 := keepCell hb d2
      obtain ⟨hx0, hx12, hx2⟩ := hx3
      have HEQ := Lib.hid heq
      have HO := Lib.hid own
      clear hc0 h hd heq own
      by_cases hlt : pos < x1
      · go_wp2_with (first
          | (at_builtin; refine wpList_append_own _ rfl (.tmp 22) (.tmp 31) 23 rfl w.heap.size 30 i0 _ 2 16 Try.underlying23 hi hz0 hz1 hz2 rfl (by decide) _ _ _ rfl (HO.out.alloc _) ⟨wr.heap.size, 0, none⟩ 1 1 [.int .i64 pos, .int .i64 (x1 - 1)] rfl rfl (news_cells _ _) (news_one _ _) (by unfold maxLen; omega) (by omega) (by simp; omega) ?_; intro v1 w1 own1 hg1 _; obtain ⟨A2, c3, hv1, own2, hb2⟩ := push_own hb hs _ HO.out own1 hg1; have e2 := keepCell hb2 d2; have HV1 := Lib.hid hv1; have HO2 := Lib.hid own2; clear hv1 own2 own1 hg1))
        go_roundw
        case rel =>
          refine ⟨k + 1, outs ++ [(pos, x1 - 1)], x2 + 1, A2, c3, by omega, by go_num, rfl, ?_, ?_, ?_, by simp; omega, by omega, by omega, hb2⟩
          · rw [List.length_append]; exact HV1.out
          · rw [List.length_append]; exact HO2.out
          · rw [← HEQ.out, List.append_assoc]
            congr 1
            show _ = otherF top pos ((x1, x2) :: List.drop (k + 1) xs)
            rw [otherF, if_pos hlt]
            rfl
        case measure => simp [intOf]; omega
      · go_wp2
        go_roundw
        case rel =>
          refine ⟨k + 1, outs, x2 + 1, A', c', by omega, by go_num, rfl, rfl, HO.out, ?_, by omega, by omega, by omega, hb⟩
          rw [← HEQ.out, otherF, if_neg hlt]
        case measure => simp [intOf]; omega
    · obtain rfl : k = n := by omega
      rw [List.drop_of_length_le (by have := HLEN.out; omega)] at heq
      have HEQ := Lib.hid heq
      have HO := Lib.hid own
      clear h heq own
      by_cases hlt : pos ≤ top
      · go_wp2_with (first
          | (at_builtin; refine wpList_append_own _ rfl (.tmp 42) (.tmp 46) 23 rfl w.heap.size 30 i0 _ 2 16 Try.underlying23 hi hz0 hz1 hz2 rfl (by decide) _ _ _ rfl (HO.out.alloc _) ⟨wr.heap.size, 0, none⟩ 1 1 [.int .i64 pos, .int .i64 top] rfl rfl (news_cells _ _) (news_one _ _) (by unfold maxLen; omega) (by omega) (by simp; omega) ?_; intro v1 w1 own1 hg1 _; obtain ⟨A2, c3, hv1, own2, hb2⟩ := push_own hb hs _ HO.out own1 hg1; have HV1 := Lib.hid hv1; have HO2 := Lib.hid own2; clear hv1 own2 own1 hg1))
        go_ret
        have hfin : outs ++ [(pos, top)] = otherF top 0 xs := by rw [← HEQ.out, otherF, if_pos hlt]
        rw [HV1.out]
        rw [← hfin]
        have hl1 : (outs ++ [(pos, top)]).length = outs.length + 1 := by simp
        refine ⟨A2, c3, ?_, ?_, hb2⟩
        · rw [hl1]; rfl
        · rw [hl1]; exact HO2.out
      · go_wp2
        go_ret
        have hfin : outs = otherF top 0 xs := by rw [← HEQ.out, otherF, if_neg (by omega), List.append_nil]
        rw [← hfin]
        exact ⟨A', c', rfl, HO.out, hb⟩
end Go.Proofs.Ytbonkolgbcmaoaa
