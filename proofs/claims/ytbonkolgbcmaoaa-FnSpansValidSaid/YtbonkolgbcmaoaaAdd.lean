/-
  WALK: spec.l1Add: 'addF'.
-/
import Derived.Test.YtbonkolgbcmaoaaRows
import Derived.Test.YtbonkolgbcmaoaaApp
import Derived.Test.YtbonkolgbcmaoaaOps
import Derived.WalkLawsBesides
import Derived.BigQuiet
import Derived.Deep.QuietTactic
import Derived.Lib.QuietBelow
import Derived.Outline
import Derived.Handy
namespace Go.Proofs.Ytbonkolgbcmaoaa
open Go.ChangeShapes Go.WideShapes Go.ChangeAt Go.RowKit Go.Sort Pf
set_option maxRecDepth 20000


set_option maxHeartbeats 2000000 in
theorem l1Add_any (A : Option Addr) (n c : Nat) (xs : PS) (p q : Int) (w : World) (h : Rd w A n c xs) (hn : n ≤ 1000) (hall : ∀ s, s ∈ xs → 0 ≤ s.1 ∧ s.1 ≤ s.2 ∧ s.2 ≤ 65535) (hp0 : 0 ≤ p) (hpq : p ≤ q) (hq : q ≤ 65535) :
    Calls Try.prog 59 #[.slice A n c, .agg #[.int .i64 p, .int .i64 q]] w (Owns 30 (addF (p, q) false xs) w) := by
  have hlen := h.len
  have HLEN := Lib.hid hlen
  have HALL := Lib.hid hall
  obtain ⟨i0, hi, hz0, hz1, hz2⟩ := info_parts infoSpanE
  have hB0 : (w.alloc (.cells #[.int .i64 p, .int .i64 q] 30)).heap.size = w.heap.size + 1 := by simp
  have HB0 := Lib.hid hB0
  clear hlen hall hB0
  go_enter Try.func59, Try.ntmps59
  go_wp2
  go_loopw [5, 6, 7] (fun o pl i wr => ∃ (k : Nat) (outs : PS) (b : Bool) (s1 s2 : Int) (A' : Option Addr) (c' : Nat), k ≤ n ∧ i = .int .i64 k ∧ pl = .bool b ∧ o = .slice A' outs.length c' ∧
      wr.ownsRow (w.heap.size + 1) 30 2 (.slice A' outs.length c') outs.length (flat outs) ∧ outs ++ addF (s1, s2) b (xs.drop k) = addF (p, q) false xs ∧ outs.length ≤ k + b.toNat ∧
      0 ≤ s1 ∧ s1 ≤ s2 ∧ s2 ≤ 65535 ∧ wr.cell? ⟨w.heap.size, 0, none⟩ = some (.int .i64 s1) ∧ wr.cell? ⟨w.heap.size, 1, none⟩ = some (.int .i64 s2) ∧
      wr.frozen? ⟨w.heap.size, 0, none⟩ = false ∧ wr.frozen? ⟨w.heap.size, 1, none⟩ = false ∧ Below w.heap.size w wr)
    (fun _ _ i _ => n - (intOf i).toNat)
  case atStart =>
    refine ⟨0, [], false, p, q, _, _, Nat.zero_le _, rfl, rfl, rfl, ?_, rfl, Nat.le_refl _, hp0, hpq, hq, by go_cell, by go_cell, by go_simp, by go_simp, below_two _ _ _⟩
    have := World.ownsRow_lit (base := w.heap.size + 1) (e := 30) (size := 2) (w.alloc (.cells #[.int .i64 p, .int .i64 q] 30)) #[] 0 (by simp) (by unfold maxLen; omega) rfl
    rw [HB0.out] at this
    exact this
  case round =>
    obtain ⟨k, outs, pb, s1, s2, A', c', hk, rfl, rfl, rfl, own, heq, hol, hs0, hs12, hs2, b0, b1, f0, f1, hb⟩ := hrel
    have hs := hb.size
    have hzs : w.heap.size < wr.heap.size := World.block_lt_of_cell? _ _ b0
    have hpb : pb.toNat ≤ 1 := by cases pb <;> decide
    by_cases hkn : k < n
    · obtain ⟨b, o, rfl, hbl, hc0⟩ := h.at_ hkn
      have hlx : k < xs.length := by have := HLEN.out; omega
      obtain ⟨d1, d2⟩ := hc0 hlx
      have hd : xs.drop k = xs[k] :: xs.drop (k + 1) := List.drop_eq_getElem_cons hlx
      have hx3 := HALL.out _ (List.getElem_mem hlx)
      rw [hd] at heq
      generalize xs[k] = x at d1 d2 heq hx3
      obtain ⟨x1, x2⟩ := x
      simp only at d1 d2 hx3
      obtain ⟨hx0, hx12, hx2⟩ := hx3
      have HEQ := Lib.hid heq
      have HO := Lib.hid own
      have c1 := keepCell hb d1
      have c2 := keepCell hb d2
      have hnb : (Value.slice A' outs.length c').ownBlock ≠ some w.heap.size := fun e => by have := (HO.out.lt _ e).1; omega
      have hnx : (Value.slice A' outs.length c').ownBlock ≠ some wr.heap.size := fun e => by have := (HO.out.lt _ e).2; omega
      have HNB := Lib.hid hnb
      have HNX := Lib.hid hnx
      clear hc0 h hd heq own hnb hnx
      have hbx := hb.alloc hs (.cells #[.int .i64 x1, .int .i64 x2] 30)
      by_cases hA : x2 + 1 < s1
      · go_wp2_with (first
          | (at_builtin; refine wpList_append_own _ rfl (.tmp 38) (.tmp 40) 23 rfl (w.heap.size + 1) 30 i0 _ 2 16 Try.underlying23 hi hz0 hz1 hz2 rfl (by decide) _ _ _ rfl ((HO.out.alloc _).alloc _) ⟨wr.heap.size + 1, 0, none⟩ 1 1 [.int .i64 x1, .int .i64 x2] rfl rfl (news_at (by simp) _ _) (news_one _ _) (by unfold maxLen; omega) (by omega) (by simp; omega) ?_; intro v1 w1 own1 hg1 _; have q1 := push_own2 hbx (by simp; omega) (by omega) _ (HO.out.alloc _) own1 hg1; have HQ := Lib.hid q1; have HO1 := Lib.hid own1; have HG := Lib.hid hg1; clear q1 own1 hg1))
        obtain ⟨⟨A2, c3, hv1⟩, hb2⟩ := HQ.out
        go_roundw
        case rel =>
          refine ⟨k + 1, outs ++ [(x1, x2)], pb, s1, s2, A2, c3, by omega, by go_num, rfl, ?_, ?_, ?_, by simp; omega, hs0, hs12, hs2, ?_, ?_, ?_, ?_, hb2⟩
          · rw [show (outs ++ [(x1, x2)]).length = outs.length + 1 from by simp]; exact hv1
          · rw [show (outs ++ [(x1, x2)]).length = outs.length + 1 from by simp, ← flat_push, ← hv1]; exact HO1.out
          · rw [← HEQ.out, List.append_assoc]
            congr 1
            show _ = addF (s1, s2) pb ((x1, x2) :: List.drop (k + 1) xs)
            rw [addF, if_pos hA]; rfl
          · exact grown_cell HG.out (by go_cell) HNB.out
          · exact grown_cell HG.out (by go_cell) HNB.out
          · exact grown_free HG.out (v := .int .i64 s1) (by go_cell) (by go_simp) HNB.out
          · exact grown_free HG.out (v := .int .i64 s2) (by go_cell) (by go_simp) HNB.out
        case measure => simp [intOf]; omega
      · by_cases hB : s2 + 1 < x1
        · cases pb with
          | true =>
            go_wp2_with (first
              | (at_builtin; refine wpList_append_own _ rfl (.tmp 55) (.tmp 57) 23 rfl (w.heap.size + 1) 30 i0 _ 2 16 Try.underlying23 hi hz0 hz1 hz2 rfl (by decide) _ _ _ rfl ((HO.out.alloc _).alloc _) ⟨wr.heap.size + 1, 0, none⟩ 1 1 [.int .i64 x1, .int .i64 x2] rfl rfl (news_at (by simp) _ _) (news_one _ _) (by unfold maxLen; omega) (by omega) (by simp; omega) ?_; intro v1 w1 own1 hg1 _; have q1 := push_own2 hbx (by simp; omega) (by omega) _ (HO.out.alloc _) own1 hg1; have HQ := Lib.hid q1; have HO1 := Lib.hid own1; have HG := Lib.hid hg1; clear q1 own1 hg1))
            obtain ⟨⟨A2, c3, hv1⟩, hb2⟩ := HQ.out
            go_roundw
            case rel =>
              refine ⟨k + 1, outs ++ [(x1, x2)], true, s1, s2, A2, c3, by omega, by go_num, rfl, ?_, ?_, ?_, by simp at hol ⊢; omega, hs0, hs12, hs2, ?_, ?_, ?_, ?_, hb2⟩
              · rw [show (outs ++ [(x1, x2)]).length = outs.length + 1 from by simp]; exact hv1
              · rw [show (outs ++ [(x1, x2)]).length = outs.length + 1 from by simp, ← flat_push, ← hv1]; exact HO1.out
              · rw [← HEQ.out, List.append_assoc]
                congr 1
                show _ = addF (s1, s2) true ((x1, x2) :: List.drop (k + 1) xs)
                rw [addF, if_neg hA, if_pos hB, if_pos rfl]; rfl
              · exact grown_cell HG.out (by go_cell) HNB.out
              · exact grown_cell HG.out (by go_cell) HNB.out
              · exact grown_free HG.out (v := .int .i64 s1) (by go_cell) (by go_simp) HNB.out
              · exact grown_free HG.out (v := .int .i64 s2) (by go_cell) (by go_simp) HNB.out
            case measure => simp [intOf]; omega
          | false =>
            have hol1 : outs.length ≤ k := by simpa using hol
            go_wp2_with (first
              | (at_builtin; (refine wpList_append_own _ rfl (.tmp 51) (.tmp 53) 23 rfl (w.heap.size + 1) 30 i0 _ 2 16 Try.underlying23 hi hz0 hz1 hz2 rfl (by decide) _ _ _ rfl ((HO.out.alloc _).alloc _) ⟨wr.heap.size + 1, 0, none⟩ 1 1 [.int .i64 s1, .int .i64 s2] rfl rfl (news_at (by simp) _ _) (news_one _ _) (by unfold maxLen; omega) (by omega) (by simp; omega) ?_; intro v1 w1 own1 hg1 _; have q1 := push_own2 hbx (by simp; omega) (by omega) _ (HO.out.alloc _) own1 hg1; have HQ := Lib.hid q1; have HO1 := Lib.hid own1; have e0 : w1.cell? ⟨wr.heap.size, 0, none⟩ = some (.int .i64 x1) := grown_cell hg1 (by go_cell) HNX.out; have e1 : w1.cell? ⟨wr.heap.size, 1, none⟩ = some (.int .i64 x2) := grown_cell hg1 (by go_cell) HNX.out; have e2 : w1.cell? ⟨w.heap.size, 0, none⟩ = some (.int .i64 s1) := grown_cell hg1 (by go_cell) HNB.out; have e3 : w1.cell? ⟨w.heap.size, 1, none⟩ = some (.int .i64 s2) := grown_cell hg1 (by go_cell) HNB.out; have k0 : w1.frozen? ⟨w.heap.size, 0, none⟩ = false := grown_free hg1 (v := .int .i64 s1) (by go_cell) (by go_simp) HNB.out; have k1 : w1.frozen? ⟨w.heap.size, 1, none⟩ = false := grown_free hg1 (v := .int .i64 s2) (by go_cell) (by go_simp) HNB.out; have hzz : wr.heap.size < w1.heap.size := World.block_lt_of_cell? _ _ e0; have hzw : w.heap.size < w1.heap.size := World.block_lt_of_cell? _ _ e2; clear q1 own1 hg1))
              | (at_builtin; refine wpList_append_own _ rfl (.tmp 55) (.tmp 57) 23 rfl (w.heap.size + 1) 30 i0 _ 2 16 Try.underlying23 hi hz0 hz1 hz2 rfl (by decide) _ _ _ rfl (HO1.out.alloc _) ⟨w1.heap.size, 0, none⟩ 1 1 [.int .i64 x1, .int .i64 x2] rfl rfl (news_at (by simp) _ _) (news_one _ _) (by unfold maxLen; omega) (by omega) (by simp; omega) ?_; intro v2 w2 own2 hg2 _; have q2 := push_own2 HQ.out.2 HQ.out.2.size (by omega) _ HO1.out own2 hg2; have HQ2 := Lib.hid q2; have HO2 := Lib.hid own2; have HG2 := Lib.hid hg2; clear q2 own2 hg2))
            obtain ⟨⟨A2, c3, hv2⟩, hb2⟩ := HQ2.out
            go_roundw
            case rel =>
              have hnb1 : v1.ownBlock ≠ some w.heap.size := fun e => by have := (HO1.out.lt _ e).1; omega
              refine ⟨k + 1, outs ++ [(s1, s2)] ++ [(x1, x2)], true, s1, s2, A2, c3, by omega, by go_num, rfl, ?_, ?_, ?_, by simp at hol ⊢; omega, hs0, hs12, hs2, ?_, ?_, ?_, ?_, hb2⟩
              · rw [show (outs ++ [(s1, s2)] ++ [(x1, x2)]).length = outs.length + 1 + 1 from by simp]; exact hv2
              · rw [show (outs ++ [(s1, s2)] ++ [(x1, x2)]).length = outs.length + 1 + 1 from by simp, ← flat_push, ← flat_push, ← hv2]; exact HO2.out
              · rw [← HEQ.out, List.append_assoc, List.append_assoc]
                congr 1
                show _ = addF (s1, s2) false ((x1, x2) :: List.drop (k + 1) xs)
                rw [addF, if_neg hA, if_pos hB, if_neg (by simp)]; rfl
              · exact grown_cell HG2.out (by go_cell) hnb1
              · exact grown_cell HG2.out (by go_cell) hnb1
              · exact grown_free HG2.out (v := .int .i64 s1) (by go_cell) (by first | assumption | go_simp) hnb1
              · exact grown_free HG2.out (v := .int .i64 s2) (by go_cell) (by first | assumption | go_simp) hnb1
            case measure => simp [intOf]; omega
        · rcases Int.lt_or_le x1 s1 with g1 | g1 <;> rcases Int.lt_or_le s2 x2 with g2 | g2
          · go_wp2
            go_roundw
            case rel =>
              have hmx : min s1 x1 = x1 ∧ max s2 x2 = x2 := by omega
              refine ⟨k + 1, outs, pb, x1, x2, A', c', by omega, by go_num, rfl, rfl, ?_, ?_, by omega, by omega, by omega, by omega, by go_cell, by go_cell, by first | assumption | go_simp, by first | assumption | go_simp, ?_⟩
              · exact (ownsRow_setCell_below (ownsRow_setCell_below HO.out (Nat.lt_succ_self _) _) (Nat.lt_succ_self _) _).alloc _
              · rw [← HEQ.out]
                congr 1
                show _ = addF (s1, s2) pb ((x1, x2) :: List.drop (k + 1) xs)
                rw [addF, if_neg hA, if_neg hB]
                simp only [hmx.1, hmx.2]
              · exact ((hb.setCell (Nat.le_refl _) _).setCell (Nat.le_refl _) _).alloc (by simp; omega) _
            case measure => simp [intOf]; omega
          · go_wp2
            go_roundw
            case rel =>
              have hmx : min s1 x1 = x1 ∧ max s2 x2 = s2 := by omega
              refine ⟨k + 1, outs, pb, x1, s2, A', c', by omega, by go_num, rfl, rfl, ?_, ?_, by omega, by omega, by omega, by omega, by go_cell, by go_cell, by first | assumption | go_simp, by first | assumption | go_simp, ?_⟩
              · exact (ownsRow_setCell_below (ownsRow_setCell_below HO.out (Nat.lt_succ_self _) _) (Nat.lt_succ_self _) _).alloc _
              · rw [← HEQ.out]
                congr 1
                show _ = addF (s1, s2) pb ((x1, x2) :: List.drop (k + 1) xs)
                rw [addF, if_neg hA, if_neg hB]
                simp only [hmx.1, hmx.2]
              · exact ((hb.setCell (Nat.le_refl _) _).setCell (Nat.le_refl _) _).alloc (by simp; omega) _
            case measure => simp [intOf]; omega
          · go_wp2
            go_roundw
            case rel =>
              have hmx : min s1 x1 = s1 ∧ max s2 x2 = x2 := by omega
              refine ⟨k + 1, outs, pb, s1, x2, A', c', by omega, by go_num, rfl, rfl, ?_, ?_, by omega, by omega, by omega, by omega, by go_cell, by go_cell, by first | assumption | go_simp, by first | assumption | go_simp, ?_⟩
              · exact (ownsRow_setCell_below (ownsRow_setCell_below HO.out (Nat.lt_succ_self _) _) (Nat.lt_succ_self _) _).alloc _
              · rw [← HEQ.out]
                congr 1
                show _ = addF (s1, s2) pb ((x1, x2) :: List.drop (k + 1) xs)
                rw [addF, if_neg hA, if_neg hB]
                simp only [hmx.1, hmx.2]
              · exact ((hb.setCell (Nat.le_refl _) _).setCell (Nat.le_refl _) _).alloc (by simp; omega) _
            case measure => simp [intOf]; omega
          · go_wp2
            go_roundw
            case rel =>
              have hmx : min s1 x1 = s1 ∧ max s2 x2 = s2 := by omega
              refine ⟨k + 1, outs, pb, s1, s2, A', c', by omega, by go_num, rfl, rfl, ?_, ?_, by omega, by omega, by omega, by omega, by go_cell, by go_cell, by first | assumption | go_simp, by first | assumption | go_simp, ?_⟩
              · exact (ownsRow_setCell_below (ownsRow_setCell_below HO.out (Nat.lt_succ_self _) _) (Nat.lt_succ_self _) _).alloc _
              · rw [← HEQ.out]
                congr 1
                show _ = addF (s1, s2) pb ((x1, x2) :: List.drop (k + 1) xs)
                rw [addF, if_neg hA, if_neg hB]
                simp only [hmx.1, hmx.2]
              · exact ((hb.setCell (Nat.le_refl _) _).setCell (Nat.le_refl _) _).alloc (by simp; omega) _
            case measure => simp [intOf]; omega
    · obtain rfl : k = n := by omega
      rw [List.drop_of_length_le (by have := HLEN.out; omega)] at heq
      have HEQ := Lib.hid heq
      have HO := Lib.hid own
      clear h heq own
      cases pb with
      | true =>
        have hfin : outs = addF (p, q) false xs := by rw [← HEQ.out, addF, if_pos rfl, List.append_nil]
        have HF := Lib.hid hfin
        clear hfin
        go_wp2
        go_ret
        rw [← HF.out]
        exact ⟨A', c', rfl, own_mono HO.out (by omega), hb⟩
      | false =>
        have hfin : outs ++ [(s1, s2)] = addF (p, q) false xs := by rw [← HEQ.out, addF, if_neg (by simp)]
        have HF := Lib.hid hfin
        clear hfin
        go_wp2_with (first
          | (at_builtin; refine wpList_append_own _ rfl (.tmp 61) (.tmp 63) 23 rfl (w.heap.size + 1) 30 i0 _ 2 16 Try.underlying23 hi hz0 hz1 hz2 rfl (by decide) _ _ _ rfl (HO.out.alloc _) ⟨wr.heap.size, 0, none⟩ 1 1 [.int .i64 s1, .int .i64 s2] rfl rfl (news_at (by simp) _ _) (news_one _ _) (by unfold maxLen; omega) (by omega) (by simp; omega) ?_; intro v1 w1 own1 hg1 _; have q1 := push_own2 hb hs (by omega) _ HO.out own1 hg1; have HQ := Lib.hid q1; have HO1 := Lib.hid own1; clear q1 own1 hg1))
        go_ret
        obtain ⟨⟨A2, c3, hv1⟩, hb2⟩ := HQ.out
        rw [hv1, ← HF.out]
        have hl1 : (outs ++ [(s1, s2)]).length = outs.length + 1 := by simp
        refine ⟨A2, c3, ?_, ?_, hb2⟩
        · rw [hl1]; rfl
        · rw [hl1, ← flat_push, ← hv1]; exact own_mono HO1.out (by omega)
end Go.Proofs.Ytbonkolgbcmaoaa
