/-
  WALKS: spec.l20Raw, l20Set: drawn lists of ranges.
-/
import Derived.Test.YtbonkolgbcmaoaaDrSpan
import Derived.Test.YtbonkolgbcmaoaaSpecOf
namespace Go.Proofs.Ytbonkolgbcmaoaa
open Go.ChangeShapes Go.WideShapes Go.ChangeAt Go.RowKit Go.Sort Pf
set_option maxRecDepth 20000

theorem grown_row {w wx w2 : World} {g : Nat} {row : Option Nat} (h : w.grownBy wx (some g)) (k : wx.grownBy w2 row) (hr : ∀ r, row = some r → w.heap.size ≤ r) : w.grownBy w2 (some g) :=
  ⟨k.os.trans h.os, k.tape.trans h.tape, k.output.trans h.output, Nat.le_trans h.size k.size, fun i hi hne => (k.block i (Nat.lt_of_lt_of_le hi h.size) (fun e => by have := hr i e.symm; omega)).trans (h.block i hi hne)⟩
theorem grown_below {w wx w2 : World} {g : Nat} (h : w.grownBy wx (some g)) (k : Below wx.heap.size wx w2) : w.grownBy w2 (some g) := grownBy_trans h (below_grown k)

/-- One of the largest numbers that are drawn. -/
def TopIn (v : Int) : Prop := v = 20 ∨ v = 7 ∨ v = 255 ∨ v = 65535
theorem TopIn.bd {v : Int} (h : TopIn v) : 0 ≤ v ∧ v ≤ 65535 := by unfold TopIn at h; omega
def DrewInt (P : Int → Prop) (g f : Nat) (w : World) (e : Ending) (w' : World) : Prop := ∃ v : Int, e = .returned (.int .i64 v) ∧ P v ∧ w.grownBy w' (some g) ∧ Rdr w' g f
def DrewSet (P : PS → Prop) (g f : Nat) (w : World) (e : Ending) (w' : World) : Prop := ∃ (A : Option Addr) (c : Nat) (xs : PS), e = .returned (.slice A xs.length c) ∧ w'.ownsRow w.heap.size 30 2 (.slice A xs.length c) xs.length (flat xs) ∧ P xs ∧ w.grownBy w' (some g) ∧ Rdr w' g f
def ShortOr (top : Int) (xs : PS) : Prop := xs.length ≤ 7 ∨ valid xs top = false

set_option maxHeartbeats 1000000 in
theorem drRaw_any (g f : Nat) (top n : Int) (w : World) (ht0 : 0 ≤ top) (ht1 : top ≤ 65535) (hn0 : 0 ≤ n) (hn1 : n ≤ 1000) (h : Rdr w g (f + 41)) :
    Calls Try.prog 50 #[.pointer (some ⟨g, 0, none⟩), .int .i64 top, .int .i64 n] w (DrewSet (fun xs => xs.length ≤ 5) g f w) := by
  have hgw := h.lt
  have HR := Lib.hid h
  obtain ⟨i0, hi, hz0, hz1, hz2⟩ := info_parts infoSpanE
  clear h
  go_enter Try.func50, Try.ntmps50
  go_wp2_with fail
  refine (pick_any g _ (f + 40) 6 _ (HR.out.alloc _) rfl).mono ?_
  intro e w1 hp
  obtain ⟨v, rfl, hv0, hv1, hg1, hr1⟩ := picked_lt (by omega) hp
  clear hp
  obtain ⟨j0, rfl⟩ := Int.eq_ofNat_of_zero_le hv0
  have own0 := own_grown (World.ownsRow_lit (base := w.heap.size) (e := 30) (size := 2) w #[] 0 (Nat.le_refl _) (by unfold maxLen; omega) rfl) hg1 (.inl hgw)
  have OWN0 := Lib.hid own0
  have HG := Lib.hid (grownBy_trans (below_grown (below_one w _)) hg1)
  have HR1 := Lib.hid (hr1.less (show f + 8 * j0 ≤ f + 40 by omega))
  have hj5 : j0 ≤ 5 := by omega
  clear hg1 HR own0 hr1 hv0 hv1
  go_wp2
  go_loopw [7, 8] (fun o i wr => ∃ (j : Nat) (outs : PS) (A' : Option Addr) (c' : Nat), i = .int .i64 j ∧ outs.length + j ≤ 5 ∧ o = .slice A' outs.length c' ∧
      wr.ownsRow w.heap.size 30 2 (.slice A' outs.length c') outs.length (flat outs) ∧ w.grownBy wr (some g) ∧ Rdr wr g (f + 8 * j)) (fun _ i _ => (intOf i).toNat)
  case atStart => exact ⟨j0, [], _, _, rfl, by simp; omega, rfl, OWN0.out, HG.out, HR1.out⟩
  case round =>
    obtain ⟨j, outs, A', c', rfl, hlen, rfl, own, hg, hr⟩ := hrel
    clear OWN0 HG HR1
    match j, hlen, hr with
    | 0, hlen, hr =>
      have HO := Lib.hid own
      have HG := Lib.hid hg
      clear own hg
      go_wp2
      go_ret
      exact ⟨A', c', outs, rfl, HO.out, by omega, HG.out, hr.less (by omega)⟩
    | j + 1, hlen, hr =>
      have hr' : Rdr wr g (f + 8 * j + 8) := hr.less (by omega)
      have hjpos : (0 : Int) < ((j + 1 : Nat) : Int) := by omega
      have hsz := hg.size
      go_wp2_with fail
      refine (drSpan_any g (f + 8 * j) top n _ ht0 ht1 hn0 hn1 hr').mono ?_
      rintro e w2 ⟨lo, hi2, rfl, hg2, hr2⟩
      have own2 := own_grown own hg2 (.inl hgw)
      have HO := Lib.hid own2
      have HG := Lib.hid (grownBy_trans hg hg2)
      have hsz2 := hg2.size
      have HR2 := Lib.hid hr2
      clear own own2 hg hg2 hr hr' hr2
      go_wp2_with (first
        | (at_builtin; refine wpList_append_own _ rfl (.tmp 16) (.tmp 21) 23 rfl w.heap.size 30 i0 _ 2 16 Try.underlying23 hi hz0 hz1 hz2 rfl (by decide) _ _ _ rfl (HO.out.alloc _) ⟨w2.heap.size, 0, none⟩ 1 1 [.int .i64 lo, .int .i64 hi2] rfl rfl (news_at rfl _ _) (news_one _ _) (by unfold maxLen; omega) (by omega) (by simp; omega) ?_; intro v1 w3 own3 hg3 _; have HO3 := Lib.hid own3; have HG3 := Lib.hid hg3; clear own3 hg3))
      obtain ⟨A3, c3, hv1⟩ := own_slice HO3.out
      have hlb : ∀ r, (Value.slice A' outs.length c').ownBlock = some r → w.heap.size ≤ r := fun r hr => (HO.out.lt r hr).1
      go_roundw
      case rel =>
        refine ⟨j, outs ++ [(lo, hi2)], A3, c3, by go_num, by simp; omega, by rw [hv1]; simp, ?_, ?_, ?_⟩
        · rw [show (outs ++ [(lo, hi2)]).length = outs.length + 1 from by simp, ← flat_push, ← hv1]; exact HO3.out
        · exact grown_row (grown_below HG.out (below_one w2 _)) HG3.out hlb
        · exact (HR2.out.alloc _).grown HG3.out (fun r hr => by have := hlb r hr; omega)
      case measure => simp [intOf]

theorem news_four {W : World} {t : TypeId} {g : Nat} (hg : g = W.heap.size) (x y z u : Int) : ∀ (j : Nat) (v : Value), [Value.int .i64 x, Value.int .i64 y, Value.int .i64 z, Value.int .i64 u][j]? = some v → (W.alloc (.cells #[.int .i64 x, .int .i64 y, .int .i64 z, .int .i64 u] t)).cell? ((⟨g, 0, none⟩ : Addr).add j) = some v := by
  subst hg
  intro j v hj
  match j, hj with
  | 0, hj => simp at hj; subst hj; simp [Addr.add]
  | 1, hj => simp at hj; subst hj; simp [Addr.add]
  | 2, hj => simp at hj; subst hj; simp [Addr.add]
  | 3, hj => simp at hj; subst hj; simp [Addr.add]
theorem flat_push2 (xs : PS) (x y z u : Int) : flat xs ++ [Value.int .i64 x, Value.int .i64 y, Value.int .i64 z, Value.int .i64 u] = flat (xs ++ [(x, y), (z, u)]) := by rw [flat_append]; rfl

set_option maxHeartbeats 1000000 in
theorem drSet_any (g f : Nat) (top n : Int) (w : World) (ht0 : 0 ≤ top) (ht1 : top ≤ 65535) (hn0 : 0 ≤ n) (hn1 : n ≤ 1000) (h : Rdr w g (f + 60)) :
    Calls Try.prog 54 #[.pointer (some ⟨g, 0, none⟩), .int .i64 top, .int .i64 n] w (DrewSet (ShortOr top) g f w) := by
  have hgw := h.lt
  have HR := Lib.hid h
  obtain ⟨i0, hi, hz0, hz1, hz2⟩ := info_parts infoSpanE
  clear h
  go_enter Try.func54, Try.ntmps54
  go_wp2_with fail
  refine (drRaw_any g (f + 19) top 0 _ ht0 ht1 (by omega) (by omega) HR.out).mono ?_
  rintro e w1 ⟨A1, c1, xs, rfl, own1, hx5, hg1, hr1⟩
  have hz1' := hg1.size
  have RD := Lib.hid (own_rd own1)
  have HG1 := Lib.hid hg1
  have HR1 := Lib.hid hr1
  clear own1 hg1 hr1 HR
  go_wp2_with fail
  refine (sSpansOf_any A1 xs.length c1 xs top _ RD.out).mono ?_
  rintro e w2 ⟨A2, c2, rfl, own2, hb2⟩
  have hl5 : (ofV xs top).length ≤ 5 := Nat.le_trans (ofV_length xs top) hx5
  generalize ofV xs top = ys at own2 hl5 ⊢
  have HO2 := Lib.hid (own_mono own2 hz1')
  have HG2 := Lib.hid (grown_below HG1.out hb2)
  have HR2 := Lib.hid (HR1.out.below hb2)
  have hz2' := HG2.out.size
  clear own2 hb2 HG1 HR1 RD hx5 hz1'
  go_wp2_with fail
  refine (odd_any g (f + 18) n _ hn0 hn1 HR2.out).mono ?_
  rintro e w3 ⟨b, rfl, hg3, hr3⟩
  have HO3 := Lib.hid (own_grown HO2.out hg3 (.inl hgw))
  have HG3 := Lib.hid (grownBy_trans HG2.out hg3)
  have hz3' := HG3.out.size
  have HR3 := Lib.hid hr3
  clear hg3 hr3 HO2 HG2 HR2 hz2'
  cases b with
  | false =>
    go_wp2
    go_ret
    exact ⟨A2, c2, ys, rfl, HO3.out, .inl (by omega), HG3.out, HR3.out.less (by omega)⟩
  | true =>
    go_wp2_with fail
    refine (pick_any g _ (f + 17) 3 _ HR3.out rfl).mono ?_
    intro e w4 hp
    obtain ⟨v, rfl, hv0, hv1, hg4, hr4⟩ := picked_lt (by omega) hp
    clear hp
    have HO4 := Lib.hid (own_grown HO3.out hg4 (.inl hgw))
    have HG4 := Lib.hid (grownBy_trans HG3.out hg4)
    have hz4' := HG4.out.size
    have HR4 := Lib.hid hr4
    clear hg4 hr4 HO3 HG3 HR3 hz3'
    by_cases h0 : v = 0
    · have hb : (v == 0) = true := by simpa using h0
      clear h0
      go_wp2_with fail
      refine (drSpan_any g (f + 9) top 1 _ ht0 ht1 (by omega) (by omega) HR4.out).mono ?_
      rintro e w5 ⟨lo, hi2, rfl, hg5, hr5⟩
      have HO := Lib.hid (own_grown HO4.out hg5 (.inl hgw))
      have HG := Lib.hid (grownBy_trans HG4.out hg5)
      have hz5 := HG.out.size
      have HR5 := Lib.hid hr5
      clear hg5 hr5 HO4 HG4 HR4 hz4'
      go_wp2_with (first
        | (at_builtin; refine wpList_append_own _ rfl (.tmp 21) (.tmp 25) 23 rfl w.heap.size 30 i0 _ 2 16 Try.underlying23 hi hz0 hz1 hz2 rfl (by decide) _ _ _ rfl (HO.out.alloc _) ⟨w5.heap.size, 0, none⟩ 1 1 [.int .i64 lo, .int .i64 hi2] rfl rfl (news_at rfl _ _) (news_one _ _) (by unfold maxLen; omega) (by omega) (by simp; omega) ?_; intro v1 w6 own6 hg6 _; have HO6 := Lib.hid own6; have HG6 := Lib.hid hg6; clear own6 hg6))
      obtain ⟨A6, c6, hv1'⟩ := own_slice HO6.out
      have hlb : ∀ r, (Value.slice A2 ys.length c2).ownBlock = some r → w.heap.size ≤ r := fun r hr => (HO.out.lt r hr).1
      subst hv1'
      go_ret
      have hl1 : ys.length + 1 = (ys ++ [(lo, hi2)]).length := by simp
      rw [hl1] at HO6 ⊢
      refine ⟨A6, c6, ys ++ [(lo, hi2)], rfl, ?_, .inl (by simp; omega), ?_, ?_⟩
      · rw [← flat_push]; exact HO6.out
      · exact grown_row (grown_below HG.out (below_one w5 _)) HG6.out hlb
      · exact ((HR5.out.alloc _).grown HG6.out (fun r hr => by have := hlb r hr; omega)).less (by omega)
    · have hb : (v == 0) = false := by simpa using h0
      by_cases h1 : v = 1
      · have hb1 : (v == 1) = true := by simpa using h1
        clear h0 h1
        go_wp2_with (first
          | (at_builtin; refine wpList_append_own _ rfl (.tmp 29) (.tmp 32) 23 rfl w.heap.size 30 i0 _ 2 16 Try.underlying23 hi hz0 hz1 hz2 rfl (by decide) _ _ _ rfl (HO4.out.alloc _) ⟨w4.heap.size, 0, none⟩ 2 2 [.int .i64 1, .int .i64 2, .int .i64 3, .int .i64 3] rfl rfl (news_four rfl _ _ _ _) (by intro u hu; simp at hu; rcases hu with rfl | rfl | rfl | rfl <;> rfl) (by unfold maxLen; omega) (by omega) (by simp; omega) ?_; intro v1 w6 own6 hg6 _; have HO6 := Lib.hid own6; have HG6 := Lib.hid hg6; clear own6 hg6))
        obtain ⟨A6, c6, hv1'⟩ := own_slice HO6.out
        have hlb : ∀ r, (Value.slice A2 ys.length c2).ownBlock = some r → w.heap.size ≤ r := fun r hr => (HO4.out.lt r hr).1
        subst hv1'
        go_ret
        have hl1 : ys.length + 2 = (ys ++ [((1 : Int), (2 : Int)), (3, 3)]).length := by simp
        rw [hl1] at HO6 ⊢
        refine ⟨A6, c6, ys ++ [(1, 2), (3, 3)], rfl, ?_, .inl (by simp; omega), ?_, ?_⟩
        · rw [← flat_push2]; exact HO6.out
        · exact grown_row (grown_below HG4.out (below_one w4 _)) HG6.out hlb
        · exact ((HR4.out.alloc _).grown HG6.out (fun r hr => by have := hlb r hr; omega)).less (by omega)
      · have hb1 : (v == 1) = false := by simpa using h1
        clear h0 h1
        have hbytes : i0.bytes * 41 ≤ 281474976710656 := by rw [hz2]; omega
        have hmax : 41 ≤ maxLen := by unfold maxLen; omega
        go_wp2_with (first
          | (at_make; refine wpList_make_full _ rfl (.const (.int .i64 41)) (.const (.int .i64 41)) 23 rfl w.heap.size 30 i0 _ 2 Try.underlying23 hi hz0 hz1 .i64 .i64 41 41 41 rfl rfl rfl rfl hbytes hmax hz4' ?_; intro w6 own6 hg6; have HO6 := Lib.hid own6; have HG6 := Lib.hid hg6; clear own6 hg6))
        go_ret
        have hz : w6.ownsRow w.heap.size 30 2 (.slice (some ⟨w4.heap.size, 0, none⟩) 41 41) 41 (flat (List.replicate 41 ((0, 0) : Int × Int))) := by rw [← zeros_toList]; exact HO6.out
        have hb6 : Below w4.heap.size w4 w6 := (Below.refl _ _).grown HG6.out (Nat.le_refl _) (by simp)
        refine ⟨_, 41, List.replicate 41 ((0, 0) : Int × Int), rfl, ?_, .inr (by simp [valid]), ?_, ?_⟩
        · exact hz
        · exact grown_below HG4.out hb6
        · exact (HR4.out.below hb6).less (by omega)
end Go.Proofs.Ytbonkolgbcmaoaa
