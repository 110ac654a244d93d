/-
  WALK: spec.l20Tests: drawn lists of tests.
-/
import Derived.Test.YtoapnjlpmjcloaaDoorDrTest
import Derived.Test.YtoapnjlpmjcloaaDoorMemT
import Derived.Test.YtoapnjlpmjcloaaDoorToTest
namespace Go.Proofs.YtoapnjlpmjcloaaDoor
open Go.ChangeShapes Go.WideShapes Go.ChangeAt Go.RowKit Go.Sort Pf
set_option maxRecDepth 20000

theorem zeros7 : (madeCells #[Value.int .i64 0, Value.int .i64 0, Value.int .i64 0, Value.bool false] (7 * 4)).toList = flat4 (List.replicate 7 ⟨0, 0, 0, false⟩) := by first | kernel_rfl | (simp [madeCells, flat4, cells4]; rfl)
theorem grownT_below {w wx w2 : World} {g : Nat} (h : w.grownBy wx (some g)) (k : Below wx.heap.size wx w2) : w.grownBy w2 (some g) := grownBy_trans h (below_grown k)
theorem ownT_grown {lo n : Nat} {t : TypeId} {w w' : World} {v : Value} {us : List Value} {g : Nat} (h : w.ownsRow lo t 4 v n us) (hg : w.grownBy w' (some g)) (hl : g < lo) : w'.ownsRow lo t 4 v n us := ownS_grown h hg (.inl hl)
def DrewTests (g f : Nat) (w : World) (e : Ending) (w' : World) : Prop := ∃ (A : Option Addr) (c : Nat) (xs : TS), e = .returned (.slice A xs.length c) ∧ w'.ownsRow w.heap.size 32 4 (.slice A xs.length c) xs.length (flat4 xs) ∧ (xs.length ≤ 7 ∧ ∃ b, A = some ⟨b, 0, none⟩) ∧ w.grownBy w' (some g) ∧ Rdr w' g f
theorem ownT_some {w : World} {lo n c : Nat} {t : TypeId} {A : Option Addr} {us : List Value} (h : w.ownsRow lo t 4 (.slice A n c) n us) (hn : 0 < n) : ∃ b, A = some ⟨b, 0, none⟩ := by
  rcases ownS_form h with ⟨-, h0, -⟩ | ⟨b, e, -⟩
  · omega
  · exact ⟨b, e⟩

set_option maxHeartbeats 2000000 in
theorem drTests_any (g f : Nat) (n : Int) (w : World) (hn0 : 0 ≤ n) (hn1 : n ≤ 1000) (h : Rdr w g (f + 75)) :
    Calls Tryd.prog 68 #[.pointer (some ⟨g, 0, none⟩), .int .i64 n] w (DrewTests g f w) := by
  have hgw := h.lt
  have HR := Lib.hid h
  obtain ⟨i0, hi, hz0, hz1, hz2⟩ := info_parts infoTest
  clear h
  go_enter Tryd.func68, Tryd.ntmps68
  go_wp2_with fail
  refine (pick_any g _ (f + 74) 4 _ (HR.out.alloc _) rfl).mono ?_
  intro e w1 hp
  obtain ⟨v, rfl, hv0, hv1, hg1, hr1⟩ := picked_lt (by omega) hp
  clear hp
  obtain ⟨j0, rfl⟩ := Int.eq_ofNat_of_zero_le hv0
  have own0 := ownT_grown (World.ownsRow_lit (base := w.heap.size) (e := 32) (size := 4) w #[] 0 (Nat.le_refl _) (by unfold maxLen; omega) rfl) hg1 hgw
  have OWN0 := Lib.hid own0
  have HG := Lib.hid (grownBy_trans (below_grown (below_one w _)) hg1)
  have HR1 := Lib.hid (hr1.less (show f + 20 + 18 * j0 ≤ f + 74 by omega))
  have hj3 : j0 ≤ 3 := by omega
  clear hg1 HR own0 hr1 hv0 hv1
  go_wp2
  go_loopw [5, 6] (fun o i wr => ∃ (j : Nat) (outs : TS) (A' : Option Addr) (c' : Nat), i = .int .i64 j ∧ outs.length + j ≤ 3 ∧ o = .slice A' outs.length c' ∧ (∃ b, A' = some ⟨b, 0, none⟩) ∧
      wr.ownsRow w.heap.size 32 4 (.slice A' outs.length c') outs.length (flat4 outs) ∧ w.grownBy wr (some g) ∧ Rdr wr g (f + 20 + 18 * j)) (fun _ i _ => (intOf i).toNat)
  case atStart => exact ⟨j0, [], _, _, rfl, by simp; omega, rfl, ⟨_, rfl⟩, OWN0.out, HG.out, HR1.out⟩
  case round =>
    obtain ⟨j, outs, A', c', rfl, hlen, rfl, hAs, own, hg, hr⟩ := hrel
    have HAS := Lib.hid hAs
    clear hAs
    clear OWN0 HG HR1
    match j, hlen, hr with
    | 0, hlen, hr =>
      have HO := Lib.hid own
      have HG := Lib.hid hg
      have HR := Lib.hid hr
      have hol : outs.length ≤ 3 := by omega
      clear own hg hr
      go_wp2_with fail
      refine (odd_any g (f + 19) n _ hn0 hn1 HR.out).mono ?_
      rintro e w3 ⟨b, rfl, hg3, hr3⟩
      have HO3 := Lib.hid (ownT_grown HO.out hg3 hgw)
      have HG3 := Lib.hid (grownBy_trans HG.out hg3)
      have HR3 := Lib.hid hr3
      clear hg3 hr3 HO HG HR
      cases b with
      | false =>
        go_wp2
        go_ret
        exact ⟨A', c', outs, rfl, HO3.out, ⟨by omega, HAS.out⟩, HG3.out, HR3.out.less (by omega)⟩
      | true =>
        go_wp2_with fail
        refine (pick_any g _ (f + 18) 2 _ HR3.out rfl).mono ?_
        intro e w4 hp
        obtain ⟨v, rfl, hv0, hv1, hg4, hr4⟩ := picked_lt (by omega) hp
        clear hp
        have HO4 := Lib.hid (ownT_grown HO3.out hg4 hgw)
        have HG4 := Lib.hid (grownBy_trans HG3.out hg4)
        have hz4' := HG4.out.size
        have HR4 := Lib.hid hr4
        clear hg4 hr4 HO3 HG3 HR3
        by_cases h0 : v = 0
        · have hb : (v == 0) = true := by simpa using h0
          clear h0
          go_wp2_with fail
          refine (drTest_any g f 1 _ (by omega) (by omega) HR4.out).mono ?_
          rintro e w5 ⟨a, b, d, q, rfl, hg5, hr5⟩
          have HO := Lib.hid (ownT_grown HO4.out hg5 hgw)
          have HG := Lib.hid (grownBy_trans HG4.out hg5)
          have hz5 := HG.out.size
          have HR5 := Lib.hid hr5
          clear hg5 hr5 HO4 HG4 HR4 hz4'
          go_wp2_with (first | (at_builtin; refine wpList_append_own _ rfl (.tmp 25) (.tmp 28) 39 rfl w.heap.size 32 i0 _ 4 32 Tryd.underlying39 hi hz0 hz1 hz2 rfl (by decide) _ _ _ rfl (HO.out.alloc _) ⟨w5.heap.size, 0, none⟩ 1 1 [.int .i64 a, .int .i64 b, .int .i64 d, .bool q] rfl rfl (newsT_at rfl _ _ _ _) (newsT_one _ _ _ _) (by unfold maxLen; omega) (by omega) (by simp; omega) ?_; intro v1 w6 own6 hg6 _; have HO6 := Lib.hid own6; have HG6 := Lib.hid hg6; clear own6 hg6))
          obtain ⟨A6, c6, hv1'⟩ := ownS_slice HO6.out
          have hlb : ∀ r, (Value.slice A' outs.length c').ownBlock = some r → w.heap.size ≤ r := fun r hr => (HO.out.lt r hr).1
          subst hv1'
          go_ret
          have hl1 : outs.length + 1 = (outs ++ [⟨a, b, d, q⟩] : TS).length := by simp
          rw [hl1] at HO6 ⊢
          have hA6 := ownT_some HO6.out (by simp)
          refine ⟨A6, c6, outs ++ [⟨a, b, d, q⟩], rfl, ?_, ⟨by simp; omega, hA6⟩, ?_, ?_⟩
          · rw [← flat4_push]; exact HO6.out
          · exact grown_row4 (grownT_below HG.out (below_one w5 _)) HG6.out hlb
          · exact (HR5.out.alloc _).grown HG6.out (fun r hr => by have := hlb r hr; omega)
        · have hb : (v == 0) = false := by simpa using h0
          clear h0
          have hbytes : i0.bytes * 7 ≤ 281474976710656 := by rw [hz2]; omega
          have hmax : 7 ≤ maxLen := by unfold maxLen; omega
          go_wp2_with (first
            | (at_make; refine wpList_make_full _ rfl (.const (.int .i64 7)) (.const (.int .i64 7)) 39 rfl w.heap.size 32 i0 _ 4 Tryd.underlying39 hi hz0 hz1 .i64 .i64 7 7 7 rfl rfl rfl rfl hbytes hmax hz4' ?_; intro w6 own6 hg6; have HO6 := Lib.hid own6; have HG6 := Lib.hid hg6; clear own6 hg6))
          go_ret
          have hz : w6.ownsRow w.heap.size 32 4 (.slice (some ⟨w4.heap.size, 0, none⟩) 7 7) 7 (flat4 (List.replicate 7 (⟨0, 0, 0, false⟩ : Tst))) := by rw [← zeros7]; exact HO6.out
          have hb6 : Below w4.heap.size w4 w6 := (Below.refl _ _).grown HG6.out (Nat.le_refl _) (by simp)
          refine ⟨_, 7, List.replicate 7 (⟨0, 0, 0, false⟩ : Tst), rfl, ?_, ⟨by simp, _, rfl⟩, ?_, ?_⟩
          · exact hz
          · exact grownT_below HG4.out hb6
          · exact (HR4.out.below hb6).less (by omega)
    | j + 1, hlen, hr =>
      have hr' : Rdr wr g (f + 20 + 18 * j + 18) := hr.less (by omega)
      have hjpos : (0 : Int) < ((j + 1 : Nat) : Int) := by omega
      have hsz := hg.size
      go_wp2_with fail
      refine (drTest_any g (f + 20 + 18 * j) 0 _ (by omega) (by omega) hr').mono ?_
      rintro e w2 ⟨a, b, d, q, rfl, hg2, hr2⟩
      have HO := Lib.hid (ownT_grown own hg2 hgw)
      have HG := Lib.hid (grownBy_trans hg hg2)
      have hsz2 := hg2.size
      have HR2 := Lib.hid hr2
      clear own hg hg2 hr hr' hr2
      go_wp2_with (first | (at_builtin; refine wpList_append_own _ rfl (.tmp 14) (.tmp 17) 39 rfl w.heap.size 32 i0 _ 4 32 Tryd.underlying39 hi hz0 hz1 hz2 rfl (by decide) _ _ _ rfl (HO.out.alloc _) ⟨w2.heap.size, 0, none⟩ 1 1 [.int .i64 a, .int .i64 b, .int .i64 d, .bool q] rfl rfl (newsT_at rfl _ _ _ _) (newsT_one _ _ _ _) (by unfold maxLen; omega) (by omega) (by simp; omega) ?_; intro v1 w6 own6 hg6 _; have HO6 := Lib.hid own6; have HG6 := Lib.hid hg6; clear own6 hg6))
      obtain ⟨A3, c3, hv1⟩ := ownS_slice HO6.out
      have hlb : ∀ r, (Value.slice A' outs.length c').ownBlock = some r → w.heap.size ≤ r := fun r hr => (HO.out.lt r hr).1
      go_roundw
      case rel =>
        have HO7 := HO6.out
        rw [hv1] at HO7
        refine ⟨j, outs ++ [⟨a, b, d, q⟩], A3, c3, by go_num, by simp; omega, by rw [hv1]; simp, ownT_some HO7 (by omega), ?_, ?_, ?_⟩
        · rw [show (outs ++ [⟨a, b, d, q⟩] : TS).length = outs.length + 1 from by simp, ← flat4_push, ← hv1]; exact HO6.out
        · exact grown_row4 (grownT_below HG.out (below_one w2 _)) HG6.out hlb
        · exact (HR2.out.alloc _).grown HG6.out (fun r hr => by have := hlb r hr; omega)
      case measure => simp [intOf]
end Go.Proofs.YtoapnjlpmjcloaaDoor
