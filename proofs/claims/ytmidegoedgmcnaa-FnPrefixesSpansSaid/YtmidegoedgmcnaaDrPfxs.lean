/-
  WALK: spec.l20Prefixes: drawn lists of prefixes.
-/
import Derived.Test.YtmidegoedgmcnaaDrPrefix
import Derived.Test.YtmidegoedgmcnaaDrSet
import Derived.Test.YtmidegoedgmcnaaStep
import Derived.Test.YtmidegoedgmcnaaCovW
import Derived.Test.YtmidegoedgmcnaaBlk
namespace Go.Proofs.Ytmidegoedgmcnaa
open Go.ChangeShapes Go.WideShapes Go.ChangeAt Go.RowKit Go.Sort Pf
set_option maxRecDepth 20000

def DrewPfxs (g f : Nat) (w : World) (e : Ending) (w' : World) : Prop := ∃ (A : Option Addr) (c : Nat) (xs : PS), e = .returned (.slice A xs.length c) ∧ w'.ownsRow w.heap.size 30 2 (.slice A xs.length c) xs.length (flat xs) ∧ xs.length ≤ 41 ∧ w.grownBy w' (some g) ∧ Rdr w' g f

set_option maxHeartbeats 2000000 in
theorem drPfxs_any (g f : Nat) (n : Int) (w : World) (hn0 : 0 ≤ n) (hn1 : n ≤ 1000) (h : Rdr w g (f + 72)) :
    Calls Try.prog 41 #[.pointer (some ⟨g, 0, none⟩), .int .i64 n] w (DrewPfxs g f w) := by
  have hgw := h.lt
  have HR := Lib.hid h
  obtain ⟨i0, hi, hz0, hz1, hz2⟩ := info_parts infoPrefixE
  clear h
  go_enter Try.func41, Try.ntmps41
  go_wp2_with fail
  refine (pick_any g _ (f + 71) 7 _ (HR.out.alloc _) rfl).mono ?_
  intro e w1 hp
  obtain ⟨v, rfl, hv0, hv1, hg1, hr1⟩ := picked_lt (by omega) hp
  clear hp
  obtain ⟨j0, rfl⟩ := Int.eq_ofNat_of_zero_le hv0
  have own0 := own_grown (World.ownsRow_lit (base := w.heap.size) (e := 30) (size := 2) w #[] 0 (Nat.le_refl _) (by unfold maxLen; omega) rfl) hg1 (.inl hgw)
  have OWN0 := Lib.hid own0
  have HG := Lib.hid (grownBy_trans (below_grown (below_one w _)) hg1)
  have HR1 := Lib.hid (hr1.less (show f + 11 + 10 * j0 ≤ f + 71 by omega))
  have hj6 : j0 ≤ 6 := by omega
  clear hg1 HR own0 hr1 hv0 hv1
  go_wp2
  go_loopw [5, 6] (fun o i wr => ∃ (j : Nat) (outs : PS) (A' : Option Addr) (c' : Nat), i = .int .i64 j ∧ outs.length + 2 * j ≤ 12 ∧ o = .slice A' outs.length c' ∧
      wr.ownsRow w.heap.size 30 2 (.slice A' outs.length c') outs.length (flat outs) ∧ w.grownBy wr (some g) ∧ Rdr wr g (f + 11 + 10 * j)) (fun _ i _ => (intOf i).toNat)
  case atStart => exact ⟨j0, [], _, _, rfl, by simp; omega, rfl, OWN0.out, HG.out, HR1.out⟩
  case round =>
    obtain ⟨j, outs, A', c', rfl, hlen, rfl, own, hg, hr⟩ := hrel
    clear OWN0 HG HR1
    match j, hlen, hr with
    | 0, hlen, hr =>
      have HO := Lib.hid own
      have HG := Lib.hid hg
      have HR := Lib.hid hr
      have hol : outs.length ≤ 12 := by omega
      clear own hg hr
      go_wp2_with fail
      refine (odd_any g (f + 10) n _ hn0 hn1 HR.out).mono ?_
      rintro e w3 ⟨b, rfl, hg3, hr3⟩
      have HO3 := Lib.hid (own_grown HO.out hg3 (.inl hgw))
      have HG3 := Lib.hid (grownBy_trans HG.out hg3)
      have HR3 := Lib.hid hr3
      clear hg3 hr3 HO HG HR
      cases b with
      | false =>
        go_wp2
        go_ret
        exact ⟨A', c', outs, rfl, HO3.out, by omega, HG3.out, HR3.out.less (by omega)⟩
      | true =>
        go_wp2_with fail
        refine (pick_any g _ (f + 9) 2 _ HR3.out rfl).mono ?_
        intro e w4 hp
        obtain ⟨v, rfl, hv0, hv1, hg4, hr4⟩ := picked_lt (by omega) hp
        clear hp
        have HO4 := Lib.hid (own_grown HO3.out hg4 (.inl hgw))
        have HG4 := Lib.hid (grownBy_trans HG3.out hg4)
        have hz4' := HG4.out.size
        have HR4 := Lib.hid hr4
        clear hg4 hr4 HO3 HG3 HR3
        by_cases h0 : v = 0
        · have hb : (v == 0) = true := by simpa using h0
          clear h0
          go_wp2_with fail
          refine (drPrefix_any g f 1 _ (by omega) (by omega) HR4.out).mono ?_
          rintro e w5 ⟨lo, hi2, rfl, hg5, hr5⟩
          have HO := Lib.hid (own_grown HO4.out hg5 (.inl hgw))
          have HG := Lib.hid (grownBy_trans HG4.out hg5)
          have hz5 := HG.out.size
          have HR5 := Lib.hid hr5
          clear hg5 hr5 HO4 HG4 HR4 hz4'
          go_wp2_with (first | (at_builtin; refine wpList_append_own _ rfl (.tmp 48) (.tmp 51) 23 rfl w.heap.size 30 i0 _ 2 16 Try.underlying23 hi hz0 hz1 hz2 rfl (by decide) _ _ _ rfl (HO.out.alloc _) ⟨w5.heap.size, 0, none⟩ 1 1 [.int .i64 lo, .int .i64 hi2] rfl rfl (news_at rfl _ _) (news_one _ _) (by unfold maxLen; omega) (by omega) (by simp; omega) ?_; intro v1 w6 own6 hg6 _; have HO6 := Lib.hid own6; have HG6 := Lib.hid hg6; clear own6 hg6))
          obtain ⟨A6, c6, hv1'⟩ := own_slice HO6.out
          have hlb : ∀ r, (Value.slice A' outs.length c').ownBlock = some r → w.heap.size ≤ r := fun r hr => (HO.out.lt r hr).1
          subst hv1'
          go_ret
          have hl1 : outs.length + 1 = (outs ++ [(lo, hi2)]).length := by simp
          rw [hl1] at HO6 ⊢
          refine ⟨A6, c6, outs ++ [(lo, hi2)], rfl, ?_, by simp; omega, ?_, ?_⟩
          · rw [← flat_push]; exact HO6.out
          · exact grown_row (grown_below HG.out (below_one w5 _)) HG6.out hlb
          · exact (HR5.out.alloc _).grown HG6.out (fun r hr => by have := hlb r hr; omega)
        · have hb : (v == 0) = false := by simpa using h0
          clear h0
          have hbytes : i0.bytes * 41 ≤ 281474976710656 := by rw [hz2]; omega
          have hmax : 41 ≤ maxLen := by unfold maxLen; omega
          go_wp2_with (first
            | (at_make; refine wpList_make_full _ rfl (.const (.int .i64 41)) (.const (.int .i64 41)) 23 rfl w.heap.size 30 i0 _ 2 Try.underlying23 hi hz0 hz1 .i64 .i64 41 41 41 rfl rfl rfl rfl hbytes hmax hz4' ?_; intro w6 own6 hg6; have HO6 := Lib.hid own6; have HG6 := Lib.hid hg6; clear own6 hg6))
          go_ret
          have hz : w6.ownsRow w.heap.size 30 2 (.slice (some ⟨w4.heap.size, 0, none⟩) 41 41) 41 (flat (List.replicate 41 ((0, 0) : Int × Int))) := by rw [← zeros_toList]; exact HO6.out
          have hb6 : Below w4.heap.size w4 w6 := (Below.refl _ _).grown HG6.out (Nat.le_refl _) (by simp)
          refine ⟨_, 41, List.replicate 41 ((0, 0) : Int × Int), rfl, ?_, by simp, ?_, ?_⟩
          · exact hz
          · exact grown_below HG4.out hb6
          · exact (HR4.out.below hb6).less (by omega)
    | j + 1, hlen, hr =>
      have hr' : Rdr wr g (f + 12 + 10 * j + 9) := hr.less (by omega)
      have hjpos : (0 : Int) < ((j + 1 : Nat) : Int) := by omega
      have hsz := hg.size
      have hol : outs.length + 2 + 2 * j ≤ 12 := by omega
      go_wp2_with fail
      refine (drPrefix_any0 g (f + 12 + 10 * j) 0 _ (by omega) (by omega) hr').mono ?_
      rintro e w2 ⟨x, y, rfl, hy0, hg2, hr2⟩
      obtain ⟨y0, y1⟩ := hy0 rfl
      have hx2 := below_one w2 (.cells #[.int .i64 x, .int .i64 y] 30)
      have HO := Lib.hid (own_below (own_grown own hg2 (.inl hgw)) hx2)
      have HLT := Lib.hid (fun r hr => ((own_grown own hg2 (.inl hgw)).lt r hr))
      have HG := Lib.hid (grown_below (grownBy_trans hg hg2) hx2)
      have HR2 := Lib.hid (hr2.below hx2)
      have KQ := Lib.hid (Blk.new w2 #[.int .i64 x, .int .i64 y] 30)
      have hr2' : g < w2.heap.size := hr2.lt
      clear own hg hg2 hr hr' hr2 hx2 hy0
      go_upto_region 6 with fail
      have hgQ : g ≠ w2.heap.size := by have := hr2'; have := hsz; omega
      generalize hQ : w2.heap.size = Q at KQ HLT hgQ
      generalize w2.alloc (.cells #[.int .i64 x, .int .i64 y] 30) = V at *
      clear hQ
      have hsV := HG.out.size
      have q0 := KQ.out.c 0 rfl
      have q1 := KQ.out.c 1 rfl
      go_cut [5] (fun s5 wx => ∃ (A3 : Option Addr) (c3 : Nat), s5 = .slice A3 (outs.length + 1) c3 ∧ w.grownBy wx (some g) ∧ Rdr wx g (f + 12 + 10 * j) ∧ (Blk wx Q [.int .i64 x, .int .i64 y] ∧ g ≠ Q ∧ (Value.slice A3 (outs.length + 1) c3).ownBlock ≠ some Q) ∧ wx.ownsRow w.heap.size 30 2 (.slice A3 (outs.length + 1) c3) (outs.length + 1) (flat (outs ++ [(x, y)])))
      case first =>
        go_wp2_with (first | (at_builtin; refine wpList_append_ownB rfl (.tmp 17) (.tmp 19) 23 rfl w.heap.size 30 i0 _ 2 16 Try.underlying23 hi hz0 hz1 hz2 rfl (by decide) _ _ _ rfl (HO.out.alloc _) ⟨V.heap.size, 0, none⟩ 1 1 [.int .i64 x, .int .i64 y] rfl rfl (news_at rfl _ _) (news_one _ _) (by omega) (by unfold maxLen; omega) (by omega) (by simp; omega) ?_; intro v1 w3 own3 hg3 hB3; have HO3 := Lib.hid own3; have HG3 := Lib.hid hg3; have HB3 := Lib.hid hB3; clear own3 hg3 hB3))
        obtain ⟨A3, c3, hv1⟩ := own_slice HO3.out
        subst hv1
        have hne : (Value.slice A' outs.length c').ownBlock ≠ some Q := fun e => by have := (HLT.out Q e).2; omega
        have hlb : ∀ r, (Value.slice A' outs.length c').ownBlock = some r → w.heap.size ≤ r := fun r hr => (HLT.out r hr).1
        have HN := Lib.hid (show (Value.slice A3 (outs.length + 1) c3).ownBlock ≠ some Q from by
          rcases HB3.out with e | e
          · rw [e]; exact hne
          · rw [e]; have := KQ.out.lt; simp; omega)
        have HG4 := Lib.hid (grown_row (grown_below HG.out (below_one V _)) HG3.out hlb)
        have HR4 := Lib.hid ((HR2.out.alloc _).grown HG3.out (fun r hr => by have := hlb r hr; omega))
        have KQ3 := Lib.hid ((KQ.out.alloc _).grown HG3.out hne)
        have HO4 := Lib.hid (show w3.ownsRow w.heap.size 30 2 (.slice A3 (outs.length + 1) c3) (outs.length + 1) (flat (outs ++ [(x, y)])) by rw [← flat_push]; exact HO3.out)
        clear HG3 HR2 HO3 HO HG KQ HLT hne hlb q0 q1 HB3
        go_meet
        exact ⟨A3, c3, rfl, HG4.out, HR4.out, ⟨KQ3.out, hgQ, HN.out⟩, HO4.out⟩
      case rest =>
      clear HO HG KQ HLT HR2 q0 q1
      obtain ⟨A3, c3, rfl, hg4, hr4, ⟨hk4, hgQ, hnQ⟩, ho4⟩ := hcut
      have HNQ := Lib.hid hnQ
      clear hnQ
      have HG4 := Lib.hid hg4
      have HR4 := Lib.hid hr4
      have KQ3 := Lib.hid hk4
      have HO4 := Lib.hid ho4
      have hol4 : (outs ++ [(x, y)]).length = outs.length + 1 := by simp
      clear hg4 hr4 hk4 ho4
      generalize outs ++ [(x, y)] = outs1 at HO4 hol4
      have q1 := KQ3.out.c 1 rfl
      go_upto_region 7 with fail
      go_cut [28] (fun s28 wx => ∃ q : Bool, s28 = .bool q ∧ (q = true → 0 < y) ∧ w.grownBy wx (some g) ∧ Rdr wx g (f + 11 + 10 * j) ∧ Blk wx Q [.int .i64 x, .int .i64 y] ∧ wx.ownsRow w.heap.size 30 2 (.slice A3 (outs.length + 1) c3) (outs.length + 1) (flat outs1))
      case first =>
        by_cases hy : 0 < y
        · go_wp2_with fail
          refine (pick_any g _ (f + 11 + 10 * j) 3 _ (HR4.out.less (show f + 12 + 10 * j ≤ f + 12 + 10 * j by omega)) (by omega)).mono ?_
          intro e w5 hp
          obtain ⟨v, rfl, -, -, hg5, hr5⟩ := hp
          have HG5 := Lib.hid (grownBy_trans HG4.out hg5)
          have HO5 := Lib.hid (own_grown HO4.out hg5 (.inl hgw))
          have KQ5 := Lib.hid (KQ3.out.grown hg5 (by simpa using hgQ))
          have HR5 := Lib.hid hr5
          clear hg5 hr5
          go_wp2
          go_meet
          exact ⟨_, rfl, fun _ => hy, HG5.out, HR5.out, KQ5.out, HO5.out⟩
        · go_wp2
          go_meet
          exact ⟨false, rfl, by simp, HG4.out, HR4.out.less (by omega), KQ3.out, HO4.out⟩
      case rest =>
        clear q1 HG4 HR4 KQ3 HO4
        obtain ⟨q, rfl, hqy, hgx, hrx, kq, ox⟩ := hcut
        cases q with
        | false =>
          go_wp2
          go_roundw
          case rel => exact ⟨j, outs1, A3, c3, by go_num, by omega, by rw [hol4], by rw [hol4]; exact ox, hgx, hrx⟩
          case measure => simp [intOf]
        | true =>
          have hy := hqy rfl
          have hs : IntKind.i64.wrap (16 - y) = 16 - y := IntWalk.i64_in _ (by omega)
          have hs0 : 0 ≤ 16 - y := by omega
          have q0 := (kq.drew).c 0 rfl
          have q1 := (kq.drew).c 1 rfl
          obtain ⟨z, hz⟩ : ∃ z, bits BinOp.xor IntKind.i64 x (IntKind.i64.wrap (2 ^ (16 - y).toNat)) = z := ⟨_, rfl⟩
          have HO8 := Lib.hid ox
          have HG8 := Lib.hid hgx
          have HR8 := Lib.hid hrx
          have HK8 := Lib.hid ((kq.alloc (.cells #[.int .i64 z, .int .i64 y] 30)).drew)
          have OA := Lib.hid (own_below ox (below_one wc (.cells #[.int .i64 z, .int .i64 y] 30)))
          have NA := Lib.hid (news_at (W := wc) (t := 30) (g := wc.heap.size) rfl z y)
          have BA := Lib.hid (show w.heap.size ≤ (wc.alloc (.cells #[.int .i64 z, .int .i64 y] 30)).heap.size by have := hgx.size; simp; omega)
          have hs8 := hgx.size
          clear hqy hgx hrx kq ox
          go_upto_region 8 with fail
          go_region_held3 (fun w' => w'.cell? ⟨Q, 0, none⟩ = some (.int .i64 x) ∧ w'.cell? ⟨Q, 1, none⟩ = some (.int .i64 y)) (first | exact ⟨q0, q1⟩ | exact ⟨HK8.out.c 0 rfl, HK8.out.c 1 rfl⟩ | exact ⟨KZ.c 0 rfl, KZ.c 1 rfl⟩ | go_keep) (first | (refine step_append_own (by rfl) (.tmp 29) (.tmp 40) 23 (by rfl) w.heap.size 30 i0 _ 2 16 Try.underlying23 hi hz0 hz1 hz2 rfl (by decide) (.slice A3 (outs.length + 1) c3) (outs.length + 1) _ (by rfl) (by exact OA.out) ⟨wc.heap.size, 0, none⟩ 1 1 [.int .i64 z, .int .i64 y] (by rfl) rfl (by exact NA.out) (news_one _ _) (by unfold maxLen; omega) (by omega) (by exact BA.out) ?_; intro v9 w9 own9 hg9; have KZ := HK8.out.grown hg9 HNQ.out; have HO9 := Lib.hid own9; have HG9 := Lib.hid (show (wc.alloc (.cells #[.int .i64 z, .int .i64 y] 30)).grownBy w9 (Value.slice A3 (outs.length + 1) c3).ownBlock from grownBy_trans (grownBy_drewN _ 1 _) hg9)))
          obtain ⟨A9, c9, hv9⟩ := own_slice HO9.out
          subst hv9
          have hlb : ∀ r, (Value.slice A3 (outs.length + 1) c3).ownBlock = some r → w.heap.size ≤ r := fun r hr => (HO8.out.lt r hr).1
          have hl9 : (outs1 ++ [(z, y)]).length = outs.length + 1 + 1 := by simp; omega
          go_wp2
          go_roundw
          case rel =>
            refine ⟨j, outs1 ++ [(z, y)], A9, c9, by go_num, by omega, by rw [hl9], ?_, ?_, ?_⟩
            · rw [hl9, ← flat_push]; exact HO9.out
            · exact grown_row (grown_below HG8.out (below_one wc _)) HG9.out hlb
            · exact (HR8.out.alloc _).grown HG9.out (fun r hr => by have := hlb r hr; omega)
          case measure => simp [intOf]
end Go.Proofs.Ytmidegoedgmcnaa
