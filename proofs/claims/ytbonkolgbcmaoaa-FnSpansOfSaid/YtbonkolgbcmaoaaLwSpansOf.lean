/-
  THE WALK of the law FnSpansOf.
-/
import Derived.Test.YtbonkolgbcmaoaaLwKit
import Derived.Test.YtbonkolgbcmaoaaImplOf
import Derived.Test.YtbonkolgbcmaoaaSpecOf
import Derived.Test.YtbonkolgbcmaoaaDrPair
import Derived.Test.YtbonkolgbcmaoaaIHave
namespace Go.Proofs.Ytbonkolgbcmaoaa
open Go.ChangeShapes Go.WideShapes Go.ChangeAt Go.RowKit Go.Sort Pf
theorem rev_get {xs : PS} {j : Nat} (h : j < xs.length) : xs.reverse[j]? = some (xs[xs.length - 1 - j]'(by omega)) := by
  rw [List.getElem?_reverse h, List.getElem?_eq_getElem]
theorem rev_take {xs : PS} {j : Nat} (h : j < xs.length) : xs.reverse.take (j + 1) = xs.reverse.take j ++ [xs[xs.length - 1 - j]'(by omega)] := by
  rw [List.take_add_one, rev_get h]; rfl

set_option maxRecDepth 100000 in
set_option maxHeartbeats 1000000 in
theorem walkFnSpansOf (A : Option Addr) (n c : Nat) (zs : List Int) (w : World) (h : Rb w A n c zs) :
    Calls Try.prog 14 #[.slice A n c] w fun e w' => e = .returned (.bool true) ∧ Below w.heap.size w w' := by
  have hmax : n ≤ maxLen := Nat.le_trans h.2.1 h.2.2.1
  unfold maxLen at hmax
  have CD := Lib.hid (drawSpansOf_any A n c zs w h)
  clear h
  by_cases hn : n ≤ 1048576
  · have hn1 : (n : Int) ≤ 1048576 := by omega
    clear hn
    go_enter Try.func14, Try.ntmps14
    go_wp2_with fail
    refine (CD.out).mono ?_
    rintro e w1 ⟨A1, c1, xs, top, rfl, ⟨r1, n1⟩, hP, hb1⟩
    have H := Lib.hid hb1
    have Ra := Lib.hid r1
    obtain ⟨ht, hx⟩ := hP
    obtain ⟨ht0, ht1⟩ := ht.bd
    clear hb1 r1 n1 ht CD
    obtain ⟨X, hX⟩ : ∃ Q_, ofV xs top = Q_ := ⟨_, rfl⟩
    have HX := Lib.hid hX
    clear hX
    go_wp2_with fail
    refine (owns_as (iSpansOf_any A1 xs.length c1 xs top _ Ra.out) HX.out).mono ?_
    rintro e w2 ⟨A_Rx, c_Rx, rfl, own2, hb2⟩
    have Rx := Lib.hid (own_rd own2)
    clear own2
    replace Ra := Lib.hid (Ra.out.below hb2)
    replace H := Lib.hid (chain H.out hb2 H.out.size)
    clear hb2
    go_wp2_with fail
    refine (owns_as (sSpansOf_any A1 xs.length c1 xs top _ Ra.out) HX.out).mono ?_
    rintro e w3 ⟨A_Ry, c_Ry, rfl, own3, hb3⟩
    have Ry := Lib.hid (own_rd own3)
    clear own3
    replace Ra := Lib.hid (Ra.out.below hb3)
    replace Rx := Lib.hid (Rx.out.below hb3)
    replace H := Lib.hid (chain H.out hb3 H.out.size)
    clear hb3
    go_wp2_with fail
    refine (same_yes Rx.out Ry.out rfl).mono ?_
    rintro e w4 ⟨rfl, hb4⟩
    replace Ra := Lib.hid (Ra.out.below hb4)
    replace Rx := Lib.hid (Rx.out.below hb4)
    replace Ry := Lib.hid (Ry.out.below hb4)
    replace H := Lib.hid (chain H.out hb4 H.out.size)
    clear hb4
    by_cases hX0 : X.length = 0
    · have hzX : (((X.length : Nat) : Int) == 0) = true := by rw [hX0]; rfl
      clear hX0
      go_wp2_with fail
      refine (alive_any _).mono ?_
      rintro e w5 ⟨rfl, hb5⟩
      replace Ra := Lib.hid (Ra.out.below hb5)
      replace Rx := Lib.hid (Rx.out.below hb5)
      replace H := Lib.hid (chain H.out hb5 H.out.size)
      clear hb5
      go_wp2
      go_ret
      exact ⟨rfl, H.out⟩
    · have hzX : (((X.length : Nat) : Int) == 0) = false := by simp; simpa using hX0
      have hok : ofOk xs top = true := ofV_pos (top := top) (by rw [HX.out]; exact hX0)
      have HOK := Lib.hid hok
      have HV := Lib.hid (show valid X top = true by rw [← HX.out]; exact ofV_valid hok)
      have HR := Lib.hid (show ofV xs.reverse top = X by rw [ofV_reverse]; exact HX.out)
      have HA := Lib.hid (show ofV X top = X by rw [← HX.out]; exact ofV_again xs top)
      have HME := Lib.hid (fun v => show memB v X = memB v xs by rw [← HX.out]; exact ofV_mem hok v)
      have HB := Lib.hid (fun k (hk : k < xs.length) => (ofOk_iff.1 hok).2.2 _ (List.getElem_mem hk))
      clear hok hX0
      obtain ⟨i0, hi, hz0, hz1, hz2⟩ := info_parts infoSpanE
      go_wp2
      have own0 := World.ownsRow_lit (e := 30) (size := 2) w4 #[] 0 (Nat.le_refl _) (by unfold maxLen; omega) rfl
      have OWN0 := Lib.hid own0
      clear own0
      go_loopw [6, 7] (fun s6 i wr => ∃ (j : Nat) (B : Option Addr) (d : Nat) (out : PS), j ≤ xs.length ∧ i = .int .i64 ((xs.length : Int) - 1 - j) ∧ s6 = .slice B out.length d ∧ wr.ownsRow w4.heap.size 30 2 (.slice B out.length d) out.length (flat out) ∧ out = xs.reverse.take j ∧ Below w4.heap.size w4 wr) (fun _ i _ => (intOf i + 1).toNat)
      case atStart => exact ⟨0, _, _, [], Nat.zero_le _, (by simp), rfl, OWN0.out, rfl, below_one _ _⟩
      case round =>
        clear OWN0
        obtain ⟨j, B, d, out, hj, rfl, rfl, own, hout, hb⟩ := hrel
        have holen : out.length ≤ 5 := by rw [hout, List.length_take, List.length_reverse]; omega
        have hs := hb.size
        by_cases hjn : j < xs.length
        · obtain ⟨b, o, hA, hbl, hc0⟩ := (Ra.out.below hb).at_ (k := xs.length - 1 - j) (by omega)
          subst hA
          obtain ⟨d1, d2⟩ := hc0 (by omega)
          have hB := HB.out (xs.length - 1 - j) (by omega)
          have hrt := rev_take hjn
          rw [← hout] at hrt
          have hki : (xs.length : Int) - 1 - j = ((xs.length - 1 - j : Nat) : Int) := by omega
          rw [hki]
          obtain ⟨q, hq⟩ : ∃ q, xs.length - 1 - j = q := ⟨_, rfl⟩
          have hqn : q < xs.length := by omega
          have HC := Lib.hid (fun W (H : Below w4.heap.size w4 W) => ((Ra.out.below H).at_ (k := q) hqn))
          obtain ⟨s, hse⟩ : ∃ s, xs[q] = s := ⟨_, rfl⟩
          have hse2 : xs[xs.length - 1 - j] = s := by rw [← hse]; congr 1
          rw [hse2] at d1 d2 hB hrt
          rw [hq] at d1 d2 hki ⊢
          have HSE := Lib.hid hse
          obtain ⟨lo, hi2⟩ := s
          simp only at d1 d2 hB
          obtain ⟨hlo0, hlo1, hhi⟩ := hB
          have HRT := Lib.hid hrt
          have HO := Lib.hid own
          have HQ := Lib.hid hq
          have hk1 : (0 : Int) ≤ q := by omega
          have hk2 : (q : Int) < xs.length := by omega
          have HB2 := Lib.hid hb
          clear hrt own hout hc0 hb hq hki hse hse2
          go_wp2_with (first
            | (at_builtin; refine wpList_append_own _ rfl (.tmp 38) (.tmp 43) 23 rfl w4.heap.size 30 i0 _ 2 16 Try.underlying23 hi hz0 hz1 hz2 rfl (by decide) _ _ _ rfl (HO.out.alloc _) ⟨wr.heap.size, 0, none⟩ 1 1 [.int .i64 lo, .int .i64 hi2] rfl rfl (news_at rfl _ _) (news_one _ _) (by unfold maxLen; omega) (by omega) (by simp; omega) ?_; intro v1 w30 own3 hg3 _; have HO3 := Lib.hid own3; have HG3 := Lib.hid hg3; clear own3 hg3))
          obtain ⟨B3, d3, hv1⟩ := own_slice HO3.out
          subst hv1
          have hlb : ∀ r, (Value.slice B out.length d).ownBlock = some r → w4.heap.size ≤ r := fun r hr => (HO.out.lt r hr).1
          have HB3 := Lib.hid ((HB2.out.alloc hs (.cells #[.int .i64 lo, .int .i64 hi2] 30)).grown HG3.out (by simp; omega) hlb)
          clear HG3 d1 d2 hlb
          go_loopw [8] (fun i wq => ∃ dd : Int, i = .int .i64 dd ∧ -1 ≤ dd ∧ dd ≤ 2 ∧ wq.ownsRow w4.heap.size 30 2 (.slice B3 (out.length + 1) d3) (out.length + 1) (flat out ++ [Value.int .i64 lo, Value.int .i64 hi2]) ∧ Below w4.heap.size w4 wq) (fun i _ => (2 - intOf i).toNat)
          case atStart => exact ⟨-1, rfl, by omega, by omega, HO3.out, HB3.out⟩
          case round =>
            clear HB3 HO3 HB2 HO
            obtain ⟨dd, rfl, hd0, hd1, own, hb⟩ := hrel
            have HO := Lib.hid own
            have HB2 := Lib.hid hb
            have hs3 := hb.size
            by_cases hd : dd ≤ 1
            · obtain ⟨b2, o2, e2, hbl2, hc0⟩ := HC.out _ hb
              injection e2 with e2
              injection e2 with e3 e4
              subst e3 e4
              obtain ⟨d1, d2⟩ := hc0 hqn
              rw [HSE.out] at d1 d2
              simp only at d1 d2
              have hs1 : IntKind.i64.wrap (lo + dd) = lo + dd := IntWalk.i64_in _ (by omega)
              have hs2 : IntKind.i64.wrap (hi2 + dd) = hi2 + dd := IntWalk.i64_in _ (by omega)
              obtain ⟨p1, hp1⟩ : ∃ p, memB (lo + dd) xs = p := ⟨_, rfl⟩
              obtain ⟨p2, hp2⟩ : ∃ p, memB (hi2 + dd) xs = p := ⟨_, rfl⟩
              have hq1 : (p1 != p1) = false := by simp
              have hq2 : (p2 != p2) = false := by simp
              have ra := Ra.out.below hb
              have rx := Rx.out.below hb
              have k1 := cell_regrown d1
              have k2 := cell_regrown d2
              have M1 := Lib.hid (fun dx os => Calls.regrown_of (bool_as (iSpansHave_any A_Rx X.length c_Rx X (lo + dd) (grow (redrawn wr dx) os) (rx.below (below_regrown wr dx os))) ((HME.out _).trans hp1)))
              have M2 := Lib.hid (fun dx os => Calls.regrown_of (bool_as (iSpansHave_any _ xs.length c1 xs (lo + dd) (grow (redrawn wr dx) os) (ra.below (below_regrown wr dx os))) (hp1)))
              have M3 := Lib.hid (fun dx os => Calls.regrown_of (bool_as (iSpansHave_any A_Rx X.length c_Rx X (hi2 + dd) (grow (redrawn wr dx) os) (rx.below (below_regrown wr dx os))) ((HME.out _).trans hp2)))
              have M4 := Lib.hid (fun dx os => Calls.regrown_of (bool_as (iSpansHave_any _ xs.length c1 xs (hi2 + dd) (grow (redrawn wr dx) os) (ra.below (below_regrown wr dx os))) (hp2)))
              clear own hb hc0 d1 d2 ra rx hp1 hp2
              go_wp2_with fail
              refine wp_region_quiet_below (by kernel_rfl) (by kernel_rfl) ?_
              repeat (quiet_step ((go_at_call 16; (first | (with_reducible exact M1.out _ _) | (with_reducible exact M2.out _ _) | (with_reducible exact M3.out _ _) | (with_reducible exact M4.out _ _)))))
              refine wpQuiet_nil ?_
              intro _ hw'
              obtain ⟨⟨dq, osq⟩, hw''⟩ := hw'
              subst hw''
              have H9 := Lib.hid (chain HB2.out (below_regrown wr dq osq) hs3)
              have O9 := Lib.hid (own_below HO.out (below_regrown wr dq osq))
              clear k1 k2 M1 M2 M3 M4 hs1 hs2
              dsimp only
              generalize grow (redrawn wr dq) osq = V9 at *
              go_wp2
              go_roundw
              case rel => exact ⟨dd + 1, by go_num, by omega, by omega, O9.out, H9.out⟩
              case measure => simp [intOf]; omega
            · have hlen : (out ++ [(lo, hi2)]).length = out.length + 1 := by simp
              obtain rfl : dd = 2 := by omega
              clear own hb hd
              go_wp2
              go_roundw
              case rel =>
                refine ⟨j + 1, B3, d3, out ++ [(lo, hi2)], by omega, congrArg (Value.int .i64) (by have := HQ.out; omega), by rw [hlen], ?_, HRT.out.symm, HB2.out⟩
                rw [hlen, ← flat_push]; exact HO.out
              case measure => (simp [intOf]; try (have := HQ.out; omega))
        · obtain rfl : j = xs.length := by omega
          have hm1 : (xs.length : Int) - 1 - ((xs.length : Nat) : Int) = -1 := by omega
          rw [hm1]
          clear hm1
          rw [List.take_of_length_le (by simp)] at hout
          have Rt := Lib.hid (own_rd own)
          have HOUT := Lib.hid (show ofV out top = X by rw [hout]; exact HR.out)
          replace Ra := Lib.hid (Ra.out.below hb)
          replace Rx := Lib.hid (Rx.out.below hb)
          replace H := Lib.hid (chain H.out hb H.out.size)
          clear own hb hout hjn hj
          go_wp2_with fail
          refine (bool_as (iSpansValid_any A_Rx X.length c_Rx X top _ Rx.out) HV.out).mono ?_
          rintro e w5 ⟨rfl, hb5⟩
          replace Ra := Lib.hid (Ra.out.below hb5)
          replace Rx := Lib.hid (Rx.out.below hb5)
          replace Rt := Lib.hid (Rt.out.below hb5)
          replace H := Lib.hid (chain H.out hb5 H.out.size)
          clear hb5
          go_wp2_with fail
          refine (owns_as (iSpansOf_any B out.length d out top _ Rt.out) HOUT.out).mono ?_
          rintro e w6 ⟨A_Ry, c_Ry, rfl, own6, hb6⟩
          have Ry := Lib.hid (own_rd own6)
          clear own6
          replace Ra := Lib.hid (Ra.out.below hb6)
          replace Rx := Lib.hid (Rx.out.below hb6)
          replace Rt := Lib.hid (Rt.out.below hb6)
          replace H := Lib.hid (chain H.out hb6 H.out.size)
          clear hb6
          go_wp2_with fail
          refine (same_yes Ry.out Rx.out rfl).mono ?_
          rintro e w7 ⟨rfl, hb7⟩
          replace Ra := Lib.hid (Ra.out.below hb7)
          replace Rx := Lib.hid (Rx.out.below hb7)
          replace Rt := Lib.hid (Rt.out.below hb7)
          replace Ry := Lib.hid (Ry.out.below hb7)
          replace H := Lib.hid (chain H.out hb7 H.out.size)
          clear hb7
          go_wp2_with fail
          refine (owns_as (iSpansOf_any A_Rx X.length c_Rx X top _ Rx.out) HA.out).mono ?_
          rintro e w8 ⟨A_Rz, c_Rz, rfl, own8, hb8⟩
          have Rz := Lib.hid (own_rd own8)
          clear own8
          replace Ra := Lib.hid (Ra.out.below hb8)
          replace Rx := Lib.hid (Rx.out.below hb8)
          replace Rt := Lib.hid (Rt.out.below hb8)
          replace H := Lib.hid (chain H.out hb8 H.out.size)
          clear hb8
          go_wp2_with fail
          refine (same_yes Rz.out Rx.out rfl).mono ?_
          rintro e w9 ⟨rfl, hb9⟩
          replace Ra := Lib.hid (Ra.out.below hb9)
          replace Rx := Lib.hid (Rx.out.below hb9)
          replace Rt := Lib.hid (Rt.out.below hb9)
          replace Rz := Lib.hid (Rz.out.below hb9)
          replace H := Lib.hid (chain H.out hb9 H.out.size)
          clear hb9
          go_wp2
          go_ret
          exact ⟨rfl, H.out⟩
  · have hn1 : (1048576 : Int) < n := by omega
    clear hn
    go_enter Try.func14, Try.ntmps14
    go_wp2
    go_ret
    exact ⟨rfl, Below.refl _ _⟩
end Go.Proofs.Ytbonkolgbcmaoaa
