/-
  THE WALK of the law FnPrefixesSpans.
-/
import Derived.Test.YtmidegoedgmcnaaLwKit
import Derived.Test.YtmidegoedgmcnaaPrefS
import Derived.Test.YtmidegoedgmcnaaDrPfxS
import Derived.Test.YtmidegoedgmcnaaIHave
import Derived.Test.YtmidegoedgmcnaaIWithin
import Derived.Test.YtmidegoedgmcnaaCovW
import Derived.Test.YtmidegoedgmcnaaApp
namespace Go.Proofs.Ytmidegoedgmcnaa
open Go.ChangeShapes Go.WideShapes Go.ChangeAt Go.RowKit Go.Sort Pf
theorem rev_getP {xs : PS} {j : Nat} (h : j < xs.length) : xs.reverse[j]? = some (xs[xs.length - 1 - j]'(by omega)) := by
  rw [List.getElem?_reverse h, List.getElem?_eq_getElem]
theorem rev_takeP {xs : PS} {j : Nat} (h : j < xs.length) : xs.reverse.take (j + 1) = xs.reverse.take j ++ [xs[xs.length - 1 - j]'(by omega)] := by
  rw [List.take_add_one, rev_getP h]; rfl
theorem one_within {ps : PS} (h : pfxOk ps = true) (hl : ps.length ≤ 40) {p : Int × Int} (hp : p ∈ ps) : withinV [(p.1, p.1 + pw p.2 - 1)] (prefV ps) 65535 = true := by
  have hb := pv_span (pfxOk_iff.1 h p hp)
  have hv : valid [(p.1, p.1 + pw p.2 - 1)] 65535 = true := valid_iff.2 ⟨by omega, by simp, validF_cons.2 ⟨by simp only; omega, hb.2.1, hb.2.2, rfl⟩⟩
  refine (within_set hv (prefV_valid ps)).2 fun n _ _ hn => ?_
  rw [memB_cons, memB_nil, Bool.or_false, inB_iff] at hn
  exact pref_within h hl hp n hn.1 hn.2


set_option maxRecDepth 100000 in
set_option maxHeartbeats 2000000 in
theorem walkFnPrefixesSpans (A : Option Addr) (n c : Nat) (zs : List Int) (w : World) (h : Rb w A n c zs) :
    Calls Try.prog 3 #[.slice A n c] w fun e w' => e = .returned (.bool true) ∧ Below w.heap.size w w' := by
  have hmax : n ≤ maxLen := Nat.le_trans h.2.1 h.2.2.1
  unfold maxLen at hmax
  have CD := Lib.hid (drawPrefixesSpans_any A n c zs w h)
  clear h
  by_cases hn : n ≤ 1048576
  · have hn1 : (n : Int) ≤ 1048576 := by omega
    clear hn
    go_enter Try.func3, Try.ntmps3
    go_wp2_with fail
    refine (CD.out).mono ?_
    rintro e w1 ⟨A1, c1, ps, rfl, hr1, hx, hb1⟩
    have H := Lib.hid hb1
    have Ra := Lib.hid hr1
    have hpl : ps.length ≤ 1048576 := by omega
    obtain ⟨X, hX⟩ : ∃ X, prefV ps = X := ⟨_, rfl⟩
    have HX := Lib.hid hX
    have hXl : X.length ≤ 40 := by rw [← hX]; exact prefV_length ps
    clear hb1 hr1 hX CD
    go_wp2_with fail
    refine (owns_as (iPrefixesSpans_any A1 ps.length c1 ps _ Ra.out) HX.out).mono ?_
    rintro e w2 ⟨A_Rx, c_Rx, rfl, own2, hb2⟩
    have Rx := Lib.hid (own_rd own2)
    clear own2
    replace Ra := Lib.hid (Ra.out.below hb2)
    replace H := Lib.hid (chain H.out hb2 H.out.size)
    clear hb2
    go_wp2_with fail
    refine (owns_as (sPrefixesSpans_any A1 ps.length c1 ps _ Ra.out hpl) HX.out).mono ?_
    rintro e w3 ⟨A_Ry, c_Ry, rfl, own3, hb3⟩
    have Ry := Lib.hid (own_rd own3)
    clear own3
    replace Ra := Lib.hid (Ra.out.below hb3)
    replace Rx := Lib.hid (Rx.out.below hb3)
    replace H := Lib.hid (chain H.out hb3 H.out.size)
    clear hb3
    go_wp2_with fail
    refine (same_yes Rx.out Ry.out rfl).mono ?_
    rintro e w4 ⟨rfl, hb4⟩
    replace Ra := Lib.hid (Ra.out.below hb4)
    replace Rx := Lib.hid (Rx.out.below hb4)
    replace Ry := Lib.hid (Ry.out.below hb4)
    replace H := Lib.hid (chain H.out hb4 H.out.size)
    clear hb4
    by_cases hX0 : X.length = 0
    · have lz1 : (((X.length : Nat) : Int) == 0) = true := by simp [hX0]
      have lz2 : (X.length == 0) = true := by simp [hX0]
      clear hX0
      go_wp2_with fail
      refine (alive_any _).mono ?_
      rintro e w5 ⟨rfl, hb5⟩
      replace Ra := Lib.hid (Ra.out.below hb5)
      replace Rx := Lib.hid (Rx.out.below hb5)
      replace H := Lib.hid (chain H.out hb5 H.out.size)
      clear hb5
      go_wp2
      go_ret
      exact ⟨rfl, H.out⟩
    · have lz1 : (((X.length : Nat) : Int) == 0) = false := by simp; exact fun e => hX0 (by rw [e]; rfl)
      have lz2 : (X.length == 0) = false := by simpa using hX0
      have hpn : prefV ps ≠ [] := fun e => hX0 (by rw [← HX.out, e]; rfl)
      obtain ⟨hok, hl⟩ := prefV_ok hpn
      have HR := Lib.hid (show prefV ps.reverse = X by rw [prefV_reverse]; exact HX.out)
      have HVX := Lib.hid (show valid X 65535 = true by rw [← HX.out]; exact prefV_valid ps)
      have HW := Lib.hid (fun k (hk : k < ps.length) => show withinV [(ps[k].1, ps[k].1 + pw ps[k].2 - 1)] X 65535 = true by rw [← HX.out]; exact one_within hok hl (List.getElem_mem hk))
      have HPV := Lib.hid (fun k (hk : k < ps.length) => pfxOk_iff.1 hok _ (List.getElem_mem hk))
      clear hok hX0 hpn
      obtain ⟨i0, hi, hz0, hz1, hz2⟩ := info_parts infoPrefixE
      go_wp2
      have OWN0 := Lib.hid (World.ownsRow_lit (base := w4.heap.size) (e := 30) (size := 2) w4 #[] 0 (Nat.le_refl _) (by unfold maxLen; omega) rfl)
      go_loopw [5, 6] (fun s5 i wr => ∃ (j : Nat) (B : Option Addr) (d : Nat) (out : PS), j ≤ ps.length ∧ i = .int .i64 ((ps.length : Int) - 1 - j) ∧ s5 = .slice B out.length d ∧ wr.ownsRow w4.heap.size 30 2 (.slice B out.length d) out.length (flat out) ∧ out = ps.reverse.take j ∧ Below w4.heap.size w4 wr) (fun _ i _ => (intOf i + 1).toNat)
      case atStart => exact ⟨0, _, _, [], Nat.zero_le _, (by simp), rfl, OWN0.out, rfl, below_one _ _⟩
      case round =>
        clear OWN0
        obtain ⟨j, B, d, out, hj, rfl, rfl, own, hout, hb⟩ := hrel
        have holen : out.length ≤ 40 := by rw [hout, List.length_take, List.length_reverse]; omega
        have hs := hb.size
        by_cases hjn : j < ps.length
        · obtain ⟨b, o, hA, hbl, hc0⟩ := (Ra.out.below hb).at_ (k := ps.length - 1 - j) (by omega)
          subst hA
          obtain ⟨d1, d2⟩ := hc0 (by omega)
          have hrt := rev_takeP hjn
          rw [← hout] at hrt
          have hw9 := HW.out (ps.length - 1 - j) (by omega)
          have hpv := HPV.out (ps.length - 1 - j) (by omega)
          have hki : (ps.length : Int) - 1 - j = ((ps.length - 1 - j : Nat) : Int) := by omega
          rw [hki]
          obtain ⟨q, hq⟩ : ∃ q, ps.length - 1 - j = q := ⟨_, rfl⟩
          have hqn : q < ps.length := by omega
          obtain ⟨s, hse⟩ : ∃ s, ps[q] = s := ⟨_, rfl⟩
          have hse2 : ps[ps.length - 1 - j]'(by omega) = s := by rw [← hse]; congr 1
          rw [hse2] at d1 d2 hrt hw9 hpv
          rw [hq] at d1 d2 hki ⊢
          obtain ⟨lo, hi2⟩ := s
          simp only at d1 d2 hw9 hpv
          have HRT := Lib.hid hrt
          have HO := Lib.hid own
          have HSE := Lib.hid hse
          have HQ := Lib.hid hq
          have hk1 : (0 : Int) ≤ q := by omega
          have hk2 : (q : Int) < ps.length := by omega
          have HB2 := Lib.hid hb
          have HPVQ := Lib.hid hpv
          have HW9 := Lib.hid hw9
          clear hrt own hout hc0 hb hq hki hse hse2 hpv hw9
          go_wp2_with (first
            | (at_builtin; refine wpList_append_own _ rfl (.tmp 33) (.tmp 38) 23 rfl w4.heap.size 30 i0 _ 2 16 Try.underlying23 hi hz0 hz1 hz2 rfl (by decide) _ _ _ rfl (HO.out.alloc _) ⟨wr.heap.size, 0, none⟩ 1 1 [.int .i64 lo, .int .i64 hi2] rfl rfl (news_at rfl _ _) (news_one _ _) (by unfold maxLen; omega) (by omega) (by simp; omega) ?_; intro v1 w30 own3 hg3 _; have HO3 := Lib.hid own3; have hlb : ∀ r, (Value.slice B out.length d).ownBlock = some r → w4.heap.size ≤ r := (fun r hr => (HO.out.lt r hr).1); have HB3 := Lib.hid ((HB2.out.alloc hs (.cells #[.int .i64 lo, .int .i64 hi2] 30)).grown hg3 (by simp; omega) hlb); obtain ⟨b4, o4, e4, hbl4, hc4⟩ := (Ra.out.below HB3.out).at_ hqn; injection e4 with e4; injection e4 with e5 e6; subst e5 e6; obtain ⟨g1, g2⟩ := hc4 hqn; rw [HSE.out] at g1 g2; simp only at g1 g2; clear own3 hg3 hlb hc4 hbl4))
          obtain ⟨B3, d3, hv1⟩ := own_slice HO3.out
          subst hv1
          have hs3 := HB3.out.size
          clear d1 d2
          refine (iPrefixSpan_yes lo hi2 _ HPVQ.out).mono ?_
          rintro e w31 ⟨rfl, hb31⟩
          obtain ⟨z, hz⟩ : ∃ z, lo + pw hi2 - 1 = z := ⟨_, rfl⟩
          rw [hz] at HW9 ⊢
          have h31 := chain HB3.out hb31 hs3
          have hx31 := below_one w31 (.cells #[.int .i64 lo, .int .i64 z] 32)
          have HB4 := Lib.hid (chain h31 hx31 h31.size)
          have HO4 := Lib.hid (own_below (own_below HO3.out hb31) hx31)
          have q0 : (w31.alloc (.cells #[.int .i64 lo, .int .i64 z] 32)).cell? ⟨w31.heap.size, 0, none⟩ = some (.int .i64 lo) := by go_cell
          have q1 : (w31.alloc (.cells #[.int .i64 lo, .int .i64 z] 32)).cell? ⟨w31.heap.size, 1, none⟩ = some (.int .i64 z) := by go_cell
          clear hb31 h31 hx31 HB3 HO3 g1 g2 hz
          go_upto_region 15 with fail
          generalize w31.alloc (.cells #[.int .i64 lo, .int .i64 z] 32) = U at *
          have hs4 := HB4.out.size
          have R1 := Lib.hid (Rd.one (w := U) (t := 32) lo z)
          have hU := below_one U (.cells #[.int .i64 lo, .int .i64 z] 32)
          have HB5 := Lib.hid (chain HB4.out hU hs4)
          have HO5 := Lib.hid (own_below HO4.out hU)
          have RX5 := Lib.hid (Rx.out.below HB5.out)
          clear hU
          go_wp2_with fail
          refine (bool_as (iSpansWithin_any _ 1 1 [(lo, z)] A_Rx X.length c_Rx X 65535 _ R1.out RX5.out) HW9.out).mono ?_
          rintro e w32 ⟨rfl, hb32⟩
          have HB6 := Lib.hid (chain HB5.out hb32 HB5.out.size)
          have HO6 := Lib.hid (own_below HO5.out hb32)
          clear hb32 HB5 HO5 HB4 HO4 R1 RX5 q0 q1
          go_wp2
          go_roundw
          case rel =>
            refine ⟨j + 1, B3, d3, out ++ [(lo, hi2)], by omega, ?_, by simp, ?_, ?_, HB6.out⟩
            · have := HQ.out; congr 1; omega
            · rw [show (out ++ [(lo, hi2)]).length = out.length + 1 from by simp, ← flat_push]; exact HO6.out
            · rw [HRT.out]
          case measure => first | (simp [intOf]; done) | (simp [intOf]; omega)
        · obtain rfl : j = ps.length := by omega
          have hor : out = ps.reverse := by rw [hout, List.take_of_length_le (by simp)]
          subst hor
          have RT := Lib.hid (show Rd wr B ps.length d ps.reverse from by have h9 := own_rd own; rwa [List.length_reverse] at h9)
          (try simp only [List.length_reverse])
          replace Ra := Lib.hid (Ra.out.below hb)
          replace Rx := Lib.hid (Rx.out.below hb)
          replace H := Lib.hid (chain H.out hb H.out.size)
          have hneg : (ps.length : Int) - 1 - (ps.length : Nat) = -1 := by omega
          rw [hneg]
          clear own hb hout
          go_wp2_with fail
          with_reducible refine (owns_as (iPrefixesSpans_any B ps.length d ps.reverse _ RT.out) HR.out).mono ?_
          rintro e w5 ⟨A_Rv, c_Rv, rfl, own5, hb5⟩
          have Rv := Lib.hid (own_rd own5)
          clear own5
          replace Ra := Lib.hid (Ra.out.below hb5)
          replace Rx := Lib.hid (Rx.out.below hb5)
          replace RT := Lib.hid (RT.out.below hb5)
          replace H := Lib.hid (chain H.out hb5 H.out.size)
          clear hb5
          go_wp2_with fail
          refine (same_yes Rv.out Rx.out rfl).mono ?_
          rintro e w6 ⟨rfl, hb6⟩
          replace Ra := Lib.hid (Ra.out.below hb6)
          replace Rx := Lib.hid (Rx.out.below hb6)
          replace RT := Lib.hid (RT.out.below hb6)
          replace Rv := Lib.hid (Rv.out.below hb6)
          replace H := Lib.hid (chain H.out hb6 H.out.size)
          clear hb6
          go_wp2_with fail
          refine (bool_as (iSpansValid_any A_Rx X.length c_Rx X 65535 _ Rx.out) HVX.out).mono ?_
          rintro e w7 ⟨rfl, hb7⟩
          replace Ra := Lib.hid (Ra.out.below hb7)
          replace Rx := Lib.hid (Rx.out.below hb7)
          replace RT := Lib.hid (RT.out.below hb7)
          replace Rv := Lib.hid (Rv.out.below hb7)
          replace H := Lib.hid (chain H.out hb7 H.out.size)
          clear hb7
          go_wp2
          go_ret
          exact ⟨rfl, H.out⟩
  · have hn1 : (1048576 : Int) < n := by omega
    clear hn
    go_enter Try.func3, Try.ntmps3
    go_wp2
    go_ret
    exact ⟨rfl, Below.refl _ _⟩
end Go.Proofs.Ytmidegoedgmcnaa
