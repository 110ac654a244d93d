/-
  THE WALK of the law FnTestsHold.
-/
import Derived.Test.YtoapnjlpmjcloaaDoorDrThs
import Derived.Test.YtoapnjlpmjcloaaDoorThs
import Derived.Test.YtoapnjlpmjcloaaDoorIHave
import Derived.Test.YtoapnjlpmjcloaaDoorTspansB
import Derived.BigQuiet
import Derived.Deep.QuietTactic
import Derived.Lib.QuietBelow
namespace Go.Proofs.YtoapnjlpmjcloaaDoor
open Go.ChangeShapes Go.WideShapes Go.ChangeAt Go.RowKit Go.Sort Pf

set_option maxRecDepth 20000
theorem Rt.cutAt {w : World} {b n c k : Nat} {xs : TS} (h : Rt w (some ⟨b, 0, none⟩) n c xs) (hk : k ≤ n) (hc : c ≠ k) : Rt w (some ⟨b, k * 4, none⟩) (n - k) (c - k) (xs.drop k) := by
  have h1 := h.cut hk
  rw [if_neg hc] at h1
  have e : (some (⟨b, 0, none⟩ : Addr)).map (·.add (k * 4)) = some ⟨b, k * 4, none⟩ := by
    simp only [Option.map_some, add_none, Nat.zero_add]
  rw [e] at h1
  exact h1
set_option maxHeartbeats 2000000 in
theorem walkFnTestsHold (A : Option Addr) (n c : Nat) (zs : List Int) (w : World) (hT : Tab w) (h : Rb w A n c zs) :
    Calls Tryd.prog 13 #[.slice A n c] w fun e w' => e = .returned (.bool true) ∧ Below w.heap.size w w' := by
  have hmax : n ≤ maxLen := Nat.le_trans h.2.1 h.2.2.1
  unfold maxLen at hmax
  have CD := Lib.hid (drawTestsHold_any A n c zs w h)
  have HT := Lib.hid (fun W (hW : Below w.heap.size w W) => hT.below hW)
  clear h hT
  by_cases hn : n ≤ 1048576
  · have hn1 : (n : Int) ≤ 1048576 := by omega
    clear hn
    go_enter Tryd.func13, Tryd.ntmps13
    go_wp2_with fail
    refine (CD.out).mono ?_
    rintro e w1 ⟨b, cc, xs, f, t, p, r, rfl, hr1, hx7, hb1⟩
    have hx := below_one w1 (.cells #[.int .i64 f, .int .i64 t, .int .i64 p, .int .i64 r] 24)
    have H1 := Lib.hid (chain hb1 hx hb1.size)
    have K1 := Lib.hid (Blk.new w1 #[.int .i64 f, .int .i64 t, .int .i64 p, .int .i64 r] 24)
    have R1 := Lib.hid (hr1.below hx)
    have hlc : xs.length ≤ cc := hr1.2.1
    have hcm : cc ≤ maxLen := hr1.2.2.1
    obtain ⟨v, hv⟩ : ∃ v, thsB xs f t p r = v := ⟨_, rfl⟩
    have HV := Lib.hid hv
    have hne : (v != v) = false := by simp
    clear hb1 hx hr1 CD hv
    have c0 := K1.out.c 0 rfl
    have c1 := K1.out.c 1 rfl
    have c2 := K1.out.c 2 rfl
    have c3 := K1.out.c 3 rfl
    go_wp2_with fail
    refine (tv_bool (iTestsHold_any _ _ _ xs f t p r _ R1.out (HT.out _ H1.out)) HV.out).mono ?_
    rintro e w2 ⟨rfl, hb2⟩
    have H2 := Lib.hid (chain H1.out hb2 H1.out.size)
    have K2 := Lib.hid (K1.out.below hb2)
    have R2 := Lib.hid (R1.out.below hb2)
    clear hb2 H1 K1 R1 c0 c1 c2 c3
    have c0 := K2.out.c 0 rfl
    have c1 := K2.out.c 1 rfl
    have c2 := K2.out.c 2 rfl
    have c3 := K2.out.c 3 rfl
    go_wp2_with fail
    refine (tv_bool (sTestsHold_any _ _ _ xs f t p r _ R2.out) HV.out).mono ?_
    rintro e w3 ⟨rfl, hb3⟩
    have H3 := Lib.hid (chain H2.out hb3 H2.out.size)
    have K3 := Lib.hid (K2.out.below hb3)
    have R3 := Lib.hid (R2.out.below hb3)
    clear hb3 H2 K2 R2 c0 c1 c2 c3
    cases hu : tvB xs with
    | false =>
      have hv0 : v = false := by rw [← HV.out]; exact ths_no1 hu
      subst hv0
      have HU := Lib.hid hu
      clear hu
      go_wp2_with fail
      refine (tv_bool (sTestsValid_any _ _ _ xs _ R3.out) HU.out).mono ?_
      rintro e w4 ⟨rfl, hb4⟩
      have H4 := Lib.hid (chain H3.out hb4 H3.out.size)
      clear hb4
      go_wp2_with fail
      refine (alive_any _).mono ?_
      rintro e w5 ⟨rfl, hb5⟩
      have H5 := Lib.hid (chain H4.out hb5 H4.out.size)
      clear hb5
      go_wp2
      go_ret
      exact ⟨rfl, H5.out⟩
    | true =>
      have HU := Lib.hid hu
      clear hu
      go_wp2_with fail
      refine (tv_bool (sTestsValid_any _ _ _ xs _ R3.out) HU.out).mono ?_
      rintro e w4 ⟨rfl, hb4⟩
      have H4 := Lib.hid (chain H3.out hb4 H3.out.size)
      have K4 := Lib.hid (K3.out.below hb4)
      have R4 := Lib.hid (R3.out.below hb4)
      clear hb4 H3 K3 R3
      obtain ⟨h2, hh2⟩ : ∃ h2, xs.length / 2 = h2 := ⟨_, rfl⟩
      have hd2 : (xs.length : Int) / 2 = (h2 : Int) := by omega
      have hd3 : Int.tdiv (xs.length : Int) 2 = (h2 : Int) := by rw [Int.tdiv_eq_ediv_of_nonneg (by omega)]; exact hd2
      have hh0 : (0 : Int) ≤ h2 := by omega
      have hh1 : (h2 : Int) ≤ cc := by omega
      have hh3 : (h2 : Int) ≤ xs.length := by omega
      have hhn : h2 ≤ xs.length := by omega
      go_upto_region 10 with fail
      have G := fun d os => chain H4.out (below_regrown w4 d os) H4.out.size
      have RG := fun d os => R4.out.below (below_regrown w4 d os)
      have k0 := cell_regrown (K4.out.c 0 rfl)
      have k1 := cell_regrown (K4.out.c 1 rfl)
      have k2 := cell_regrown (K4.out.c 2 rfl)
      have k3 := cell_regrown (K4.out.c 3 rfl)
      have hhalf := ths_half HU.out f t p r h2
      rw [HV.out] at hhalf
      obtain ⟨q1, hq1⟩ : ∃ q, thsB (xs.take h2) f t p r = q := ⟨_, rfl⟩
      obtain ⟨q2, hq2⟩ : ∃ q, thsB (xs.drop h2) f t p r = q := ⟨_, rfl⟩
      obtain ⟨u, hu⟩ : ∃ u, pkB f t p r = u := ⟨_, rfl⟩
      rw [hq1, hq2] at hhalf
      have huu : (u == u) = true := by simp
      have cT1 := Lib.hid (fun d os => Calls.regrown_of (tv_bool (iTestsHold_any _ _ _ (xs.take h2) f t p r (grow (redrawn w4 d) os) (Rt.take (RG d os) hhn) (HT.out _ (G d os))) hq1))
      have cT0 := Lib.hid (fun d os => Calls.regrown_of (tv_bool (iTestsHold_any none 0 0 [] f t p r (grow (redrawn w4 d) os) (Rt.none_ _) (HT.out _ (G d os))) ((ths_nil f t p r).trans hu)))
      have cP := Lib.hid (fun d os => Calls.regrown_of (tv_bool (iPacketValid_any f t p r (grow (redrawn w4 d) os) (HT.out _ (G d os))) hu))
      subst hhalf
      have HF := Lib.hid (G)
      cases q1 with
      | false =>
        clear G RG
        refine wp_region_quiet_below (by kernel_rfl) (by kernel_rfl) ?_
        repeat (go_big_quiet_step (first | (go_at_call 38; first | with_reducible exact cT1.out _ _ | with_reducible exact cT0.out _ _) | (go_at_call 58; exact cP.out _ _)))
        refine wpQuiet_nil ?_
        intro _ hw'
        obtain ⟨⟨dq, osq⟩, hw''⟩ := hw'
        subst hw''
        have HZ := Lib.hid (HF.out dq osq)
        go_wp2
        go_ret
        exact ⟨rfl, HZ.out⟩
      | true =>
        by_cases hz : h2 = 0
        · subst hz
          have cT2 := Lib.hid (fun d os => Calls.regrown_of (tv_bool (iTestsHold_any (some ⟨b, 0, none⟩) xs.length cc xs f t p r (grow (redrawn w4 d) os) (RG d os) (HT.out _ (G d os))) hq2))
          clear G RG
          refine wp_region_quiet_below (by kernel_rfl) (by kernel_rfl) ?_
          repeat (go_big_quiet_step (first | (go_at_call 38; first | with_reducible exact cT1.out _ _ | with_reducible exact cT2.out _ _ | with_reducible exact cT0.out _ _) | (go_at_call 58; exact cP.out _ _)))
          refine wpQuiet_nil ?_
          intro _ hw'
          obtain ⟨⟨dq, osq⟩, hw''⟩ := hw'
          subst hw''
          have HZ := Lib.hid (HF.out dq osq)
          go_wp2
          go_ret
          exact ⟨rfl, HZ.out⟩
        · have hc : cc ≠ h2 := by omega
          have cT2 := Lib.hid (fun d os => Calls.regrown_of (tv_bool (iTestsHold_any (some ⟨b, h2 * 4, none⟩) (xs.length - h2) (cc - h2) (xs.drop h2) f t p r (grow (redrawn w4 d) os) (Rt.cutAt (RG d os) hhn hc) (HT.out _ (G d os))) hq2))
          clear G RG
          refine wp_region_quiet_below (by kernel_rfl) (by kernel_rfl) ?_
          repeat (go_big_quiet_step (first | (go_at_call 38; first | with_reducible exact cT1.out _ _ | with_reducible exact cT2.out _ _ | with_reducible exact cT0.out _ _) | (go_at_call 58; exact cP.out _ _)))
          refine wpQuiet_nil ?_
          intro _ hw'
          obtain ⟨⟨dq, osq⟩, hw''⟩ := hw'
          subst hw''
          have HZ := Lib.hid (HF.out dq osq)
          go_wp2
          go_ret
          exact ⟨rfl, HZ.out⟩
  · have hn1 : (1048576 : Int) < n := by omega
    clear hn
    go_enter Tryd.func13, Tryd.ntmps13
    go_wp2
    go_ret
    exact ⟨rfl, Below.refl _ _⟩
end Go.Proofs.YtoapnjlpmjcloaaDoor
