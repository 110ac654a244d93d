/-
  THE WALK of the law FnTestSpans.
-/
import Derived.Test.YtoapnjlpmjcloaaDoorDrTs
import Derived.Test.YtoapnjlpmjcloaaDoorDrPkN
import Derived.Test.YtoapnjlpmjcloaaDoorPkEq
import Derived.Test.YtoapnjlpmjcloaaDoorTspansB
import Derived.Test.YtoapnjlpmjcloaaDoorThold
import Derived.Test.YtoapnjlpmjcloaaDoorIHave
import Derived.Test.YtoapnjlpmjcloaaDoorLwKit
import Derived.Test.YtoapnjlpmjcloaaDoorSpansValid
import Derived.BigQuiet
import Derived.Deep.QuietTactic
import Derived.Lib.QuietBelow
namespace Go.Proofs.YtoapnjlpmjcloaaDoor
open Go.ChangeShapes Go.WideShapes Go.ChangeAt Go.RowKit Go.Sort Pf
set_option maxRecDepth 20000

set_option maxHeartbeats 2000000 in
theorem walkFnTestSpans (A : Option Addr) (n c : Nat) (zs : List Int) (A' : Option Addr) (n' c' : Nat) (zs' : List Int) (w : World) (hT : Tab w) (h : Rb w A n c zs) (h' : Rb w A' n' c' zs') :
    Calls Tryd.prog 12 #[.slice A n c, .slice A' n' c'] w fun e w' => e = .returned (.bool true) ∧ Below w.heap.size w w' := by
  have hmax : n ≤ maxLen := Nat.le_trans h.2.1 h.2.2.1
  have hmax' : n' ≤ maxLen := Nat.le_trans h'.2.1 h'.2.2.1
  unfold maxLen at hmax hmax'
  have CD := Lib.hid (drawTestSpans_any A n c zs w h)
  have CD' := Lib.hid (fun W (hW : Below w.heap.size w W) => drawPacketNumber_any A' n' c' zs' W (h'.below hW))
  have HT := Lib.hid (fun W (hW : Below w.heap.size w W) => hT.below hW)
  clear h h' hT
  by_cases hn : n ≤ 1048576
  · have hn1 : (n : Int) ≤ 1048576 := by omega
    clear hn
    by_cases hn' : n' ≤ 1048576
    · have hn2 : (n' : Int) ≤ 1048576 := by omega
      clear hn'
      go_enter Tryd.func12, Tryd.ntmps12
      go_wp2_with fail
      refine (CD.out).mono ?_
      rintro e w1 ⟨fl, lo, hi, nt, rfl, hb1⟩
      have H1 := Lib.hid (chain hb1 (below_one w1 (.cells #[.int .i64 fl, .int .i64 lo, .int .i64 hi, .bool nt] 32)) hb1.size)
      have K1 := Lib.hid (Blk.new w1 #[.int .i64 fl, .int .i64 lo, .int .i64 hi, .bool nt] 32)
      obtain ⟨X, hX⟩ : ∃ X, tspV fl lo hi nt = X := ⟨_, rfl⟩
      have hXl : X.length ≤ 2 := by rw [← hX]; exact tsp_length _ _ _ _
      have HX := Lib.hid hX
      clear hb1 CD hX
      have c0 := K1.out.c 0 rfl
      have c1 := K1.out.c 1 rfl
      have c2 := K1.out.c 2 rfl
      have c3 := K1.out.c 3 rfl
      go_wp2_with fail
      refine (owns_as (iTestSpans_any fl lo hi nt _ (HT.out _ H1.out)) HX.out).mono ?_
      rintro e w2 ⟨A2, d2, rfl, own2, hb2⟩
      have H2 := Lib.hid (chain H1.out hb2 H1.out.size)
      have K2 := Lib.hid (K1.out.below hb2)
      have X2 := Lib.hid (own_rd own2)
      clear hb2 H1 K1 own2 c0 c1 c2 c3
      have c0 := K2.out.c 0 rfl
      have c1 := K2.out.c 1 rfl
      have c2 := K2.out.c 2 rfl
      have c3 := K2.out.c 3 rfl
      go_wp2_with fail
      refine (owns_as (sTestSpans_any fl lo hi nt _) HX.out).mono ?_
      rintro e w3 ⟨A3, d3, rfl, own3, hb3⟩
      have H3 := Lib.hid (chain H2.out hb3 H2.out.size)
      have K3 := Lib.hid (K2.out.below hb3)
      have X3 := Lib.hid (X2.out.below hb3)
      have Y3 := Lib.hid (own_rd own3)
      clear hb3 H2 K2 X2 own3 c0 c1 c2 c3
      go_wp2_with fail
      refine (same_yes X3.out Y3.out rfl).mono ?_
      rintro e w4 ⟨rfl, hb4⟩
      have H4 := Lib.hid (chain H3.out hb4 H3.out.size)
      have K4 := Lib.hid (K3.out.below hb4)
      have X4 := Lib.hid (X3.out.below hb4)
      clear hb4 H3 K3 X3 Y3
      have c0 := K4.out.c 0 rfl
      have c1 := K4.out.c 1 rfl
      have c2 := K4.out.c 2 rfl
      have c3 := K4.out.c 3 rfl
      cases hv : tsB fl lo hi with
      | false =>
        have hX0 : X = [] := by rw [← HX.out]; simp [tspV, hv]
        have lz1 : (((X.length : Nat) : Int) == 0) = true := by rw [hX0]; rfl
        have lz2 : (X.length == 0) = true := by rw [hX0]; rfl
        have HV := Lib.hid hv
        clear hX0 hv
        go_wp2_with fail
        refine (tv_bool (sTestValid_any fl lo hi nt _) HV.out).mono ?_
        rintro e w5 ⟨rfl, hb5⟩
        have H5 := Lib.hid (chain H4.out hb5 H4.out.size)
        clear hb5 H4 c0 c1 c2 c3 K4 X4
        go_wp2_with fail
        refine (alive_any _).mono ?_
        rintro e w6 ⟨rfl, hb6⟩
        have H6 := Lib.hid (chain H5.out hb6 H5.out.size)
        clear hb6
        go_wp2
        go_ret
        exact ⟨rfl, H6.out⟩
      | true =>
        have HV := Lib.hid hv
        clear hv
        go_wp2_with fail
        refine (tv_bool (sTestValid_any fl lo hi nt _) HV.out).mono ?_
        rintro e w5 ⟨rfl, hb5⟩
        have H5 := Lib.hid (chain H4.out hb5 H4.out.size)
        have K5 := Lib.hid (K4.out.below hb5)
        have X5 := Lib.hid (X4.out.below hb5)
        clear hb5 H4 K4 X4 c0 c1 c2 c3
        go_wp2_with fail
        refine (CD'.out _ H5.out).mono ?_
        rintro e w6 ⟨f, t, p, r, rfl, hb6⟩
        have hx := below_one w6 (.cells #[.int .i64 f, .int .i64 t, .int .i64 p, .int .i64 r] 24)
        have H6 := Lib.hid (chain H5.out hb6 H5.out.size)
        have H7 := Lib.hid (chain H6.out hx H6.out.size)
        have K7 := Lib.hid ((K5.out.below hb6).below hx)
        have X7 := Lib.hid ((X5.out.below hb6).below hx)
        have P7 := Lib.hid (Blk.new w6 #[.int .i64 f, .int .i64 t, .int .i64 p, .int .i64 r] 24)
        clear hb6 hx H5 H6 K5 X5 CD'
        go_upto_region 10 with fail
        generalize hPv : w6.heap.size = Pb at P7
        generalize w6.alloc (.cells #[.int .i64 f, .int .i64 t, .int .i64 p, .int .i64 r] 24) = W at *
        clear hPv
        have G := fun d os => chain H7.out (below_regrown W d os) H7.out.size
        have XG := fun d os => X7.out.below (below_regrown W d os)
        have cT := Lib.hid (fun d os => Calls.regrown_of (below_of_same (iFieldTop_any fl (grow (redrawn W d) os) (HT.out _ (G d os)))))
        have cS := Lib.hid (fun d os => Calls.regrown_of (tv_bool (iSpansValid_any A2 X.length d2 X (topF fl) (grow (redrawn W d) os) (XG d os)) (show valid X (topF fl) = true by rw [← HX.out]; exact tsp_valid HV.out nt)))
        have k0 := cell_regrown (K7.out.c 0 rfl)
        have k1 := cell_regrown (K7.out.c 1 rfl)
        have k2 := cell_regrown (K7.out.c 2 rfl)
        have k3 := cell_regrown (K7.out.c 3 rfl)
        have j0 := cell_regrown (P7.out.c 0 rfl)
        have j1 := cell_regrown (P7.out.c 1 rfl)
        have j2 := cell_regrown (P7.out.c 2 rfl)
        have j3 := cell_regrown (P7.out.c 3 rfl)
        cases hu : pkB f t p r with
        | false =>
          have cP := Lib.hid (fun d os => Calls.regrown_of (tv_bool (sPacketValid_any f t p r (grow (redrawn W d) os)) hu))
          clear G XG hu
          generalize topF fl = tp at cT cS
          refine wp_region_quiet_below (by kernel_rfl) (by kernel_rfl) ?_
          repeat (go_big_quiet_step (first | (go_at_call 18; exact cT.out _ _) | (go_at_call 55; exact cS.out _ _) | (go_at_call 44; exact cP.out _ _)))
          refine wpQuiet_nil ?_
          intro _ hw'
          obtain ⟨⟨dq, osq⟩, hw''⟩ := hw'
          subst hw''
          have HZ := Lib.hid (chain H7.out (below_regrown W dq osq) H7.out.size)
          go_wp2
          go_ret
          exact ⟨rfl, HZ.out⟩
        | true =>
          obtain ⟨⟨fl0, fl3⟩, -, -⟩ := tsB_iff.1 HV.out
          have hm := th_mem (nt := nt) HV.out hu
          rw [HX.out] at hm
          have hpf : pfF f t p r fl = nthF f t p r fl := by simp [pfF, hu, inR_iff.2 ⟨fl0, fl3⟩]
          obtain ⟨q, hq⟩ : ∃ q, thB fl lo hi nt f t p r = q := ⟨_, rfl⟩
          obtain ⟨v, hv⟩ : ∃ v, nthF f t p r fl = v := ⟨_, rfl⟩
          rw [hv] at hpf hm
          rw [hq] at hm
          have hqq : (q == q) = true := by simp
          have cP := Lib.hid (fun d os => Calls.regrown_of (tv_bool (sPacketValid_any f t p r (grow (redrawn W d) os)) hu))
          have cH := Lib.hid (fun d os => Calls.regrown_of (tv_bool (iTestHolds_any fl lo hi nt f t p r (grow (redrawn W d) os) (HT.out _ (G d os))) hq))
          have cF := Lib.hid (fun d os => Calls.regrown_of (tv_int (iPacketField_any f t p r fl (grow (redrawn W d) os) (HT.out _ (G d os))) hpf))
          have cM := Lib.hid (fun d os => Calls.regrown_of (tv_bool (iSpansHave_any A2 X.length d2 X v (grow (redrawn W d) os) (XG d os)) hm.symm))
          clear G XG hu hpf hq hv hm fl0 fl3
          generalize topF fl = tp at cT cS
          refine wp_region_quiet_below (by kernel_rfl) (by kernel_rfl) ?_
          repeat (go_big_quiet_step (first | (go_at_call 18; exact cT.out _ _) | (go_at_call 55; exact cS.out _ _) | (go_at_call 44; exact cP.out _ _) | (go_at_call 42; exact cH.out _ _) | (go_at_call 15; exact cF.out _ _) | (go_at_call 56; exact cM.out _ _)))
          refine wpQuiet_nil ?_
          intro _ hw'
          obtain ⟨⟨dq, osq⟩, hw''⟩ := hw'
          subst hw''
          have HZ := Lib.hid (chain H7.out (below_regrown W dq osq) H7.out.size)
          go_wp2
          go_ret
          exact ⟨rfl, HZ.out⟩
    · have hn2 : (1048576 : Int) < n' := by omega
      clear hn'
      go_enter Tryd.func12, Tryd.ntmps12
      go_wp2
      go_ret
      exact ⟨rfl, Below.refl _ _⟩
  · have hn1 : (1048576 : Int) < n := by omega
    clear hn
    go_enter Tryd.func12, Tryd.ntmps12
    go_wp2
    go_ret
    exact ⟨rfl, Below.refl _ _⟩
end Go.Proofs.YtoapnjlpmjcloaaDoor
