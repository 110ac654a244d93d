/-
  THE WALK of the law FnPacketPair.
-/
import Derived.Test.YtipmnoojnfegjaaDoorLwPacketNumber
import Derived.BigQuiet
import Derived.Deep.QuietTactic
namespace Go.Proofs.YtipmnoojnfegjaaDoor
open Go.ChangeShapes Go.WideShapes Go.ChangeAt Go.RowKit Go.Sort Pf

theorem pn_same {f t p r f1 t1 p1 r1 : Int} (h : pkB f t p r = true) : (pnF f1 t1 p1 r1 == pnF f t p r) = eq4 f t p r f1 t1 p1 r1 := by
  cases h1 : pkB f1 t1 p1 r1 with
  | true =>
    obtain ⟨b0, b1, b2, b3⟩ := pkB_iff.1 h
    obtain ⟨d0, d1, d2, d3⟩ := pkB_iff.1 h1
    have e : pnF f t p r = f + 65536 * (t + 65536 * (p + 256 * r)) := by unfold pnF; rw [if_pos h]
    have e1 : pnF f1 t1 p1 r1 = f1 + 65536 * (t1 + 65536 * (p1 + 256 * r1)) := by unfold pnF; rw [if_pos h1]
    rw [e, e1, Bool.eq_iff_iff, eq4_iff, beq_iff_eq]
    omega
  | false =>
    have hb := (pn_bd h).1
    rw [pn_bad h1, Bool.eq_iff_iff, eq4_iff, beq_iff_eq]
    constructor
    · intro he
      omega
    · rintro ⟨rfl, rfl, rfl, rfl⟩
      rw [h] at h1
      cases h1

set_option maxHeartbeats 2000000 in
theorem walkFnPacketPair (A : Option Addr) (n c : Nat) (zs : List Int) (A' : Option Addr) (n' c' : Nat) (zs' : List Int) (w : World) (hT : Tab w) (h : Rb w A n c zs) (h' : Rb w A' n' c' zs') :
    Calls Tryd.prog 8 #[.slice A n c, .slice A' n' c'] w fun e w' => e = .returned (.bool true) ∧ Below w.heap.size w w' := by
  have hmax : n ≤ maxLen := Nat.le_trans h.2.1 h.2.2.1
  have hmax' : n' ≤ maxLen := Nat.le_trans h'.2.1 h'.2.2.1
  unfold maxLen at hmax hmax'
  have CD := Lib.hid (drawPacketNumber_any A n c zs w h)
  have CD' := Lib.hid (fun W (hW : Below w.heap.size w W) => drawPacketNumber_any A' n' c' zs' W (h'.below hW))
  have HT := Lib.hid (fun W (hW : Below w.heap.size w W) => hT.below hW)
  clear h h' hT
  by_cases hn : n ≤ 1048576
  · have hn1 : (n : Int) ≤ 1048576 := by omega
    clear hn
    by_cases hn' : n' ≤ 1048576
    · have hn2 : (n' : Int) ≤ 1048576 := by omega
      clear hn'
      go_enter Tryd.func8, Tryd.ntmps8
      go_wp2_with fail
      refine (CD.out).mono ?_
      rintro e w1 ⟨f, t, p, r, rfl, hb1⟩
      have H1 := Lib.hid (chain hb1 (below_one w1 (.cells #[.int .i64 f, .int .i64 t, .int .i64 p, .int .i64 r] 34)) hb1.size)
      have K1 := Lib.hid (Blk.new w1 #[.int .i64 f, .int .i64 t, .int .i64 p, .int .i64 r] 34)
      clear hb1 CD
      go_wp2_with fail
      refine (CD'.out _ H1.out).mono ?_
      rintro e w2 ⟨f1, t1, p1, r1, rfl, hb2⟩
      have hb3 := below_one w2 (.cells #[.int .i64 f1, .int .i64 t1, .int .i64 p1, .int .i64 r1] 34)
      have HA := chain H1.out hb2 H1.out.size
      have H2 := Lib.hid (chain HA hb3 HA.size)
      have K2 := Lib.hid ((K1.out.below hb2).below hb3)
      have J2 := Lib.hid (Blk.new w2 #[.int .i64 f1, .int .i64 t1, .int .i64 p1, .int .i64 r1] 34)
      obtain ⟨v, hv⟩ : ∃ v, pnF f t p r = v := ⟨_, rfl⟩
      have HV := Lib.hid hv
      have hne : (v != v) = false := by simp
      clear hb2 hb3 HA H1 K1 CD' hv
      have c0 := K2.out.c 0 rfl
      have c1 := K2.out.c 1 rfl
      have c2 := K2.out.c 2 rfl
      have c3 := K2.out.c 3 rfl
      go_wp2_with fail
      refine (tv_int (iPacketNumber_any f t p r _ (HT.out _ H2.out)) HV.out).mono ?_
      rintro e w3 ⟨rfl, hb3⟩
      have H3 := Lib.hid (chain H2.out hb3 H2.out.size)
      have K3 := Lib.hid (K2.out.below hb3)
      have J3 := Lib.hid (J2.out.below hb3)
      clear c0 c1 c2 c3 hb3 H2 K2 J2
      have c0 := K3.out.c 0 rfl
      have c1 := K3.out.c 1 rfl
      have c2 := K3.out.c 2 rfl
      have c3 := K3.out.c 3 rfl
      go_wp2_with fail
      refine (tv_int (sPacketNumber_any f t p r _) HV.out).mono ?_
      rintro e w4 ⟨rfl, hb4⟩
      have H4 := Lib.hid (chain H3.out hb4 H3.out.size)
      have K4 := Lib.hid (K3.out.below hb4)
      have J4 := Lib.hid (J3.out.below hb4)
      clear c0 c1 c2 c3 hb4 H3 K3 J3
      have hgd := pktGuard
      cases hk : pkB f t p r with
      | false =>
        have hv : v = -1 := by rw [← HV.out, pn_bad hk]
        subst hv
        clear hk HV
        go_wp2_with fail
        have CA := Lib.hid (fun d os => Calls.regrown_of (alive_any (grow (redrawn w4 d) os)))
        refine wp_region_quiet_below (by kernel_rfl) (by kernel_rfl) ?_
        repeat (go_big_quiet_step (first | (go_at_call 16; exact CA.out _ _)))
        refine wpQuiet_nil ?_
        intro _ hw'
        obtain ⟨⟨dq, osq⟩, hw''⟩ := hw'
        subst hw''
        have HZ := Lib.hid (chain H4.out (below_regrown w4 dq osq) H4.out.size)
        go_wp2
        go_ret
        exact ⟨rfl, HZ.out⟩
      | true =>
        obtain ⟨v0, vi⟩ := pn_bd hk
        rw [HV.out] at v0 vi
        have hv1 : (v == -1) = false := by simp; omega
        obtain ⟨q, hq⟩ : ∃ q, eq4 f t p r f1 t1 p1 r1 = q := ⟨_, rfl⟩
        have hu := pn_same (f1 := f1) (t1 := t1) (p1 := p1) (r1 := r1) hk
        rw [HV.out, hq] at hu
        have hrun := fun W => (eq_pkt f t p r f1 t1 p1 r1 W).trans (by rw [hq])
        have CI := Lib.hid (fun d os => Calls.regrown_of (iPacketNumber_any f1 t1 p1 r1 (grow (redrawn w4 d) os) (HT.out _ (chain H4.out (below_regrown w4 d os) H4.out.size))))
        have CA := Lib.hid (fun d os => Calls.regrown_of (alive_any (grow (redrawn w4 d) os)))
        generalize pnF f1 t1 p1 r1 = u at hu CI
        have k0 := cell_regrown (K4.out.c 0 rfl)
        have k1 := cell_regrown (K4.out.c 1 rfl)
        have k2 := cell_regrown (K4.out.c 2 rfl)
        have k3 := cell_regrown (K4.out.c 3 rfl)
        have j0 := cell_regrown (J4.out.c 0 rfl)
        have j1 := cell_regrown (J4.out.c 1 rfl)
        have j2 := cell_regrown (J4.out.c 2 rfl)
        have j3 := cell_regrown (J4.out.c 3 rfl)
        clear hk vi v0 hq
        cases q with
        | false =>
          go_wp2_with fail
          refine wp_region_quiet_below (by kernel_rfl) (by kernel_rfl) ?_
          repeat (go_big_quiet_step (first | (go_at_call 33; exact CI.out _ _) | (go_at_call 16; exact CA.out _ _)))
          refine wpQuiet_nil ?_
          intro _ hw'
          obtain ⟨⟨dq, osq⟩, hw''⟩ := hw'
          subst hw''
          have HZ := Lib.hid (chain H4.out (below_regrown w4 dq osq) H4.out.size)
          go_wp2
          go_ret
          exact ⟨rfl, HZ.out⟩
        | true =>
          go_wp2_with fail
          refine wp_region_quiet_below (by kernel_rfl) (by kernel_rfl) ?_
          repeat (go_big_quiet_step (first | (go_at_call 33; exact CI.out _ _) | (go_at_call 16; exact CA.out _ _)))
          refine wpQuiet_nil ?_
          intro _ hw'
          obtain ⟨⟨dq, osq⟩, hw''⟩ := hw'
          subst hw''
          have HZ := Lib.hid (chain H4.out (below_regrown w4 dq osq) H4.out.size)
          go_wp2
          go_ret
          exact ⟨rfl, HZ.out⟩
    · have hn2 : (1048576 : Int) < n' := by omega
      clear hn'
      go_enter Tryd.func8, Tryd.ntmps8
      go_wp2
      go_ret
      exact ⟨rfl, Below.refl _ _⟩
  · have hn1 : (1048576 : Int) < n := by omega
    clear hn
    go_enter Tryd.func8, Tryd.ntmps8
    go_wp2
    go_ret
    exact ⟨rfl, Below.refl _ _⟩
end Go.Proofs.YtipmnoojnfegjaaDoor
