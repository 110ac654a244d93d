/-
  THE WALK of the law FnCoverSpan.
-/
import Derived.Test.YtcodmhndigkplaaCovP
import Derived.Test.YtcodmhndigkplaaSpecCov
import Derived.Test.YtcodmhndigkplaaPs
import Derived.Test.YtcodmhndigkplaaDrCov
import Derived.Test.YtcodmhndigkplaaIHave
import Derived.Deep.LoopGhost
import Derived.Lib.QuietBelow
namespace Go.Proofs.Ytcodmhndigkplaa
open Go.ChangeShapes Go.WideShapes Go.ChangeAt Go.RowKit Go.Sort Pf

theorem own_keep {w w' : World} {lo n c : Nat} {t : TypeId} {A : Option Addr} {xs : PS} (h : w.ownsRow lo t 2 (.slice A n c) n (flat xs)) (hb : Below w.heap.size w w') : Rd w' A n c xs := own_rd (own_below h hb)

set_option maxRecDepth 100000 in
set_option maxHeartbeats 2000000 in
theorem walkFnCoverSpan (A : Option Addr) (n c : Nat) (zs : List Int) (w : World) (h : Rb w A n c zs) :
    Calls Try.prog 7 #[.slice A n c] w fun e w' => e = .returned (.bool true) ∧ Below w.heap.size w w' := by
  have hmax : n ≤ maxLen := Nat.le_trans h.2.1 h.2.2.1
  unfold maxLen at hmax
  have CD := Lib.hid (drawCoverSpan_any A n c zs w h)
  clear h
  by_cases hn : n ≤ 1048576
  · have hn1 : (n : Int) ≤ 1048576 := by omega
    clear hn
    go_enter Try.func7, Try.ntmps7
    go_wp2_with fail
    refine (CD.out).mono ?_
    rintro e w1 ⟨lo, hi, rfl, hb1⟩
    have hz1 : w.heap.size ≤ w1.heap.size := hb1.size
    have H1 := Lib.hid hb1
    clear hb1 CD
    go_wp2_with fail
    refine (iCoverSpan_any lo hi _).mono ?_
    rintro e w2 ⟨A2, c2, rfl, own2, hb2⟩
    have s0 : w2.cell? ⟨w1.heap.size, 0, none⟩ = some (.int .i64 lo) := keepCell hb2 (by go_cell)
    have s1 : w2.cell? ⟨w1.heap.size, 1, none⟩ = some (.int .i64 hi) := keepCell hb2 (by go_cell)
    have H2 := Lib.hid (chain (chain H1.out (below_one w1 _) hz1) hb2 (by simp; omega))
    have O2 := Lib.hid own2
    clear hb2 own2 H1
    go_wp2_with fail
    refine (sCoverSpan_any lo hi _).mono ?_
    rintro e w3 ⟨A3, c3, rfl, own3, hb3⟩
    have t0 := keepCell hb3 s0
    have t1 := keepCell hb3 s1
    have R2 := Lib.hid (own_keep O2.out hb3)
    have R3 := Lib.hid (own_rd own3)
    have H3 := Lib.hid (chain H2.out hb3 H2.out.size)
    have hlen := coverV_length lo hi
    clear hb3 own3 O2 H2 s0 s1
    by_cases hv : 0 ≤ lo ∧ lo ≤ hi ∧ hi ≤ 65535
    · have hc : coverV lo hi = coverF lo hi := if_pos hv
      obtain ⟨v1, v2, v3⟩ := hv
      obtain ⟨g1, g2, g3⟩ := gr_facts (cover_gr v1 v3) v3 v1 (by omega)
      rw [← hc] at g1 g2 g3
      have hpos : 0 < (coverV lo hi).length := by
        rcases Nat.eq_zero_or_pos (coverV lo hi).length with hz | hz
        · rw [hz] at g2
          have : posAt (coverV lo hi) lo 0 = lo := by unfold posAt; rfl
          omega
        · exact hz
      generalize coverV lo hi = L at *
      have G1 := Lib.hid g1
      have G2 := Lib.hid g2
      have G3 := Lib.hid g3
      clear g1 g2 g3 hc
      have hposn : (0 : Int) < L.length := by omega
      have hposz : ((L.length : Int) == 0) = false := by rw [beq_eq_false_iff_ne]; omega
      go_wp2_with fail
      go_loopg [6, 7] L.length (fun g s6 s7 wr => ∃ k : Nat, g + k = L.length ∧ s7 = .int .i64 k ∧ s6 = .int .i64 (posAt L lo k) ∧ Below w3.heap.size w3 wr)
      case atStart => exact ⟨0, by omega, rfl, by unfold posAt; rfl, Below.refl _ _⟩
      case round =>
        obtain ⟨k, hg, rfl, rfl, hb⟩ := hrel
        have HG := Lib.hid hg
        have hkl : k ≤ L.length := by omega
        have hs := hb.size
        clear hg
        by_cases hkn : k < L.length
        · obtain ⟨e1, hpv⟩ := G1.out k hkn
          have hps := posAt_succ L lo k hkn
          obtain ⟨ba, oa, hA, hba, hca⟩ := (R2.out.below hb).at_ hkn
          obtain ⟨bb, ob, hB, hbb, hcb⟩ := (R3.out.below hb).at_ hkn
          subst hA hB
          obtain ⟨c1, c2⟩ := hca hkn
          obtain ⟨d1, d2⟩ := hcb hkn
          rw [← e1] at hps ⊢
          have key : ∀ (m : Nat), m + 1 = k → ∃ y1 y2 : Int, wr.cell? ⟨ba, oa + m * 2, none⟩ = some (.int .i64 y1) ∧ wr.cell? ⟨ba, oa + m * 2 + 1, none⟩ = some (.int .i64 y2) ∧ (y2 = L[k].2 → pvB y1 (L[k].2 - 1) = false) := by
            intro m hm
            subst hm
            obtain ⟨b', o', hA', _, hc'⟩ := (R2.out.below hb).at_ (show m < L.length by omega)
            injection hA' with hA'
            injection hA' with h1 h2
            subst h1 h2
            obtain ⟨q1, q2⟩ := hc' (by omega)
            exact ⟨_, _, q1, q2, G3.out m hkn⟩
          generalize L[k] = x at c1 c2 d1 d2 hps hpv key ⊢
          obtain ⟨x1, x2⟩ := x
          simp only at c1 c2 d1 d2 hps hpv key ⊢
          have HPS := Lib.hid hps
          have HPV := Lib.hid hpv
          have KEY := Lib.hid key
          have hend := pvB_end hpv
          obtain ⟨⟨l0, l1, b0, b1⟩, -⟩ := pvB_iff.1 hpv
          have hpw := pw_bd x2 l0
          obtain ⟨hpw1, hpw2⟩ := hpw
          have hki : (k : Int) < L.length := by omega
          have hk0 : (0 : Int) ≤ k := by omega
          clear hca hcb hps hpv key e1
          go_wp2_with fail
          refine (iPrefixSpan_yes x1 x2 _ HPV.out).mono ?_
          rintro e w4 ⟨rfl, hb4⟩
          have H4 := chain hb hb4 hs
          have g1 := keepCell hb4 c1
          have g2 := keepCell hb4 c2
          have i1 := keepCell hb4 d1
          have i2 := keepCell hb4 d2
          have KEY4 := Lib.hid (show ∀ (m : Nat), m + 1 = k → ∃ y1 y2 : Int, w4.cell? ⟨ba, oa + m * 2, none⟩ = some (.int .i64 y1) ∧ w4.cell? ⟨ba, oa + m * 2 + 1, none⟩ = some (.int .i64 y2) ∧ (y2 = x2 → pvB y1 (x2 - 1) = false) from fun m hm => by
            obtain ⟨y1, y2, a1, a2, a3⟩ := KEY.out m hm
            exact ⟨y1, y2, keepCell hb4 a1, keepCell hb4 a2, a3⟩)
          clear KEY hb4 c1 c2 d1 d2 hb
          go_upto_region 15 with fail
          obtain ⟨W5, hW⟩ : ∃ W5, w4.alloc (.cells #[.int .i64 x1, .int .i64 (x1 + pw x2 - 1)] 33) = W5 := ⟨_, rfl⟩
          have HW := Lib.hid hW
          clear hW
          have hb5 : Below w4.heap.size w4 W5 := by rw [← HW.out]; exact below_one _ _
          have q0 : W5.cell? ⟨w4.heap.size, 0, none⟩ = some (.int .i64 x1) := by rw [← HW.out]; go_cell
          have q1 : W5.cell? ⟨w4.heap.size, 1, none⟩ = some (.int .i64 (x1 + pw x2 - 1)) := by rw [← HW.out]; go_cell
          have c1 := keepCell hb5 g1
          have c2 := keepCell hb5 g2
          have d1 := keepCell hb5 i1
          have d2 := keepCell hb5 i2
          have H5 := chain H4 hb5 H4.size
          have KEY5 := Lib.hid (show ∀ (m : Nat), m + 1 = k → ∃ y1 y2 : Int, W5.cell? ⟨ba, oa + m * 2, none⟩ = some (.int .i64 y1) ∧ W5.cell? ⟨ba, oa + m * 2 + 1, none⟩ = some (.int .i64 y2) ∧ (y2 = x2 → pvB y1 (x2 - 1) = false) from fun m hm => by
            obtain ⟨y1, y2, a1, a2, a3⟩ := KEY4.out m hm
            exact ⟨y1, y2, keepCell hb5 a1, keepCell hb5 a2, a3⟩)
          rw [HW.out]
          clear HW KEY4 hb5 g1 g2 i1 i2 H4
          go_wp2_with fail
          go_quiet (fail)
          generalize hV5 : World.drewN _ _ = V5
          replace H5 := (show Below w3.heap.size w3 V5 from by rw [← hV5]; exact below_drewN H5 _)
          replace q0 : V5.cell? ⟨w4.heap.size, 0, none⟩ = some (.int .i64 x1) := by rw [← hV5]; exact q0
          replace q1 : V5.cell? ⟨w4.heap.size, 1, none⟩ = some (.int .i64 (x1 + pw x2 - 1)) := by rw [← hV5]; exact q1
          replace c1 : V5.cell? ⟨ba, oa + k * 2, none⟩ = some (.int .i64 x1) := by rw [← hV5]; exact c1
          replace c2 : V5.cell? ⟨ba, oa + k * 2 + 1, none⟩ = some (.int .i64 x2) := by rw [← hV5]; exact c2
          have KEY6 := Lib.hid (show ∀ (m : Nat), m + 1 = k → ∃ y1 y2 : Int, V5.cell? ⟨ba, oa + m * 2, none⟩ = some (.int .i64 y1) ∧ V5.cell? ⟨ba, oa + m * 2 + 1, none⟩ = some (.int .i64 y2) ∧ (y2 = x2 → pvB y1 (x2 - 1) = false) from by rw [← hV5]; exact KEY5.out)
          clear KEY5 hV5 d1 d2
          rcases Nat.eq_zero_or_pos k with hkz | hkz
          · have hk1 : decide ((0 : Int) < k) = false := by simp; omega
            have hk2 : decide (0 < k) = false := by simp; omega
            clear hkz
            go_wp2_with fail
            go_quiet (fail)
            generalize hq : World.drewN _ _ = V
            have HV := Lib.hid (show Below w3.heap.size w3 V from by rw [← hq]; exact below_drewN H5 _)
            clear hq H5
            go_wp2
            go_roundg (gk - 1)
            case measure => have := HG.out; omega
            case rel => exact ⟨k + 1, by have := HG.out; omega, by go_num, by rw [HPS.out], HV.out⟩
          · obtain ⟨m, hm⟩ : ∃ m, m + 1 = k := ⟨k - 1, by omega⟩
            obtain ⟨y1, y2, y3, y4, y5⟩ := KEY6.out m hm
            have hk1 : decide ((0 : Int) < k) = true := by simp; omega
            have hk2 : decide (0 < k) = true := by simp; omega
            have hm0 : (0 : Int) ≤ m := by omega
            have hmm : IntKind.i64.wrap ((k : Int) - 1) = (m : Int) := by rw [IntWalk.i64_in _ (by omega)]; omega
            have hml : (m : Int) < L.length := by omega
            clear hm hkz
            by_cases hy : y2 = x2
            · have KF := Lib.hid (y5 hy)
              have hyb : (y2 == x2) = true := by simpa using hy
              clear hy y5
              go_wp2_with fail
              have CP := Lib.hid (fun d os => Calls.regrown_of (by have := iPrefixValid_any y1 (x2 - 1) (grow (redrawn V5 d) os); rwa [KF.out] at this))
              have k1 := cell_regrown c1
              have k2 := cell_regrown c2
              have k3 := cell_regrown y3
              have k4 := cell_regrown y4
              have hw1 : IntKind.i64.wrap (x2 - 1) = x2 - 1 := IntWalk.i64_in _ (by omega)
              refine wp_region_quiet_below (by kernel_rfl) (by kernel_rfl) ?_
              repeat (any_goals (first | go_big_quiet_step ((go_at_call 16; exact CP.out _ _)) | quiet_step ((go_at_call 16; exact CP.out _ _))))
              refine wpQuiet_nil ?_
              intro _ hw'
              obtain ⟨⟨dq, osq⟩, hw''⟩ := hw'
              subst hw''
              have H6 := chain H5 (below_regrown V5 dq osq) H5.size
              clear k1 k2 k3 k4 CP hw1
              dsimp only
              generalize grow (redrawn V5 dq) osq = V at *
              go_wp2
              go_roundg (gk - 1)
              case measure => have := HG.out; omega
              case rel => exact ⟨k + 1, by have := HG.out; omega, by go_num, by rw [HPS.out], H6⟩
            · have hyb : (y2 == x2) = false := by simpa using hy
              clear hy y5
              go_wp2_with fail
              go_quiet (fail)
              generalize hq : World.drewN _ _ = V
              have HV := Lib.hid (show Below w3.heap.size w3 V from by rw [← hq]; exact below_drewN H5 _)
              clear hq H5
              go_wp2
              go_roundg (gk - 1)
              case measure => have := HG.out; omega
              case rel => exact ⟨k + 1, by have := HG.out; omega, by go_num, by rw [HPS.out], HV.out⟩
        · obtain rfl : k = L.length := by omega
          have hfin := G2.out
          rw [hfin]
          have HF := Lib.hid (chain H3.out hb H3.out.size)
          have t0' := keepCell hb t0
          have t1' := keepCell hb t1
          have hl30 : (L.length : Int) ≤ 30 := by omega
          have hhi : IntKind.i64.wrap (hi + 1) = hi + 1 := IntWalk.i64_in _ (by omega)
          clear t0 t1 hb hfin
          go_wp2
          go_ret
          exact ⟨rfl, HF.out⟩
    · have hc : coverV lo hi = [] := if_neg hv
      rw [hc]
      have HC := Lib.hid hc
      clear hc hlen hv R2 R3 t0 t1
      go_wp2_with fail
      refine (alive_any _).mono ?_
      rintro e w4 ⟨rfl, hb4⟩
      have H4 := chain H3.out hb4 H3.out.size
      clear hb4
      go_wp2
      go_ret
      exact ⟨rfl, H4⟩
  · have hn1 : (1048576 : Int) < n := by omega
    clear hn
    go_enter Try.func7, Try.ntmps7
    go_wp2
    go_ret
    exact ⟨rfl, Below.refl _ _⟩
end Go.Proofs.Ytcodmhndigkplaa
